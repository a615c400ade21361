/-
  AM, 29: a law that the machine answers true is a row's step. Conditions: the law answers true and leaves what lay there.
-/
import Derived.ShutString
import Derived.Carry
import Derived.OpenShut
import Derived.WalkKit
import Derived.WideShapes
namespace Go.AM
open Go Go.RowKit Go.ChangeShapes Go.WideShapes

def argsCk (P : Program) : List TypeId → Bool
  | [] => true
  | t :: ts => (P.readableRec t && decide (t < P.types.size)) && argsCk P ts
section
variable {H : Type} {enc : TypeId × Value → H} {P : Program}
theorem args_stay (hl : laidOutB P = true) {W W' : World} (hb : Below W.heap.size W W') {sp' : Nat → Bool} : ∀ {ts : List TypeId} {vs : List Value} {ds : List (DataW H)} {ps : List MemPlace}, argsCk P ts = true →
    DataW.TrodAll enc P W 0 (fun _ => true) true ts vs ds ps → (∀ p ∈ ps, p.block < W.heap.size) → (∀ p ∈ ps, sp' p.block = true) → DataW.TrodAll enc P W' 0 sp' true ts vs ds ps
  | [], vs, ds, ps, _, h, _, _ => by
    obtain ⟨rfl, rfl, rfl⟩ := trodAll_nil h
    exact trodAll_mk0
  | t :: ts, vs, ds, ps, hck, h, hlt, hsp => by
    obtain ⟨v0, vs0, d0, ds0, p0, q0, rfl, rfl, rfl, h0, r0⟩ := trodAll_cons h
    unfold argsCk at hck
    simp only [Bool.and_eq_true, decide_eq_true_eq] at hck
    obtain ⟨⟨hk1, hk2⟩, hck⟩ := hck
    refine trodAll_cons_mk (WideElems.Trod_stays hl hk1 hk2 h0 (fun x hx => hb.same (hlt x (List.mem_append.2 (.inl hx)))) (fun x hx => hsp x (List.mem_append.2 (.inl hx)))) ?_
    exact args_stay hl hb hck r0 (fun x hx => hlt x (List.mem_append.2 (.inr hx))) (fun x hx => hsp x (List.mem_append.2 (.inr hx)))
theorem trodAll_len {base : Nat} {sp : Nat → Bool} {held : Bool} {W : World} : ∀ {ts : List TypeId} {vs : List Value} {ds : List (DataW H)} {ps : List MemPlace}, DataW.TrodAll enc P W base sp held ts vs ds ps → ds.length = ts.length ∧ vs.length = ts.length
  | [], vs, ds, ps, h => by
    obtain ⟨rfl, rfl, rfl⟩ := trodAll_nil h
    exact ⟨rfl, rfl⟩
  | t :: ts, vs, ds, ps, h => by
    obtain ⟨v0, vs0, d0, ds0, p0, q0, rfl, rfl, rfl, h0, r0⟩ := trodAll_cons h
    obtain ⟨h1, h2⟩ := trodAll_len r0
    exact ⟨by simp [h1], by simp [h2]⟩
/-- A LAW's STEP: it answers true; the arguments read as they did. -/
theorem law_calls {f : FuncId} {fn : Func} {s : ChangeSpec} {tb : TypeId} {apart handsOn : Bool} (hrt : fn.resultTypes = #[tb]) (htb : P.underlying tb = some .bool)
    (hl : laidOutB P = true) (hck : argsCk P fn.params.toList = true) (hsv : s.vars = []) (hs : ∀ ds : List (DataW H), ds.length = fn.params.size → s.fn H ds = { results := [.lit (.bool true)], args := ds })
    {W : World} {args : Array Value} {ds gs : List (DataW H)} {before : List MemPlace}
    (hC : args.size = fn.params.size → Calls P f args W fun r w' => r = .returned (.bool true) ∧ w'.os = W.os ∧ w'.tape = W.tape ∧ w'.output = W.output ∧ W.heap.size ≤ w'.heap.size ∧ ∀ b, b < W.heap.size → w'.heap[b]? = W.heap[b]?)
    (hW : DataW.Whole enc P fn.params.toList s.vars apart W args.toList ds gs before) :
    Calls P f args W fun e W' => ∃ v, e = .returned v ∧ s.post enc P fn apart true handsOn false W args v W' := by
  have hlt := hW.lt
  have hW' := hW
  obtain ⟨p, q, hA, hV, rfl, _, _⟩ := hW
  rw [hsv] at hV
  obtain ⟨rfl, rfl⟩ := trodVars_none hV
  rw [List.append_nil] at hlt hW'
  obtain ⟨hlen, hlen2⟩ := trodAll_len hA
  refine (hC (by simpa using hlen2)).mono fun e W' ⟨he, h1, h2, h3, h4, h5⟩ => ⟨_, he, ?_⟩
  have hb : Below W.heap.size W W' := ⟨h1, h2, h3, h4, h5⟩
  have hsfn : s.fn H (ds ++ []) = { results := [.lit (.bool true)], args := ds } := by
    rw [List.append_nil]; exact hs ds (by rw [hlen]; simp)
  refine ⟨ds, [], p, [], p, [], hW', ?_, ?_, ?_, hb.frame _, fun h => by cases h⟩
  · rw [hsfn, hrt]
    exact trodAll_cons_mk (shut_bool htb true) trodAll_mk0
  · rw [hsfn]
    exact args_stay hl hb hck hA hlt fun x hx => by simpa using hlt x hx
  · rw [hsfn, hsv]
    exact rfl
end
end Go.AM
