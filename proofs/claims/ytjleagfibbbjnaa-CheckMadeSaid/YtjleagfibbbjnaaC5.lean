/- A part of the proof of this: the law CheckMade. Conditions: none. Joined of DenP, DenQ, DenM, DenT, DenU, DenV, DenZ, DenAm, M15WR, P1, P2, B1, B2, F1, F2, P10, P11, B60, F60, B61, F61, B62, F62, B63, F63, B65, F65, B66. -/
import Derived.Test.YtjleagfibbbjnaaC4
import Derived.LoopN
import Derived.Laws.StructEq
import Derived.ProofKit
import Derived.Deep.Slices
import Derived.Below
import Derived.ShutString
import Derived.Carry
import Derived.OpenShut
import Derived.Test.YtjleagfibbbjnaaProg
import Derived.KernelRfl
namespace Go.Den
open Go Go.RowKit
section
variable {C : Ctx} {a : Act} {w : World} {Z : Nat → Prop} {G : Nat → Value} {o : Oper}
theorem bin_ints {op : BinOp} {t : TypeId} {x y : Operand} {i j : IntKind} {m n : Int} {v : Value} (hx : a.eval x = .int i m) (hy : a.eval y = .int j n)
    (h : ∀ w' : World, (binOp op t (.int i m) (.int j n)).run C.P w' = .ok v w') : ∀ w' : World, (do eqGuard op t x y (a.eval x) (a.eval y); binOp op t (a.eval x) (a.eval y)).run C.P w' = .ok v w' := by
  intro w'
  rw [hx, hy]
  simp only [Sem.run_bind, eqGuard_int, Result.andThen, h]
theorem bin_all (hC : C.Ok) {op : BinOp} {t : TypeId} {x y : Operand} {sx sy : SV} {k : SV → Prop} (hx : RepSV w Z G sx (a.eval x)) (hy : RepSV w Z G sy (a.eval y))
    (h : bin C op t sx sy k) : ∃ s v, k s ∧ RepSV w Z G s v ∧ ∀ w' : World, (do eqGuard op t x y (a.eval x) (a.eval y); binOp op t (a.eval x) (a.eval y)).run C.P w' = .ok v w' := by
  unfold bin at h
  split at h
  · rename_i i m j n
    obtain ⟨hx, hmr⟩ : a.eval x = .int i m.int ∧ i.min ≤ m.int ∧ m.int ≤ i.max := hx
    have hy : a.eval y = .int j n.int := hy.1
    split at h
    · rcases cond_some h with ⟨_, h⟩ | ⟨hb, h⟩
      · cases h
      · have hb : ¬ n.int < 0 := of_decide_eq_false hb
        refine ⟨_, .int i (i.wrap (m.int * 2 ^ (min n.int.toNat i.bits))), h, rep_wrap _ _, bin_ints hx hy fun w' => ?_⟩
        simp [binOp, Op.shift, hb]
    · rcases cond_some h with ⟨_, h⟩ | ⟨hb, h⟩
      · cases h
      · have hb : ¬ n.int < 0 := of_decide_eq_false hb
        refine ⟨_, .int i (m.int.fdiv (2 ^ (min n.int.toNat i.bits))), h, rep_div hmr _, bin_ints hx hy fun w' => ?_⟩
        simp [binOp, Op.shift, hb]
    · rename_i hnl hnr
      split at h
      · cases h
      · rename_i hs
        have := same_eq hs
        subst this
        split at h
        · rcases cond_some h with ⟨_, h⟩ | ⟨hb, h⟩
          · cases h
          · have hb : ¬ n.int = 0 := of_decide_eq_false hb
            refine ⟨_, .int i (i.wrap (m.int.tdiv n.int)), h, rep_wrap _ _, bin_ints hx hy fun w' => ?_⟩
            simp [binOp, Op.intDiv, hb]
        · rcases cond_some h with ⟨_, h⟩ | ⟨hb, h⟩
          · cases h
          · have hb : ¬ n.int = 0 := of_decide_eq_false hb
            refine ⟨_, .int i (m.int.tmod n.int), h, rep_mod hmr _, bin_ints hx hy fun w' => ?_⟩
            simp [binOp, Op.intDiv, hb]
        · rename_i hnq hnm
          split at h
          · rename_i z hz
            refine ⟨_, .int i z, h, arith_rep hz, bin_ints hx hy fun w' => ?_⟩
            cases op <;> simp [arith] at hz <;> subst hz <;> simp [binOp, Op.intArith, Op.intBits]
          · rename_i hz
            split at h
            · rename_i b hb
              refine ⟨_, .bool b, h, rfl, bin_ints hx hy fun w' => ?_⟩
              cases op <;> simp [cmp] at hb <;> subst hb <;> simp [binOp, Op.intCmp]
            · cases h
  · rename_i m n
    have hx : a.eval x = .string m.str := hx.1
    have hy : a.eval y = .string n.str := hy.1
    split at h
    · refine ⟨_, .bool (m.str.toList == n.str.toList), h, rfl, fun w' => ?_⟩
      rw [hx, hy]
      simp [eqGuard, binOp, Op.stringOp]
    · refine ⟨_, .bool !(m.str.toList == n.str.toList), h, rfl, fun w' => ?_⟩
      rw [hx, hy]
      simp [eqGuard, binOp, Op.stringOp]
    · cases h
  · rename_i m n
    have hx : a.eval x = .bool m.bool := hx
    have hy : a.eval y = .bool n.bool := hy
    split at h
    · rename_i hu
      split at h
      · refine ⟨_, .bool (m.bool == n.bool), h, rfl, fun w' => ?_⟩
        rw [hx, hy]
        simp [eqGuard, binOp, run_equal_bool hu]
      · refine ⟨_, .bool !(m.bool == n.bool), h, rfl, fun w' => ?_⟩
        rw [hx, hy]
        simp [eqGuard, binOp, run_equal_bool hu]
      · cases h
    · cases h
  · rename_i xs ys
    split at h
    · rename_i ks hks
      split at h
      · rename_i b hb
        obtain ⟨vs, hvx, hrx⟩ := hx
        obtain ⟨us, hvy, hry⟩ := hy
        obtain ⟨is, js, l1, l2, e1, e2, rfl⟩ := eqCells_ints hb hrx hry
        have h12 := fun w' => hC.eqs t ks hks x y is js w' l1 l2
        have hx : a.eval x = aggI ks is := by rw [hvx]; unfold aggI; rw [← e1]
        have hy : a.eval y = aggI ks js := by rw [hvy]; unfold aggI; rw [← e2]
        split at h
        · refine ⟨_, .bool (decide (is = js)), h, rfl, fun w' => ?_⟩
          rw [hx, hy]; exact (h12 w').1
        · refine ⟨_, .bool (!decide (is = js)), h, rfl, fun w' => ?_⟩
          rw [hx, hy]; exact (h12 w').2
        · cases h
      · cases h
    · cases h
  · rename_i mm cs u
    split at h
    · rename_i el hu
      obtain ⟨A, c, hx, _, _, hel⟩ := hx
      have hy : a.eval y = .slice none 0 0 := hy
      cases A with
      | none =>
        have h0 := nil_of_none (fun h => let ⟨b, o, e, _⟩ := hel 0 h; ⟨b, o, e⟩)
        split at h
        · refine ⟨_, .bool true, h.t h0, rfl, fun w' => ?_⟩
          rw [hx, hy]
          simp [eqGuard, binOp, run_equal_nil hu]
        · refine ⟨_, .bool false, h.t h0, rfl, fun w' => ?_⟩
          rw [hx, hy]
          simp [eqGuard, binOp, run_equal_nil hu]
        · cases h
      | some p =>
        split at h
        · refine ⟨_, .bool false, h.f, rfl, fun w' => ?_⟩
          rw [hx, hy]
          simp [eqGuard, binOp, run_equal_nil hu]
        · refine ⟨_, .bool true, h.f, rfl, fun w' => ?_⟩
          rw [hx, hy]
          simp [eqGuard, binOp, run_equal_nil hu]
        · cases h
    · cases h
  · cases h
end
def kept (kb ka : Bool) : Obj → Bool
  | .arr _ _ => ka
  | _ => kb
def Held (kb ka : Bool) (σ : St) (G : Nat → Value) (Z : Nat → Prop) (b : Nat) : Prop := Z b ∨ ∃ id ob, getO σ.objs id = some ob ∧ blk (G id) = some b ∧ kept kb ka ob = true
section
variable {C : Ctx} {Θ : Anc} {n : Nat} {σ : St} {a : Act} {w : World} {Z : Nat → Prop} {G : Nat → Value} {o : Oper} {k : St → Prop}
theorem quiet_sound (hC : C.Ok) (S : Sim C.P Θ n σ a w Z G) {kb ka : Bool} (hq : quietOp C.P kb ka σ o = true) (h : op1 C o σ k) :
    ∃ s v, k (setD σ o.dst s) ∧ RepSV w Z G s v ∧ ∀ w' : World, (∀ b, Held kb ka σ G Z b → w'.heap[b]? = w.heap[b]?) → (execOp a.eval o).run C.P w' = .ok (.value v) w' := by
  have h0 := h
  unfold quietOp at hq
  unfold op1 at h
  split at hq
  · rename_i x ho
    simp only [ho] at h
    exact ⟨_, _, h, S.ev x, fun w' _ => by simp [execOp, ho]⟩
  · rename_i x ho
    simp only [ho] at h
    have hn : isNil (σ.ev x) = false := by simpa using hq
    split at h
    · rename_i h1 _ _; rw [hn] at h1; cases h1
    · exact ⟨_, _, h, S.ev x, fun w' _ => by simp [execOp, ho]⟩
  · rename_i c x y ho
    simp only [ho] at h
    split at h
    · rename_i u hu
      have hc : a.eval c = .bool u.bool := by have := S.ev c; rw [hu] at this; exact this
      rcases cond_some h with ⟨hb, h⟩ | ⟨hb, h⟩
      · exact ⟨_, _, h, S.ev x, fun w' _ => by simp [execOp, ho, hc, asBool, hb]⟩
      · exact ⟨_, _, h, S.ev y, fun w' _ => by simp [execOp, ho, hc, asBool, hb]⟩
    · cases h
  · rename_i t x ho
    simp only [ho] at h
    have hx := S.ev x
    split at h
    · rename_i id off hp
      rw [hp] at hx
      simp only [hp] at hq
      obtain ⟨b, hG, hv⟩ := hx
      split at h
      · rename_i cells hob
        split at h
        · rename_i s hs
          obtain ⟨b', ty, c, h1, h2, h3⟩ := S.obj id _ hob
          rw [hG] at h1
          cases h1
          obtain ⟨v, hl, hrep⟩ := run_load_all (P := C.P) (o := 0) (b := b) h3 (fun j v hj => by rw [Nat.zero_add, cell_of_row w b j c ty (0, 0) h2]; simpa using hj) hs
          refine ⟨_, v, h, hrep, fun w' hw' => ?_⟩
          have := hl w' (hw' b (.inr ⟨id, _, hob, by rw [hG]; rfl, hq⟩))
          rw [Nat.zero_add] at this
          simp [execOp, ho, hv, Instr.loadAt, Instr.sureAddr, this]
        · cases h
      · cases h
    · rename_i id sz j off hp
      rw [hp] at hx
      simp only [hp] at hq
      obtain ⟨b, n', c, hG, hv⟩ := hx
      split at h
      · rename_i e xs hob
        split at h
        · rename_i m cs hcs
          obtain ⟨hb, h'⟩ := cond_only h
          clear h
          simp only [Bool.and_eq_true] at hb
          have hsz := Nat.eq_of_beq_eq_true hb.1
          have hj : j < xs.length := by simpa [Nat.blt_eq] using hb.2
          subst hsz
          split at h'
          · rename_i s hs
            obtain ⟨m2, cs2, vs, h1, h2, h3⟩ := S.obj id _ hob
            rw [hcs] at h1
            cases h1
            obtain ⟨p, q, r', hvs, hpl, hq'⟩ := h3.at_ j hj
            have hcell := World.ownsRow.cells h2 (g := b) (by rw [hG]; rfl)
            obtain ⟨v, hl, hrep⟩ := run_load_all (P := C.P) (o := j * cs.length) (b := b) (G := G) (RepL.vals hq') (fun i v hi => by
              have := hcell (p.length + i) v (by rw [hvs, List.append_assoc, List.getElem?_append_right (by omega), Nat.add_sub_cancel_left, List.getElem?_append_left (by
                have := (List.getElem?_eq_some_iff.1 hi).1; omega)]; exact hi)
              rw [addr_add, hpl] at this
              simpa using this) hs
            refine ⟨_, v, h', hrep, fun w' hw' => ?_⟩
            have := hl w' (hw' b (.inr ⟨id, _, hob, by rw [hG]; rfl, hq⟩))
            simp [execOp, ho, hv, Instr.loadAt, Instr.sureAddr, this]
          · cases h'
        · cases h
      · cases h
    · rename_i cs us hp
      rw [hp] at hx
      obtain ⟨b, off, hv, hb, hr⟩ := hx
      split at h
      · rename_i s hs
        obtain ⟨vs, hl, hvs, hcell⟩ := RepCs.vals (G := G) hr
        obtain ⟨v, hl', hrep⟩ := run_load_all (P := C.P) (o := off) (b := b) hvs hcell hs
        refine ⟨_, v, h, hrep, fun w' hw' => ?_⟩
        have := hl' w' (hw' b (.inl hb))
        simp only [Nat.add_zero] at this
        simp [execOp, ho, hv, Instr.loadAt, Instr.sureAddr, this]
      · cases h
    · cases h
  · rename_i x ho
    simp only [ho] at h
    have hx := S.ev x
    split at h
    · rename_i id off hp
      rw [hp] at hx
      obtain ⟨b, hG, hv⟩ := hx
      exact ⟨_, _, h, ⟨b, hG, rfl⟩, fun w' _ => by simp [execOp, ho, hv]⟩
    · rename_i id sz j off hp
      rw [hp] at hx
      obtain ⟨b, n', c, hG, hv⟩ := hx
      exact ⟨_, _, h, ⟨b, n', c, hG, rfl⟩, fun w' _ => by simp [execOp, ho, hv]⟩
    · rename_i cs us hp
      rw [hp] at hx
      obtain ⟨b, off, hv, hb, hr⟩ := hx
      exact ⟨_, _, h, ⟨b, off, rfl, hb, hr⟩, fun w' _ => by simp [execOp, ho, hv]⟩
    · cases h
  · rename_i op t x y t2 ho
    simp only [ho] at h
    obtain ⟨s, v, h1, h2, h3⟩ := bin_all (a := a) (x := x) (y := y) hC (S.ev x) (S.ev y) h
    refine ⟨s, v, h1, h2, fun w' _ => ?_⟩
    have h3 := h3 w'
    simp only [Sem.run_bind] at h3
    simp only [execOp, ho, Sem.run_bind]
    cases hg : (eqGuard op t x y (a.eval x) (a.eval y)).run C.P w' with
    | ok u w1 =>
      rw [hg] at h3
      simp only [Result.andThen] at h3 ⊢
      rw [h3]
      rfl
    | halt e w1 => rw [hg] at h3; simp [Result.andThen] at h3
  · rename_i op t x ho
    simp only [ho] at h
    cases op <;> first | (exact h.elim) | dsimp only at h
    · split at h
      · rename_i i u hu
        have hx : a.eval x = .int i u.int := by have := S.ev x; rw [hu] at this; exact this.1
        exact ⟨_, .int i (i.wrap (0 - u.int)), h, rep_wrap _ _, fun w' _ => by simp [execOp, ho, hx, Op.unary, Op.intArith]⟩
      · cases h
    · split at h
      · rename_i i u hu
        have hx : a.eval x = .int i u.int := by have := S.ev x; rw [hu] at this; exact this.1
        exact ⟨_, .int i (compl i u.int), h, rep_wrap _ _, fun w' _ => by simp [execOp, ho, hx, run_compl]⟩
      · cases h
    · split at h
      · rename_i u hu
        have hx : a.eval x = .bool u.bool := by have := S.ev x; rw [hu] at this; exact this
        exact ⟨_, .bool !u.bool, h, rfl, fun w' _ => by simp [execOp, ho, hx, Op.unary]⟩
      · cases h
  · rename_i s t x ho
    simp only [ho] at h
    have hx := S.ev x
    split at h
    · rename_i i1 i kd u hs ht hp
      rw [hp] at hx
      have hx : a.eval x = .int kd u.int := hx.1
      exact ⟨_, .int i (i.wrap u.int), h, rep_wrap _ _, fun w' _ => by simp [execOp, ho, hx, convert, run_underlying hs, run_underlying ht, Conv.intToInt]⟩
    · rename_i e hs ht
      split at h
      · rename_i he
        split at h
        · rename_i u hu
          have hpl : plainU (.sl false [.int .u8]) (σ.ev x) = some u := by
            unfold toU at hu
            split at hu
            · rename_i id hid
              simp only [hs, hid] at hq
              cases hq
            · exact hu
          have hr := plainU_rep hpl hx
          refine ⟨_, .string ⟨(u.list.map fun x : U => UInt8.ofNat x.int.toNat).toArray⟩, h, ⟨rfl, by have := hr.ok.1; simpa [ByteArray.size] using this⟩, fun w' hw' => ?_⟩
          have hr' := RepC.mono (w' := w') (Z' := Z) ⟨fun _ h => h, fun b hb => hw' b (.inl hb)⟩ _ _ _ hr
          have hrun := run_toString (C := C) hr'
          obtain ⟨A, c, hv, _⟩ := hr
          rw [hv] at hrun
          simp [execOp, ho, hv, convert, run_underlying hs, run_underlying ht, run_underlying he, hrun]
        · cases h
      · cases h
    · rename_i u hs ht hp
      rw [hp] at hx
      obtain ⟨hx, hxs⟩ : a.eval x = .string u.str ∧ u.str.size ≤ maxLen := hx
      exact ⟨_, .string u.str, h, ⟨rfl, hxs⟩, fun w' _ => by simp [execOp, ho, hx, convert, run_underlying hs, run_underlying ht]⟩
    · cases h
  · rename_i s x f ho
    simp only [ho] at h
    split at h
    · rename_i fd hf
      split at h
      · rename_i k' hs
        have hx := S.ev x
        have hf0 := hf
        unfold fieldOf at hf
        split at hf
        · rename_i fs hu
          split at h
          · rename_i id off hp
            rw [hp] at hx
            obtain ⟨b, hG, hv⟩ := hx
            exact ⟨_, .pointer (some ⟨b, off + fd.offset, none⟩), h, ⟨b, hG, rfl⟩, fun w' _ => by simp [execOp, ho, hv, Instr.fieldAt, run_underlying hu, hf, Instr.sureAddr, fieldPlace, run_size hs, addr_add]⟩
          · rename_i id sz j off hp
            rw [hp] at hx
            obtain ⟨b, n', c, hG, hv⟩ := hx
            exact ⟨_, .pointer (some ⟨b, (j * sz + off) + fd.offset, none⟩), h, ⟨b, n', c, hG, by rw [Nat.add_assoc]⟩, fun w' _ => by simp [execOp, ho, hv, Instr.fieldAt, run_underlying hu, hf, Instr.sureAddr, fieldPlace, run_size hs, addr_add]⟩
          · rename_i cs us hp
            rw [hp] at hx
            obtain ⟨b, off, hv, hb, hr⟩ := hx
            exact ⟨_, .pointer (some ⟨b, off + fd.offset, none⟩), h, ⟨b, off + fd.offset, rfl, hb, hr.drop fd.offset⟩, fun w' _ => by simp [execOp, ho, hv, Instr.fieldAt, run_underlying hu, hf, Instr.sureAddr, fieldPlace, run_size hs, addr_add]⟩
          · cases h
        · cases hf
      · cases h
    · cases h
  · rename_i s x f ho
    simp only [ho] at h
    have hx := S.ev x
    split at h
    · rename_i fd cells hf hp
      rw [hp] at hx
      obtain ⟨vs, hv, hr⟩ := hx
      split at h
      · rename_i v hpt
        obtain ⟨v', hrun, hrep⟩ := run_part (P := C.P) hr hpt
        unfold fieldOf at hf
        split at hf
        · rename_i fs hu
          exact ⟨_, v', h, hrep, fun w' _ => by simp [execOp, ho, hv, Instr.field, run_underlying hu, hf, asAgg, hrun w']⟩
        · cases hf
      · cases h
    · cases h
  · rename_i t x i ho
    simp only [ho] at h
    have hx := S.ev x
    have hi := S.ev i
    split at h
    · rename_i e m cs u kd j hu hp hj
      rw [hp] at hx
      rw [hj] at hi
      have hi : a.eval i = .int kd j.int := hi.1
      obtain ⟨hb1, h⟩ := cond_only h
      obtain ⟨hb, h⟩ := cond_only h
      obtain ⟨h1, h2⟩ := of_decide_eq_true hb
      obtain ⟨A, c, hv, hc, hcm, hel⟩ := hx
      obtain ⟨b, off, hA, hZ, hr⟩ := hel j.int.toNat (by omega)
      rw [hA] at hv
      exact ⟨_, .pointer (some ⟨b, off + j.int.toNat * cs.length, none⟩), h, ⟨b, _, rfl, hZ, hr⟩, fun w' _ => by simp [execOp, ho, hv, hi, Instr.indexAt, asIntOf, run_underlying hu, run_size (isSize_some hb1), addr_add, h1, h2]⟩
    · rename_i e' id kd j hu hp hj
      rw [hp] at hx
      rw [hj] at hi
      have hi : a.eval i = .int kd j.int := hi.1
      split at h
      · rename_i e xs hob
        split at h
        · rename_i m cs hcs
          obtain ⟨hb1, h⟩ := cond_only h
          obtain ⟨hb, h⟩ := cond_only h
          obtain ⟨h1, h2⟩ := of_decide_eq_true hb
          obtain ⟨m2, cs2, vs, g1, g2, g3⟩ := S.obj id _ hob
          rw [hcs] at g1
          cases g1
          rcases g2.2 with ⟨_, g4⟩ | ⟨g, cap, cur, g4, _⟩
          · omega
          have hx : a.eval x = G id := hx
          rw [g4] at hx
          exact ⟨_, .pointer (some ⟨g, 0 + j.int.toNat * cs.length, none⟩), h, ⟨g, xs.length, cap, g4, by simp⟩, fun w' _ => by simp [execOp, ho, hx, hi, Instr.indexAt, asIntOf, run_underlying hu, run_size (isSize_some hb1), addr_add, h1, h2]⟩
        · cases h
      · cases h
    · cases h
  · rename_i t x i ho
    simp only [ho] at h
    have hx := S.ev x
    have hi := S.ev i
    split at h
    · rename_i s kd j hu hp hj
      rw [hp] at hx
      rw [hj] at hi
      have hx : a.eval x = .string s.str := hx.1
      have hi : a.eval i = .int kd j.int := hi.1
      obtain ⟨hb, h⟩ := cond_only h
      obtain ⟨h1, h2⟩ := of_decide_eq_true hb
      have hj' : j.int.toNat < s.str.size := by omega
      have hget : s.str[j.int.toNat]? = some s.str[j.int.toNat] := by simp [hj']
      have hdata : s.str.data[j.int.toNat]? = some s.str[j.int.toNat] := Array.getElem?_eq_getElem hj'
      exact ⟨_, .int .u8 (s.str.data.toList.getD j.int.toNat 0).toNat, h, rep_u8 _, fun w' _ => by simp [execOp, ho, hx, hi, Instr.index, asIntOf, run_underlying hu, h1, hget, hdata]⟩
    · cases h
  · rename_i x i ho
    simp only [ho] at h
    have hx := S.ev x
    split at h
    · rename_i vs hp
      rw [hp] at hx
      obtain ⟨us, hv, hr⟩ := hx
      obtain ⟨hb, h⟩ := cond_only h
      have hb : i < vs.length := by simpa [Nat.blt_eq] using hb
      have hl := hr.length
      have hi : i < us.size := by simp at hl; omega
      have hget : us[i]? = some us[i] := Array.getElem?_eq_getElem hi
      exact ⟨_, us[i], h, hr.nth i _ (by simp [hi]), fun w' _ => by simp [execOp, ho, hv, Instr.extract, hget]⟩
    · cases h
  · rename_i t x lo hi mx ho
    simp only [ho] at h
    split at h
    · rename_i e l h1 m hu hl hh hm
      split at h
      · rename_i mm cs u hx
        obtain ⟨hsz, h⟩ := cond_only h
        unfold op1.sliceK at h
        obtain ⟨hb, h⟩ := cond_only h
        simp only [Bool.and_eq_true] at hb
        have hmh : m.isSome = true → h1.isSome = true := fun hms => by
          cases m with
          | none => cases hms
          | some m => cases h1 with
            | none => simp at hb
            | some _ => rfl
        have hb := of_decide_eq_true hb.1
        have hs := isSize_some hsz
        have hv := S.ev x
        rw [hx] at hv
        obtain ⟨A, c, hv, hc, hcm, hel⟩ := hv
        have hbr := fun w' : World => run_bounds (P := C.P) (isSlice := true) (w := w') hc (lst_rep S hl) (lst_rep S hh) (lst_rep S hm) hmh hb
        obtain ⟨b1, b2, b3, b4⟩ := hb
        have hm' : (m.getD c).toNat = c ∨ (∃ im, m = some im ∧ (m.getD c).toNat = im.toNat) := by cases m with
          | none => left; simp
          | some im => right; exact ⟨im, rfl, rfl⟩
        refine ⟨_, .slice (if (m.getD c).toNat = (l.getD 0).toNat then A else A.map (·.add ((l.getD 0).toNat * cs.length))) ((h1.getD u.list.length).toNat - (l.getD 0).toNat) ((m.getD c).toNat - (l.getD 0).toNat), h, ?_, fun w' _ => ?_⟩
        · have hlen : ((u.list.take (h1.getD u.list.length).toNat).drop (l.getD 0).toNat).length = (h1.getD u.list.length).toNat - (l.getD 0).toNat := by
            simp only [List.length_drop, List.length_take]; omega
          have hcapm : (h1.getD u.list.length).toNat ≤ (m.getD c).toNat := by
            cases m with
            | none => simp only [Option.getD_none] at *; omega
            | some im => simp only [Option.getD_some] at *; omega
          refine ⟨_, _, by rw [U.list_l, hlen], by rw [U.list_l, hlen]; omega, ?_, fun i hi => ?_⟩
          · cases m with
            | none => simp only [Option.getD_none] at *; omega
            | some im => simp only [Option.getD_some] at *; omega
          rw [U.list_l, hlen] at hi
          obtain ⟨b, off, hA, hZ, hr⟩ := hel ((l.getD 0).toNat + i) (by omega)
          rw [if_neg (by omega), hA]
          refine ⟨b, off + (l.getD 0).toNat * cs.length, by simp [addr_add], hZ, ?_⟩
          have hat : U.at (U.l ((u.list.take (h1.getD u.list.length).toNat).drop (l.getD 0).toNat)).list i = U.at u.list ((l.getD 0).toNat + i) := by
            rw [U.list_l, at_getElem _ _ (by rw [hlen]; exact hi), at_getElem _ _ (by omega)]
            simp
          rw [hat, Nat.add_assoc, ← Nat.add_mul]
          exact hr
        · simp [execOp, ho, hv, Instr.sliceAt, Instr.slice, run_underlying hu, hbr w', run_size hs]
      · rename_i id hx
        simp [hx] at hq
      · cases h
    · rename_i l h1 hu hl hh hm
      split at h
      · rename_i u hx
        obtain ⟨hb, h⟩ := cond_only h
        have hb := of_decide_eq_true hb
        obtain ⟨hv, hvs⟩ : a.eval x = .string u.str ∧ u.str.size ≤ maxLen := by have := S.ev x; rw [hx] at this; exact this
        have hbr := fun w' : World => run_bounds (P := C.P) (isSlice := false) (w := w') (len := u.str.size) (cap := u.str.size) (Nat.le_refl _) (lst_rep S hl) (lst_rep S hh) (.inl ⟨rfl, rfl⟩) (mx := none) (m := none) (by simp) ⟨hb.1, hb.2.1, by simp, by simpa using hb.2.2⟩
        have hmx : mx = none := by
          rcases lst_rep S hm with ⟨h2, _⟩ | ⟨y, kd, i, _, h2, _⟩
          · exact h2
          · cases h2
        subst hmx
        refine ⟨_, .string (u.str.extract (l.getD 0).toNat (h1.getD u.str.size).toNat), h, ⟨rfl, by show (u.str.extract _ _).size ≤ maxLen; rw [ByteArray.size_extract]; omega⟩, fun w' _ => ?_⟩
        have hbr := hbr w'
        simp only [Option.map_none] at hbr
        simp [execOp, ho, hv, Instr.sliceAt, Instr.slice, run_underlying hu, hbr]
      · cases h
    · cases h
  · rename_i t ps ho
    simp only [ho] at h
    split at h
    · rename_i fs z hu hz
      split at h
      · rename_i cs hs hf
        obtain ⟨out, hr, hrep⟩ := run_build_rep (w := w) (Z := Z) (G := G) S.flat (vs := ps.map fun x => (x.1, a.eval x.2)) hu hz hs hf (by simpa using evps_parts S ps.toList)
        refine ⟨_, .agg out, h, ⟨out, rfl, hrep⟩, fun w' _ => ?_⟩
        have heq : (ps.map fun (i, x) => (i, a.eval x)) = ps.map fun x => (x.1, a.eval x.2) := rfl
        simp only [execOp, ho, Sem.run_bind]
        rw [heq, hr w']
        rfl
      · cases h
    · cases h
  · rename_i f first caps ho
    simp only [ho] at h
    split at h
    · rename_i hfi
      refine ⟨_, .func (.func f) #[] (caps.map a.eval), h, ⟨_, rfl, by simpa using S.evs_rep caps.toList⟩, fun w' _ => ?_⟩
      have : first = #[] := by apply Array.ext'; simpa using hfi
      simp [execOp, ho, Instr.makeFunc, this]
    · cases h
  · rename_i t x ho
    simp only [ho] at h
    split at h
    · cases h
    · rename_i d hni hu
      refine ⟨_, .iface t (a.eval x), h, ⟨_, rfl, S.ev x⟩, fun w' _ => ?_⟩
      simp only [execOp, ho, Instr.makeInterface, Sem.run_bind, run_underlying hu, Result.andThen]
      cases d <;> first | rfl | (exact absurd hu (hni _))
    · cases h
  · rename_i args ts ho
    simp only [ho] at h
    split at h
    · rename_i s t hargs hts
      obtain ⟨p, hp, rfl⟩ := evs_one hargs
      have hx := S.ev p
      have ha' : args = #[p] := by cases args; simp_all
      have ht' : ts = #[t] := by cases ts; simp_all
      subst ha' ht'
      split at h
      · rename_i e m cs u hu hev
        rw [hev] at hx
        have hl : u.list.length ≤ maxLen := (RepC.ok (c := .sl m cs) hx).1
        obtain ⟨A, c, hv, _⟩ := hx
        exact ⟨_, .int .i64 (u.list.length : Int), h, rep_len hl, fun w' _ => by simp [execOp, ho, resolve, invoke, builtin, Builtin.len_, run_underlying hu, hv, goInt]⟩
      · rename_i e id hu hev
        rw [hev] at hx
        split at h
        · rename_i e' xs hob
          obtain ⟨m2, cs2, vs, g1, g2, g3⟩ := S.obj id _ hob
          have hl : xs.length ≤ maxLen := (RepO.ok (S.obj id _ hob)).1
          have hx : a.eval p = G id := hx
          rcases g2.2 with ⟨g4, g5⟩ | ⟨g, cap, cur, g4, _⟩
          · rw [g4] at hx
            exact ⟨_, .int .i64 (xs.length : Int), h, rep_len hl, fun w' _ => by simp [execOp, ho, resolve, invoke, builtin, Builtin.len_, run_underlying hu, hx, goInt, g5]⟩
          · rw [g4] at hx
            exact ⟨_, .int .i64 (xs.length : Int), h, rep_len hl, fun w' _ => by simp [execOp, ho, resolve, invoke, builtin, Builtin.len_, run_underlying hu, hx, goInt]⟩
        · cases h
      · rename_i e hu hev
        rw [hev] at hx
        have hx : a.eval p = .slice none 0 0 := hx
        exact ⟨_, .int .i64 0, h, rep_len (n := 0) (Nat.zero_le _), fun w' _ => by simp [execOp, ho, resolve, invoke, builtin, Builtin.len_, run_underlying hu, hx, goInt]⟩
      · rename_i id hu hev
        rw [hargs, hev] at hq
        cases hq
      · rename_i u hu hev
        rw [hev] at hx
        obtain ⟨hx, hxs⟩ : a.eval p = .string u.str ∧ u.str.size ≤ maxLen := hx
        exact ⟨_, .int .i64 (u.str.size : Int), h, rep_len hxs, fun w' _ => by simp [execOp, ho, resolve, invoke, builtin, Builtin.len_, run_underlying hu, hx, goInt]⟩
      · cases h
    · cases h
  · cases hq
end
end Go.Den

namespace Go.Den
open Go Go.RowKit
def operOk (n : Nat) (o : Oper) : Bool := match o.dst with
  | some t => (match o.op with | .store _ _ _ => false | .mapUpdate _ _ _ _ => false | .entryStore _ _ _ _ => false | _ => true) && Nat.blt t n
  | none => true
def opersOk (n : Nat) : List Oper → Bool
  | [] => true
  | o :: r => match operOk n o with | true => opersOk n r | false => false
theorem operOk_dst {n : Nat} {o : Oper} (h : operOk n o = true) : (∀ t, o.dst = some t → t < n) ∧ (∀ t x y, o.op = .store t x y → o.dst = none) ∧ (∀ {t x i v}, o.op = .mapUpdate t x i v → o.dst = none) ∧ (∀ {t x i v}, o.op = .entryStore t x i v → o.dst = none) := by
  unfold operOk at h
  split at h
  · rename_i t ht
    simp only [Bool.and_eq_true] at h
    refine ⟨fun t' ht' => ?_, fun t' x y ho => ?_, fun ho => ?_, fun ho => ?_⟩
    · rw [ht] at ht'; cases ht'; simpa [Nat.blt_eq] using h.2
    all_goals (rw [ho] at h; simp at h)
  · rename_i ht
    exact ⟨fun t' ht' => (by rw [ht] at ht'; cases ht'), fun _ _ _ _ => ht, fun _ => ht, fun _ => ht⟩
theorem nth_map_some : ∀ (l : List Oper) (j : Nat), nth none (l.map some) j = l[j]?
  | [], 0 => rfl
  | [], _ + 1 => rfl
  | _ :: _, 0 => rfl
  | _ :: l, j + 1 => nth_map_some l j
theorem guard_slot {ops : Array Oper} {j t : Nat} {a : Act} (hgs : gslot ops.toList j = some t) : (∀ b, a.tmps.getD t undef = .bool b → yielded ops a.tmps j = some b) ∧ (a.tmps.getD t undef = undef → yielded ops a.tmps j = none) := by
  have hops : (ops[j]?).bind (·.dst) = some t := by
    unfold gslot at hgs
    rw [nth_map_some] at hgs
    rw [← Array.getElem?_toList]
    cases hj : ops.toList[j]? with
    | none => rw [hj] at hgs; cases hgs
    | some oj => rw [hj] at hgs; exact hgs
  constructor
  · intro b hb
    unfold yielded
    rw [hops]
    simp only [Option.bind_some]
    have : a.tmps[t]? = some (.bool b) := by
      rw [Array.getD_eq_getD_getElem?] at hb
      cases ht : a.tmps[t]? with
      | none => rw [ht] at hb; cases hb
      | some v => rw [ht] at hb; simp at hb; rw [hb]
    rw [this]
  · intro hb
    unfold yielded
    rw [hops]
    simp only [Option.bind_some]
    rw [Array.getD_eq_getD_getElem?] at hb
    cases ht : a.tmps[t]? with
    | none => rfl
    | some v => rw [ht] at hb; simp at hb; rw [hb]; rfl
theorem opersOk_mem {n : Nat} : ∀ {l : List Oper}, opersOk n l = true → ∀ o ∈ l, operOk n o = true
  | [], _, _, h => by cases h
  | p :: r, hok, o, h => by
    unfold opersOk at hok
    split at hok
    · rename_i hp
      rcases List.mem_cons.1 h with rfl | h
      · exact hp
      · exact opersOk_mem hok o h
    · cases hok
theorem opersOk_at {n : Nat} {ops : Array Oper} (hok : opersOk n ops.toList = true) {i : Nat} {o : Oper} (hi : ops[i]? = some o) : operOk n o = true :=
  opersOk_mem hok o (by have := Array.mem_of_getElem? hi; simpa using this)
theorem noneB_mem {C : Ctx} : ∀ {l : List Oper}, noneB C l = true → ∀ o ∈ l, touchB C o = false
  | [], _, _, h => by cases h
  | p :: r, hok, o, h => by
    unfold noneB at hok
    split at hok
    · cases hok
    · rename_i hp
      rcases List.mem_cons.1 h with rfl | h
      · exact hp
      · exact noneB_mem hok o h
theorem noneA_mem {C : Ctx} : ∀ {l : List Oper}, noneA C l = true → ∀ o ∈ l, touchA C o = false
  | [], _, _, h => by cases h
  | p :: r, hok, o, h => by
    unfold noneA at hok
    split at hok
    · cases hok
    · rename_i hp
      rcases List.mem_cons.1 h with rfl | h
      · exact hp
      · exact noneA_mem hok o h
section
variable {C : Ctx} {Θ : Anc} {n : Nat} {K : Act → World → Prop} {Q : Exit → Act → World → Prop}
theorem one_sound (hC : C.Ok) {ops : Array Oper} {i : Nat} {o : Oper} {l : List Oper} {σ : St} {a : Act} {w : World} {Z : Nat → Prop} {G : Nat → Value} {k : St → Prop} (hi : ops[i]? = some o) (hok : operOk n o = true) (hT : Θ.lets C o = true)
    (S : Sim C.P Θ n σ a w Z G) (h : execOps C ops.toList (o :: l) σ k)
    (hrest : ∀ σ' a' w' Z' G', execOps C ops.toList l σ' k → Sim C.P Θ n σ' a' w' Z' G' → K a' w') (hp : ∀ s σ' w' Z' G' v, C.pan s σ' → Sim C.P Θ n σ' a w' Z' G' → RepSV w' Z' G' s v → Q (.panic [{ v := v, recovered := false }]) a w') : wpOp C.P ops Q i K a w := by
  obtain ⟨hd, hst, hst1, hst2⟩ := operOk_dst hok
  simp only [wpOp, hi]
  unfold execOps at h
  split at h
  · rename_i hg
    have hw : Region.wanted o (yielded ops a.tmps) = true := by simp [Region.wanted, hg]
    rw [if_pos hw]
    exact .inl (op1_sound hC hT S hd hst hst1 hst2 h hrest hp)
  · rename_i j want hg
    split at h
    · cases h
    · rename_i t hgs
      have hops : (ops[j]?).bind (·.dst) = some t := by
        unfold gslot at hgs
        rw [nth_map_some] at hgs
        rw [← Array.getElem?_toList]
        cases hj : ops.toList[j]? with
        | none => rw [hj] at hgs; cases hgs
        | some oj => rw [hj] at hgs; exact hgs
      have hyes : ∀ b, a.tmps.getD t undef = .bool b → yielded ops a.tmps j = some b := by
        intro b hb
        unfold yielded
        rw [hops]
        simp only [Option.bind_some]
        have : a.tmps[t]? = some (.bool b) := by
          rw [Array.getD_eq_getD_getElem?] at hb
          cases ht : a.tmps[t]? with
          | none => rw [ht] at hb; cases hb
          | some v => rw [ht] at hb; simp at hb; rw [hb]
        rw [this]
      have hno : a.tmps.getD t undef = undef → yielded ops a.tmps j = none := by
        intro hb
        unfold yielded
        rw [hops]
        simp only [Option.bind_some]
        rw [Array.getD_eq_getD_getElem?] at hb
        cases ht : a.tmps[t]? with
        | none => rfl
        | some v => rw [ht] at hb; simp at hb; rw [hb]; rfl
      have hslot := S.slot t
      split at h
      · rename_i u hu
        rw [hu] at hslot
        have hv : a.tmps.getD t undef = .bool u.bool := hslot
        rcases cond_some h with ⟨hb, h⟩ | ⟨hb, h⟩
        · have S' := S.know (t := t) (s := .val .bool (.b true)) (by rw [hv, hb]; rfl)
          have hw : Region.wanted o (yielded ops a.tmps) = true := by simp [Region.wanted, hg, hyes _ hv, hb]
          rw [if_pos hw]
          exact .inl (op1_sound hC hT S' hd hst hst1 hst2 h hrest hp)
        · have S' := S.know (t := t) (s := .val .bool (.b false)) (by rw [hv, hb]; rfl)
          have hw : ¬ Region.wanted o (yielded ops a.tmps) = true := by simp [Region.wanted, hg, hyes _ hv, hb]
          rw [if_neg hw]
          exact hrest _ _ _ _ _ h (S'.put (s := .und) rfl hd)
      · rename_i u hu
        rw [hu] at hslot
        have hv : a.tmps.getD t undef = .bool u.bool := hslot
        rcases cond_some h with ⟨hb, h⟩ | ⟨hb, h⟩
        · have S' := S.know (t := t) (s := .val .bool (.b true)) (by rw [hv, hb]; rfl)
          have hw : ¬ Region.wanted o (yielded ops a.tmps) = true := by simp [Region.wanted, hg, hyes _ hv, hb]
          rw [if_neg hw]
          exact hrest _ _ _ _ _ h (S'.put (s := .und) rfl hd)
        · have S' := S.know (t := t) (s := .val .bool (.b false)) (by rw [hv, hb]; rfl)
          have hw : Region.wanted o (yielded ops a.tmps) = true := by simp [Region.wanted, hg, hyes _ hv, hb]
          rw [if_pos hw]
          exact .inl (op1_sound hC hT S' hd hst hst1 hst2 h hrest hp)
      · rename_i hu
        rw [hu] at hslot
        have hv : a.tmps.getD t undef = undef := hslot
        have hw : ¬ Region.wanted o (yielded ops a.tmps) = true := by simp [Region.wanted, hg, hno hv]
        rw [if_neg hw]
        exact hrest _ _ _ _ _ h (S.put (s := .und) rfl hd)
      · cases h
structure Inv (P : Program) (Θ : Anc) (kb ka : Bool) (n : Nat) (σ : St) (a : Act) (w : World) (Z : Nat → Prop) (G : Nat → Value) (L : Nat → Prop) : Prop where
  sim : Sim P Θ n σ a w Z G
  old : ∀ b, L b → Θ.M b ∨ Θ.w.heap.size ≤ b
  lt : ∀ b, L b → b < w.heap.size
  keep : ∀ id o b, getO σ.objs id = some o → blk (G id) = some b → L b → kept kb ka o = true
def anchor (ds : List Deferred) (kb ka : Bool) (σ : St) (w : World) (Z : Nat → Prop) (G : Nat → Value) (L : Nat → Prop) : Anc where
  w := w
  M := fun b => ∃ id o, getO σ.objs id = some o ∧ blk (G id) = some b ∧ kept kb ka o = false
  N := fun b => L b ∨ ∃ id o, getO σ.objs id = some o ∧ blk (G id) = some b ∧ kept kb ka o = true
  Z0 := Z
  kb := kb
  ka := ka
  G0 := G
  ds := ds
theorem lets_of {kb ka : Bool} {σ : St} {w : World} {Z : Nat → Prop} {G : Nat → Value} {L : Nat → Prop} {ops : Array Oper} (hkb : noneB C ops.toList = kb) (hka : noneA C ops.toList = ka) {i : Nat} {o : Oper} {ds : List Deferred} (hi : ops[i]? = some o) : (anchor ds kb ka σ w Z G L).lets C o = true := by
  have hm : o ∈ ops.toList := by have := Array.mem_of_getElem? hi; simpa using this
  unfold Anc.lets
  simp only [Bool.and_eq_true, Bool.or_eq_true, Bool.not_eq_true']
  constructor
  · show touchB C o = false ∨ kb = false
    cases kb with
    | true => exact .inl (noneB_mem hkb o hm)
    | false => exact .inr rfl
  · show touchA C o = false ∨ ka = false
    cases ka with
    | true => exact .inl (noneA_mem hka o hm)
    | false => exact .inr rfl
theorem keeps_kept (Θ : Anc) (o : Obj) : Θ.keeps o = kept Θ.kb Θ.ka o := by cases o <;> rfl
theorem Inv.enter {P : Program} {kb ka : Bool} {σ : St} {a : Act} {w : World} {Z : Nat → Prop} {G : Nat → Value} {L : Nat → Prop} (I : Inv P Θ kb ka n σ a w Z G L) : Sim P (anchor Θ.ds kb ka σ w Z G L) n σ a w Z G :=
  { size := I.sim.size, calm := I.sim.calm, slot := I.sim.slot, obj := I.sim.obj, sep := I.sim.sep, lt := I.sim.lt, flat := I.sim.flat, fut := Fut.refl _ w, odd := fun _ _ => rfl, row := fun _ hb => .inl hb
    free := fun id o b h hb => ⟨(I.sim.free id o b h hb).1, by
      cases hk : kept kb ka o with
      | true => exact .inr (.inl (.inr ⟨id, o, h, hb, hk⟩))
      | false => exact .inl ⟨id, o, h, hb, hk⟩⟩
    keep := fun id o b h hb hN => by
      rw [keeps_kept]
      rcases hN with hN | ⟨id', o', h', hb', hk'⟩
      · exact I.keep id o b h hb hN
      · have := I.sim.sep id id' o o' b h h' hb hb'
        subst this
        rw [h] at h'
        cases h'
        exact hk'
    nlt := fun b hN => by
      rcases hN with hN | ⟨id', o', h', hb', hk'⟩
      · exact I.lt b hN
      · exact RepO.lt I.sim h' hb'
    new := fun b hb => .inl hb
    sub := fun b hb => hb }
theorem Inv.leave {P : Program} {kb ka : Bool} {σ σ' : St} {a a' : Act} {w w' : World} {Z Z' : Nat → Prop} {G G' : Nat → Value} {L : Nat → Prop} (hN : ∀ b, ¬ Θ.N b) (I : Inv P Θ kb ka n σ a w Z G L)
    (S : Sim P (anchor Θ.ds kb ka σ w Z G L) n σ' a' w' Z' G') : Inv P Θ kb ka n σ' a' w' Z' G' (anchor Θ.ds kb ka σ w Z G L).N ∧
      (∀ b, (Held kb ka σ G Z b ∨ L b) → (Held kb ka σ' G' Z' b ∨ (anchor Θ.ds kb ka σ w Z G L).N b)) ∧ ∀ b, (Held kb ka σ G Z b ∨ L b) → w'.heap[b]? = w.heap[b]? := by
  have live0 : ∀ id o b, getO σ.objs id = some o → blk (G id) = some b → Θ.M b ∨ Θ.w.heap.size ≤ b := fun id o b h hb => by
    rcases (I.sim.free id o b h hb).2 with h1 | h1 | h1
    · exact .inl h1
    · exact absurd h1 (hN b)
    · exact .inr h1
  have hM : ∀ b, (anchor Θ.ds kb ka σ w Z G L).M b → Θ.M b ∨ Θ.w.heap.size ≤ b := fun b ⟨id, o, h, hb, _⟩ => live0 id o b h hb
  have hNN : ∀ b, (anchor Θ.ds kb ka σ w Z G L).N b → Θ.M b ∨ Θ.w.heap.size ≤ b := fun b hb => by
    rcases hb with hb | ⟨id, o, h, hb, _⟩
    · exact I.old b hb
    · exact live0 id o b h hb
  have hsz : Θ.w.heap.size ≤ w.heap.size := I.sim.fut.size
  have hsame : ∀ b, (Held kb ka σ G Z b ∨ L b) → w'.heap[b]? = w.heap[b]? := by
    intro b hb
    refine S.fut.block b ?_ ?_
    · rcases hb with (hb | ⟨id, o, h, hb, _⟩) | hb
      · exact I.sim.lt b hb
      · exact RepO.lt I.sim h hb
      · exact I.lt b hb
    · rintro ⟨id, o, h, hbo, hk⟩
      rcases hb with (hb | ⟨id', o', h', hb', hk'⟩) | hb
      · exact (I.sim.free id o b h hbo).1 hb
      · have := I.sim.sep id id' o o' b h h' hbo hb'
        subst this
        rw [h] at h'
        cases h'
        rw [hk] at hk'; cases hk'
      · have := I.keep id o b h hbo hb
        rw [hk] at this; cases this
  refine ⟨⟨?_, hNN, fun b hb => Nat.lt_of_lt_of_le (S.nlt b hb) S.fut.size, fun id o b h hb hL => by have := S.keep id o b h hb hL; rw [keeps_kept] at this; exact this⟩, ?_, hsame⟩
  · refine { size := S.size, calm := S.calm, slot := S.slot, obj := S.obj, sep := S.sep, lt := S.lt, flat := S.flat, odd := fun i hi => (S.odd i hi).trans (I.sim.odd i hi), row := fun b hb => (S.row b hb).elim (fun h => (I.sim.row b h).imp (fun h => h) fun h2 => h2.of (hsame b (.inl (.inl h)))) .inr, fut := ?_, free := ?_, keep := ?_, nlt := I.sim.nlt, new := ?_, sub := fun b hb => S.sub b (I.sim.sub b hb) }
    · intro id o b h hb
      refine ⟨(S.free id o b h hb).1, ?_⟩
      rcases (S.free id o b h hb).2 with h1 | h1 | h1
      · exact (hM b h1).elim .inl (fun h => .inr (.inr h))
      · exact (hNN b h1).elim .inl (fun h => .inr (.inr h))
      · exact .inr (.inr (Nat.le_trans hsz h1))
    · exact fun id o b _ _ h => absurd h (hN b)
    · exact I.sim.fut.trans S.fut (fun _ h => h) (fun b hb hm => by
        rcases hM b hm with h | h
        · exact h
        · omega)
    · intro b hb
      rcases S.new b hb with h1 | h1 | h1 | h1
      · exact I.sim.new b h1
      · exact (hM b h1).elim (fun h => .inr (.inl h)) (fun h => .inr (.inr (.inr h)))
      · exact (hNN b h1).elim (fun h => .inr (.inl h)) (fun h => .inr (.inr (.inr h)))
      · exact .inr (.inr (.inr (Nat.le_trans hsz h1)))
  · rintro b ((hb | hb) | hb)
    · exact .inl (.inl (S.sub b hb))
    · exact .inr (.inr hb)
    · exact .inr (.inl hb)
theorem firstQ_some {P : Program} {kb ka : Bool} {ops : Array Oper} {listed : Array Bool} {σ : St} : ∀ {rs : List Nat} {i : Nat} {o : Oper}, firstQ P kb ka ops listed σ rs = some (i, o) →
    i ∈ rs ∧ ops[i]? = some o ∧ quietG P kb ka ops.toList σ o = true ∧ Region.free .any ops listed i = true
  | [], i, o, h => by cases h
  | j :: r, i, o, h => by
    unfold firstQ at h
    split at h
    · cases h
    · rename_i oj hj
      split at h
      · rename_i h1 h2
        injection h with h
        injection h with h3 h4
        subst h3 h4
        exact ⟨List.mem_cons_self .., hj, h1, h2⟩
      · obtain ⟨h1, h2⟩ := firstQ_some h
        exact ⟨List.mem_cons_of_mem _ h1, h2⟩
theorem allK_mem {f : Nat → Prop} : ∀ {l : List Nat}, allK f l → ∀ i ∈ l, f i
  | [], _, i, hi => by cases hi
  | [j], h, i, hi => by
    have : i = j := by simpa using hi
    subst this; exact h
  | j :: j' :: r, h, i, hi => by
    rcases List.mem_cons.1 hi with rfl | hi
    · exact h.l
    · exact allK_mem (l := j' :: r) h.r i hi
theorem draw_sound (hC : C.Ok) {ops : Array Oper} {kb ka : Bool} (hkb : noneB C ops.toList = kb) (hka : noneA C ops.toList = ka) (hsel : Region.noSelect ops = true) (hok : opersOk n ops.toList = true) (hN : ∀ b, ¬ Θ.N b)
    (hQ : ∀ c a w d v, Q (.panic c) (a.put d v) w → Q (.panic c) a w) (hp : ∀ s σ' a' w' Z' G' v, C.pan s σ' → Sim C.P Θ n σ' a' w' Z' G' → RepSV w' Z' G' s v → Q (.panic [{ v := v, recovered := false }]) a' w') {k : St → Prop} (hk : ∀ σ' a' w' Z' G', k σ' → Sim C.P Θ n σ' a' w' Z' G' → Q .normal a' w') : ∀ (fuel : Nat) (listed : Array Bool) {σ : St} {a : Act} {w : World} {Z : Nat → Prop} {G : Nat → Value} {L : Nat → Prop},
      Inv C.P Θ kb ka n σ a w Z G L → drawK C ops kb ka fuel listed σ k → AnyR C.P .any ops Q fuel listed a w (fun b => Held kb ka σ G Z b ∨ L b)
  | 0, listed, σ, a, w, Z, G, L, I, h => by
    unfold drawK at h
    split at h
    · rename_i hr
      exact ⟨hr, hk _ _ _ _ _ h I.sim⟩
    · exact h.elim
  | fuel + 1, listed, σ, a, w, Z, G, L, I, h => by
    have heavy : ∀ i o, ops[i]? = some o → execOps C ops.toList [o] σ (fun σ' => drawK C ops kb ka fuel (listed.setIfInBounds i true) σ' k) →
        wpOp C.P ops Q i (fun a' w' => ∃ H' : Nat → Prop, (∀ b, (Held kb ka σ G Z b ∨ L b) → H' b) ∧ (∀ b, (Held kb ka σ G Z b ∨ L b) → w'.heap[b]? = w.heap[b]?) ∧ AnyR C.P .any ops Q fuel (listed.setIfInBounds i true) a' w' H') a w := by
      intro i o hi h
      refine one_sound hC hi (opersOk_at hok hi) (lets_of hkb hka hi) I.enter h ?_ (fun s σ' w' Z' G' v h' S' hr => hp s σ' a w' Z' G' v h' (I.leave hN S').1.sim hr)
      intro σ' a' w' Z' G' h' S'
      obtain ⟨I', h1, h2⟩ := I.leave hN S'
      exact ⟨_, h1, h2, draw_sound hC hkb hka hsel hok hN hQ hp hk fuel (listed.setIfInBounds i true) I' h'⟩
    unfold drawK at h
    split at h
    · rename_i hr
      exact ⟨fun _ => hk _ _ _ _ _ h I.sim, fun i hi => by rw [hr] at hi; cases hi⟩
    · rename_i hrs
      split at h
      · rename_i i o hf
        obtain ⟨hir, hi, hq, hfree⟩ := firstQ_some hf
        have hd := (operOk_dst (opersOk_at hok hi)).1
        have take : ∀ {σ1 : St} (S1 : Sim C.P Θ n σ1 a w Z G) (ho : σ1.objs = σ.objs) (s : SV) (v : Value), RepSV w Z G s v → YieldsIf C.P ops (fun w' => ∀ b, (Held kb ka σ G Z b ∨ L b) → w'.heap[b]? = w.heap[b]?) o v a →
            drawK C ops kb ka fuel (listed.setIfInBounds i true) (setD σ1 o.dst s) k → AnyR C.P .any ops Q (fuel + 1) listed a w (fun b => Held kb ka σ G Z b ∨ L b) := by
          intro σ1 S1 ho s v hrep hy hk'
          have S2 := S1.put (s := s) hrep hd
          have hobj : (setD σ1 o.dst s).objs = σ.objs := by cases o.dst <;> exact ho
          have I2 : Inv C.P Θ kb ka n (setD σ1 o.dst s) (a.put o.dst v) w Z G L := ⟨S2, I.old, I.lt, by rw [hobj]; exact I.keep⟩
          refine AnyR.first hi hsel hQ fuel listed a w _ (Region.free_spec hi hfree) hir hy ?_
          have := draw_sound hC hkb hka hsel hok hN hQ hp hk fuel (listed.setIfInBounds i true) I2 hk'
          unfold Held at this ⊢
          rw [hobj] at this
          exact this
        have held : ∀ {σ1 : St} (_ : σ1.objs = σ.objs) {w' : World}, (∀ b, (Held kb ka σ G Z b ∨ L b) → w'.heap[b]? = w.heap[b]?) → ∀ b, Held kb ka σ1 G Z b → w'.heap[b]? = w.heap[b]? := by
          intro σ1 ho w' hw b hb
          refine hw b (.inl ?_)
          unfold Held at hb ⊢
          rwa [ho] at hb
        unfold execOps at h
        unfold quietG at hq
        split at h
        · rename_i hg
          rw [hg] at hq
          have hw : Region.wanted o (yielded ops a.tmps) = true := by simp [Region.wanted, hg]
          obtain ⟨s, v, h1, h2, h3⟩ := quiet_sound hC I.sim hq h
          exact take I.sim rfl s v h2 (.inl ⟨hw, fun w' hw' => h3 w' (held rfl hw')⟩) h1
        · rename_i j want hg
          rw [hg] at hq
          simp only at hq
          split at h
          · cases h
          · rename_i t hgs
            rw [hgs] at hq
            simp only at hq
            obtain ⟨hyes, hno⟩ := guard_slot (a := a) hgs
            have hslot := I.sim.slot t
            split at h
            · rename_i u hu
              rw [hu] at hslot hq
              simp only at hq
              have hv : a.tmps.getD t undef = .bool u.bool := hslot
              rcases cond_some h with ⟨hb, h⟩ | ⟨hb, h⟩
              · have S' := I.sim.know (t := t) (s := .val .bool (.b true)) (by rw [hv, hb]; rfl)
                have hw : Region.wanted o (yielded ops a.tmps) = true := by simp [Region.wanted, hg, hyes _ hv, hb]
                obtain ⟨s, v, h1, h2, h3⟩ := quiet_sound hC S' hq h
                exact take S' rfl s v h2 (.inl ⟨hw, fun w' hw' => h3 w' (held rfl hw')⟩) h1
              · have S' := I.sim.know (t := t) (s := .val .bool (.b false)) (by rw [hv, hb]; rfl)
                have hw : Region.wanted o (yielded ops a.tmps) = false := by simp [Region.wanted, hg, hyes _ hv, hb]
                exact take S' rfl .und undef rfl (.inr ⟨hw, rfl⟩) h
            · rename_i u hu
              rw [hu] at hslot hq
              simp only at hq
              have hv : a.tmps.getD t undef = .bool u.bool := hslot
              rcases cond_some h with ⟨hb, h⟩ | ⟨hb, h⟩
              · have S' := I.sim.know (t := t) (s := .val .bool (.b true)) (by rw [hv, hb]; rfl)
                have hw : Region.wanted o (yielded ops a.tmps) = false := by simp [Region.wanted, hg, hyes _ hv, hb]
                exact take S' rfl .und undef rfl (.inr ⟨hw, rfl⟩) h
              · have S' := I.sim.know (t := t) (s := .val .bool (.b false)) (by rw [hv, hb]; rfl)
                have hw : Region.wanted o (yielded ops a.tmps) = true := by simp [Region.wanted, hg, hyes _ hv, hb]
                obtain ⟨s, v, h1, h2, h3⟩ := quiet_sound hC S' hq h
                exact take S' rfl s v h2 (.inl ⟨hw, fun w' hw' => h3 w' (held rfl hw')⟩) h1
            · rename_i hu
              rw [hu] at hslot
              have hv : a.tmps.getD t undef = undef := hslot
              have hw : Region.wanted o (yielded ops a.tmps) = false := by simp [Region.wanted, hg, hno hv]
              exact take I.sim rfl .und undef rfl (.inr ⟨hw, rfl⟩) h
            · cases h
      · refine ⟨fun h0 => absurd h0 hrs, fun i hi => ?_⟩
        have hone := allK_mem h i hi
        unfold oneK at hone
        split at hone
        · rename_i o hi'
          exact heavy i o hi' hone
        · exact hone.elim
end
end Go.Den

namespace Go.Den
open Go Go.RowKit
def codeOk (n : Nat) : Code → Bool
  | .region _ ops draw => match draw with | true => opersOk n ops.toList && Region.noSelect ops | false => opersOk n ops.toList
  | .seq a b => match codeOk n a with | true => codeOk n b | false => false
  | .cond _ a b => match codeOk n a with | true => codeOk n b | false => false
  | .block _ a => codeOk n a
  | .loop a => codeOk n a
  | _ => true
def LoopOk (C : Ctx) (c : Nat) (body : Code) : Prop := ∀ ts os F, C.loops c = some (ts, os, F) → ∃ μ : List SV → List Obj → Nat, ∀ (pan : SV → St → Prop) (svs : List SV) (l : List Obj) (k : Ex → St → Prop),
  svs.length = ts.length → l.length = os.length → okS.okSs svs → okOs C.P l → F pan svs l k → exec (C.panics pan) body c ⟨ts.zip svs, os.zip l⟩ (again C.P (C.lout c) (C.lout (c + 1048576)) pan ts os F μ (μ svs l) k)
def LoopsOk (C : Ctx) : Code → Nat → Prop
  | .seq a b, c => LoopsOk C a c ∧ LoopsOk C b c
  | .cond _ a b, c => LoopsOk C a c ∧ LoopsOk C b c
  | .block id a, _ => LoopsOk C a id
  | .loop a, c => LoopsOk C a c ∧ LoopOk C c a
  | _, _ => True
theorem get_keepE (env : List (Nat × SV)) : ∀ (ts : List Nat) (t : Nat), get (keepE env ts) t = get env t ∨ get (keepE env ts) t = .unk
  | [], _ => .inr rfl
  | s :: ts, t => by
    have e : get (keepE env (s :: ts)) t = if s = t then get env s else get (keepE env ts) t := get_cons s t _ _
    rw [e]
    by_cases h : s = t
    · rw [if_pos h, h]; exact .inl rfl
    · rw [if_neg h]; exact get_keepE env ts t
theorem getO_keepO (objs : List (Nat × Obj)) : ∀ (ts : List Nat) (t : Nat) (o : Obj), getO (keepO objs ts) t = some o → getO objs t = some o
  | [], _, _, h => by cases h
  | s :: ts, t, o, h => by
    unfold keepO at h
    split at h
    · rename_i o' ho
      rw [getO_cons] at h
      by_cases hs : s = t
      · rw [if_pos hs] at h; rw [← hs, ho]; exact h
      · rw [if_neg hs] at h; exact getO_keepO objs ts t o h
    · exact getO_keepO objs ts t o h
theorem get_zip (env : List (Nat × SV)) : ∀ (ts : List Nat) (t : Nat), get (ts.zip (gets env ts)) t = get env t ∨ get (ts.zip (gets env ts)) t = .unk
  | [], _ => .inr rfl
  | s :: ts, t => by
    have e : get ((s :: ts).zip (gets env (s :: ts))) t = if s = t then get env s else get (ts.zip (gets env ts)) t := get_cons s t _ _
    rw [e]
    by_cases h : s = t
    · rw [if_pos h, h]; exact .inl rfl
    · rw [if_neg h]; exact get_zip env ts t
theorem getO_zip (objs : List (Nat × Obj)) : ∀ (ts : List Nat) (l : List Obj), getOs objs ts = some l → ∀ (t : Nat) (o : Obj), getO (ts.zip l) t = some o → getO objs t = some o
  | [], l, _, _, _, h => by cases l <;> cases h
  | s :: ts, l, hl, t, o, h => by
    unfold getOs at hl
    split at hl
    · rename_i o' os ho hos
      injection hl with hl
      subst hl
      have h : getO ((s, o') :: ts.zip os) t = some o := h
      rw [getO_cons] at h
      by_cases hs : s = t
      · rw [if_pos hs] at h; rw [← hs, ho]; exact h
      · rw [if_neg hs] at h; exact getO_zip objs ts os hos t o h
    · cases hl
theorem gets_length (env : List (Nat × SV)) : ∀ ts : List Nat, (gets env ts).length = ts.length
  | [] => rfl
  | _ :: ts => by simp [gets, gets_length env ts]
theorem getOs_length (objs : List (Nat × Obj)) : ∀ (ts : List Nat) (l : List Obj), getOs objs ts = some l → l.length = ts.length
  | [], l, h => by simp only [getOs, Option.some.injEq] at h; subst h; rfl
  | s :: ts, l, h => by
    unfold getOs at h
    split at h
    · rename_i o os ho hos
      injection h with h
      subst h
      simp [getOs_length objs ts os hos]
    · cases h
section
variable {C : Ctx} {Θ : Anc} {n : Nat} {Q : Exit → Act → World → Prop}
theorem mask_sim {P : Program} {σ : St} {a : Act} {w : World} {Z : Nat → Prop} {G : Nat → Value} {x : Option (List Nat × List Nat)} (S : Sim P Θ n σ a w Z G) : Sim P Θ n (mask σ x) a w Z G := by
  unfold mask
  split
  · exact S
  · rename_i ts os
    exact S.less (get_keepE _ ts) (getO_keepO _ os)
theorem gets_ok {P : Program} {σ : St} {a : Act} {w : World} {Z : Nat → Prop} {G : Nat → Value} (S : Sim P Θ n σ a w Z G) : ∀ ts : List Nat, okS.okSs (gets σ.env ts)
  | [] => trivial
  | t :: ts => ⟨RepSV.ok (S.slot t), gets_ok S ts⟩
theorem getOs_ok {P : Program} {σ : St} {a : Act} {w : World} {Z : Nat → Prop} {G : Nat → Value} (S : Sim P Θ n σ a w Z G) : ∀ (os : List Nat) (l : List Obj), getOs σ.objs os = some l → okOs P l
  | [], l, h => by simp only [getOs, Option.some.injEq] at h; subst h; trivial
  | o :: os, l, h => by
    unfold getOs at h
    split at h
    · rename_i x xs h1 h2
      injection h with h
      subst h
      exact ⟨RepO.ok (S.obj _ _ h1), getOs_ok S os _ h2⟩
    · cases h
def Pans (C : Ctx) (Θ : Anc) (n : Nat) (Q : Exit → Act → World → Prop) : Prop := ∀ s σ' a' w' Z' G' v, C.pan s σ' → Sim C.P Θ n σ' a' w' Z' G' → RepSV w' Z' G' s v → Q (.panic [{ v := v, recovered := false }]) a' w'
theorem execOps_sound (hC : C.Ok) (hp : Pans C Θ n Q) (hkb : Θ.kb = false) (hka : Θ.ka = false) {ops : Array Oper} {k : St → Prop} (hk : ∀ σ' a' w' Z' G', k σ' → Sim C.P Θ n σ' a' w' Z' G' → Q .normal a' w') :
    ∀ (l : List Oper) (i : Nat) {σ : St} {a : Act} {w : World} {Z : Nat → Prop} {G : Nat → Value}, ops.toList.drop i = l → opersOk n l = true → Sim C.P Θ n σ a w Z G → execOps C ops.toList l σ k →
      wpOps C.P ops Q (List.range' i l.length) a w
  | [], i, σ, a, w, Z, G, _, _, S, h => hk _ _ _ _ _ h S
  | o :: l, i, σ, a, w, Z, G, hl, hok, S, h => by
    unfold opersOk at hok
    split at hok
    · rename_i hoo
      have hi : ops[i]? = some o := by
        rw [← Array.getElem?_toList]
        have := List.getElem?_drop (xs := ops.toList) (i := i) (j := 0)
        rw [hl] at this
        simpa using this.symm
      rw [List.length_cons, List.range'_succ, wpOps_cons]
      refine one_sound hC hi hoo (by simp [Anc.lets, hkb, hka]) S h (fun σ' a' w' Z' G' h' S' => execOps_sound hC hp hkb hka hk l (i + 1) ?_ hok S' h') (fun s σ' w' Z' G' v h' S' hr => hp s σ' _ w' Z' G' v h' S' hr)
      rw [← List.tail_drop, hl]
      rfl
    · cases hok
def toExit : Ex → Exit
  | .normal => .normal
  | .ret => .ret
  | .exit n => .exit n
def hasDraw : Code → Bool
  | .region _ _ draw => draw
  | .seq a b => hasDraw a || hasDraw b
  | .cond _ a b => hasDraw a || hasDraw b
  | .block _ a => hasDraw a
  | .loop a => hasDraw a
  | _ => false
theorem exec_sound (hC : C.Ok) (hkb : Θ.kb = false) (hka : Θ.ka = false) (hN : ∀ b, ¬ Θ.N b) : ∀ (code : Code) (c : Nat) {Q : Exit → Act → World → Prop} {σ : St} {a : Act} {w : World} {Z : Nat → Prop} {G : Nat → Value} {k : Ex → St → Prop}, codeOk n code = true → LoopsOk C code c → Sim C.P Θ n σ a w Z G →
    exec C code c σ k → (∀ e σ' a' w' Z' G', k e σ' → Sim C.P Θ n σ' a' w' Z' G' → Q (toExit e) a' w') → Pans C Θ n Q → (hasDraw code = true → ∀ c a w d v, Q (.panic c) (a.put d v) w → Q (.panic c) a w) → code.wp C.P Q a w
  | .skip, c, Q, σ, a, w, Z, G, k, _, _, S, h, hk, _, _ => wp_skip (hk .normal _ _ _ _ _ h S)
  | .ret, c, Q, σ, a, w, Z, G, k, _, _, S, h, hk, _, _ => wp_ret (hk .ret _ _ _ _ _ h S)
  | .exit m, c, Q, σ, a, w, Z, G, k, _, _, S, h, hk, _, _ => wp_exit (hk (.exit m) _ _ _ _ _ h S)
  | .seq x y, c, Q, σ, a, w, Z, G, k, hok, hl, S, h, hk, hp, hQ => by
    unfold codeOk at hok
    split at hok
    · rename_i hx
      refine wp_seq (exec_sound hC hkb hka hN x c hx hl.1 S h ?_ hp (fun h => hQ (by simp [hasDraw, h])))
      intro e σ' a' w' Z' G' he S'
      cases e with
      | normal => exact exec_sound hC hkb hka hN y c hok hl.2 S' he hk hp (fun h => hQ (by simp [hasDraw, h]))
      | ret => exact hk .ret _ _ _ _ _ he S'
      | exit m => exact hk (.exit m) _ _ _ _ _ he S'
    · cases hok
  | .cond x y z, c, Q, σ, a, w, Z, G, k, hok, hl, S, h, hk, hp, hQ => by
    unfold codeOk at hok
    split at hok
    · rename_i hx
      unfold exec at h
      split at h
      · rename_i u hu
        have hv : a.eval x = .bool u.bool := by have := S.ev x; rw [hu] at this; exact this
        refine wp_cond hv ?_
        rcases cond_some h with ⟨hb, h⟩ | ⟨hb, h⟩
        · rw [hb]; exact exec_sound hC hkb hka hN y c hx hl.1 S h hk hp (fun h => hQ (by simp [hasDraw, h]))
        · rw [hb]; exact exec_sound hC hkb hka hN z c hok hl.2 S h hk hp (fun h => hQ (by simp [hasDraw, h]))
      · cases h
    · cases hok
  | .block id x, c, Q, σ, a, w, Z, G, k, hok, hl, S, h, hk, hp, hQ => by
    refine wp_block (exec_sound hC hkb hka hN x id hok hl S h ?_ hp hQ)
    have hmask : ∀ σ' a' w' Z' G', Sim C.P Θ n σ' a' w' Z' G' → Sim C.P Θ n (mask σ' (C.kout id)) a' w' Z' G' := fun _ _ _ _ _ S' => mask_sim S'
    intro e σ' a' w' Z' G' he S'
    cases e with
    | normal => exact hk .normal _ _ _ _ _ he (hmask _ _ _ _ _ S')
    | ret => exact hk .ret _ _ _ _ _ he S'
    | exit m =>
      show (if m = id then Q .normal a' w' else Q (.exit m) a' w')
      unfold outOf at he
      rcases cond_some he with ⟨hb, he⟩ | ⟨hb, he⟩
      · rw [if_pos (Nat.eq_of_beq_eq_true hb)]
        exact hk .normal _ _ _ _ _ he (hmask _ _ _ _ _ S')
      · rw [if_neg (Nat.ne_of_beq_eq_false hb)]
        exact hk (.exit m) _ _ _ _ _ he S'
  | .loop x, c, Q, σ, a, w, Z, G, k, hok, hl, S, h, hk, hp, hQ => by
    unfold exec at h
    split at h
    · rename_i ts os F hF
      split at h
      · rename_i σ1 hfr
        obtain ⟨Z1, S1⟩ := freezes_sim S hfr
        split at h
        case h_2 => cases h
        rename_i l hos
        obtain ⟨μ, hμ⟩ := hl.2 ts os F hF
        have key : ∀ (N : Nat) (svs : List SV) (l : List Obj) (a : Act) (w : World) (Z : Nat → Prop) (G : Nat → Value), μ svs l < N → svs.length = ts.length → l.length = os.length → okS.okSs svs → okOs C.P l → F C.pan svs l k →
            Sim C.P Θ n ⟨ts.zip svs, os.zip l⟩ a w Z G → Code.rounds C.P x Q N a w := by
          intro N
          induction N with
          | zero => intro svs l a w Z G hlt; omega
          | succ N ih =>
            intro svs l a w Z G hlt h1 h2 ho1 ho2 hFk S1
            rw [rounds_succ]
            refine exec_sound hC hkb hka hN x c hok hl.1 S1 (hμ C.pan svs l k h1 h2 ho1 ho2 hFk) ?_ hp hQ
            intro e σ' a' w' Z' G' he S'
            cases e with
            | normal =>
              simp only [again] at he
              split at he
              · rename_i σ2 hfr2
                obtain ⟨Z2, S2⟩ := freezes_sim S' hfr2
                split at he
                · rename_i l' hl'
                  obtain ⟨hb, he⟩ := cond_only he
                  have hb : μ (gets σ2.env ts) l' < μ svs l := by simpa [Nat.blt_eq] using hb
                  exact ih _ _ _ _ _ _ (by omega) (gets_length _ _) (getOs_length _ _ _ hl') (gets_ok S2 ts) (getOs_ok S2 os l' hl') he (S2.less (get_zip _ ts) (getO_zip _ os l' hl'))
                · cases he
              · cases he
            | ret => exact hk .ret _ _ _ _ _ he (mask_sim S')
            | exit m => exact hk (.exit m) _ _ _ _ _ he (mask_sim S')
        exact wp_loop_rounds (μ (gets σ1.env ts) l + 1) (key _ _ _ _ _ _ _ (Nat.lt_succ_self _) (gets_length _ _) (getOs_length _ _ _ hos) (gets_ok S1 ts) (getOs_ok S1 os l hos) h (S1.less (get_zip _ ts) (getO_zip _ os l hos)))
      · cases h
    · cases h
  | .region id ops draw, c, Q, σ, a, w, Z, G, k, hok, _, S, h, hk, hp, hQ => by
    unfold codeOk at hok
    unfold exec at h
    cases draw with
    | true =>
      simp only [Bool.and_eq_true] at hok
      have I : Inv C.P Θ (noneB C ops.toList) (noneA C ops.toList) n σ a { w with drawn := w.drawn + 1 } Z G (fun _ => False) := ⟨S.drew _, fun _ h => h.elim, fun _ h => h.elim, fun _ _ _ _ _ h => h.elim⟩
      have := draw_sound (Q := Q) hC rfl rfl hok.2 hok.1 hN (hQ rfl) (fun s σ' a' w' Z' G' v h' S' hr => hp s σ' a' w' Z' G' v h' S' hr) (k := fun σ' => k .normal σ') (fun σ' a' w' Z' G' h' S' => hk .normal _ _ _ _ _ h' S') _ _ I h
      exact wp_region_R hC.mixed this
    | false =>
      refine wp_region ?_
      have := execOps_sound (Q := Q) hC hp hkb hka (k := fun σ' => k .normal σ') (fun σ' a' w' Z' G' h' S' => hk .normal _ _ _ _ _ h' S') ops.toList 0 rfl hok S h
      rw [List.range_eq_range']
      simpa using this
end
theorem Ctx.Ok.panics {C : Ctx} (h : C.Ok) (pan : SV → St → Prop) : (C.panics pan).Ok := ⟨h.fns, h.trs, h.eqs, h.mixed, h.exts⟩
theorem LoopsOk.panics {C : Ctx} (pan : SV → St → Prop) : ∀ {code : Code} {c : Nat}, LoopsOk C code c → LoopsOk (C.panics pan) code c
  | .seq _ _, _, h => ⟨LoopsOk.panics pan h.1, LoopsOk.panics pan h.2⟩
  | .cond _ _ _, _, h => ⟨LoopsOk.panics pan h.1, LoopsOk.panics pan h.2⟩
  | .block _ x, c, h => LoopsOk.panics (code := x) pan h
  | .loop _, _, h => ⟨LoopsOk.panics pan h.1, h.2⟩
  | .skip, _, _ => trivial
  | .region _ _ _, _, _ => trivial
  | .rangeFunc _ _ _ _, _, _ => trivial
  | .exit _, _, _ => trivial
  | .scope _, _, _ => trivial
  | .label _, _, _ => trivial
  | .goto _, _, _ => trivial
  | .ret, _, _ => trivial
  | .refuse _, _, _ => trivial
theorem args_rep {P : Program} {w : World} {Z : Nat → Prop} {G : Nat → Value} : ∀ {ts : List TypeId} {us : List (List U)} {svs : List SV} {vs : List Value} {env : List (Nat × SV)} {i : Nat}, unflats P ts us = some svs → args P i ts us = some env → RepSVs w Z none_ svs vs →
    vs.length = ts.length ∧ ∀ t, (get env t = .unk ∨ ∃ v, i ≤ t ∧ vs[t - i]? = some v ∧ RepSV w Z G (get env t) v)
  | [], [], svs, vs, env, i, h, he, hr => by
    simp only [unflats, Option.some.injEq] at h
    subst h
    have hr : vs = [] := hr
    subst hr
    simp only [args, Option.some.injEq] at he
    subst he
    exact ⟨rfl, fun t => .inl rfl⟩
  | [], _ :: _, svs, vs, env, i, h, he, hr => by simp [unflats] at h
  | _ :: _, [], svs, vs, env, i, h, he, hr => by simp [unflats] at h
  | t :: ts, u :: us, svs, vs, env, i, h, he, hr => by
    unfold unflats at h
    unfold args at he
    split at h
    · rename_i s l h1 h2
      injection h with h
      subst h
      rw [h1] at he
      split at he
      · rename_i s' env' hs' henv
        injection he with he
        subst he
        injection hs' with hs'
        subst hs'
        obtain ⟨v, r, rfl, hv, hr⟩ := hr
        obtain ⟨hl, ih⟩ := args_rep h2 henv hr
        refine ⟨by simp [hl], fun t' => ?_⟩
        rw [get_cons]
        by_cases ht : i = t'
        · subst ht
          rw [if_pos rfl]
          exact .inr ⟨v, Nat.le_refl _, by simp, unflat_any h1 hv⟩
        · rw [if_neg ht]
          rcases ih t' with h3 | ⟨v', h3, h4, h5⟩
          · exact .inl h3
          · refine .inr ⟨v', by omega, ?_, h5⟩
            rw [show t' - i = (t' - (i + 1)) + 1 by omega]
            simpa using h4
      · cases he
    · cases h
def resOf (tmps : Array Value) : ResultVar → Sem Value
  | .tmp t => pure (tmps.getD t undef)
  | .cell x t => do loadVar t (← asAddr (tmps.getD x undef))
theorem results_of (fn : Func) (tmps : Array Value) : results fn tmps = (do let vs ← fn.results.mapM (resOf tmps); pure (if h : vs.size = 1 then vs[0] else .tuple vs)) := by
  unfold results
  congr 1
theorem resVals_rep {P : Program} {Θ : Anc} {n : Nat} {σ : St} {a : Act} {w : World} {Z : Nat → Prop} {G : Nat → Value} (S : Sim P Θ n σ a w Z G) : ∀ {l : List ResultVar} {svs : List SV}, resVals P σ l = some svs →
    ∃ vs : List Value, (l.mapM (resOf a.tmps)).run P w = .ok vs w ∧ RepSVs w Z G svs vs
  | [], svs, h => by
    simp only [resVals, Option.some.injEq] at h
    subst h
    exact ⟨[], rfl, rfl⟩
  | .tmp t :: l, svs, h => by
    unfold resVals at h
    split at h
    · rename_i r hr
      injection h with h
      subst h
      obtain ⟨vs, h1, h2⟩ := resVals_rep S hr
      have h0 : (resOf a.tmps (.tmp t)).run P w = .ok (a.tmps.getD t undef) w := rfl
      refine ⟨a.tmps.getD t undef :: vs, ?_, ⟨_, _, rfl, S.slot t, h2⟩⟩
      simp only [List.mapM_cons, Sem.run_bind, h0, h1, Result.andThen, Sem.run_pure]
    · cases h
  | .cell x t :: l, svs, h => by
    unfold resVals at h
    split at h
    · rename_i id off r hp hr
      split at h
      · rename_i cells hob
        split at h
        · rename_i s hs
          injection h with h
          subst h
          obtain ⟨vs, h1, h2⟩ := resVals_rep S hr
          have hx := S.slot x
          rw [hp] at hx
          obtain ⟨b, hG, hv⟩ := hx
          obtain ⟨b', ty, c, g1, g2, g3⟩ := S.obj id _ hob
          rw [hG] at g1
          cases g1
          obtain ⟨v, hl, hrep⟩ := run_load_part (P := P) (o := 0) (b := b) g3 (fun j v hj => by rw [Nat.zero_add, cell_of_row w b j c ty (0, 0) g2]; simpa using hj) hs
          rw [Nat.zero_add] at hl
          have h0 : (resOf a.tmps (.cell x t)).run P w = .ok v w := by
            simp only [resOf, Sem.run_bind, hv, asAddr, Sem.run_pure, Result.andThen, hl]
          refine ⟨v :: vs, ?_, ⟨_, _, rfl, hrep, h2⟩⟩
          simp only [List.mapM_cons, Sem.run_bind, h0, h1, Result.andThen, Sem.run_pure]
        · cases h
      · cases h
    · cases h
def okArgs (P : Program) (ts : List TypeId) (us : List (List U)) : Prop := shapeOk P ts us ∧ ∀ svs, unflats P ts us = some svs → okS.okSs svs
theorem run_sound {C : Ctx} (hC : C.Ok) {f : FuncId} {fn : Func} {code : Code} {us rs : List (List U)} (hf : C.P.funcs[f]? = some fn) (hbody : fn.body = some code) (hname : (fn.name == "runtime.NumGoroutine") = false)
    (hparams : fn.params.size ≤ fn.ntmps) (hok : codeOk fn.ntmps code = true) (hloops : LoopsOk C code 0) (hrun : okArgs C.P fn.params.toList us → run C fn us (· = rs)) : FnOk C.P f fn us rs where
  body := by rw [hbody]; rfl
  name := hname
  calls := by
    intro w Z vs hZ hsh ⟨svs, hsvs, hrep⟩
    have hrun := hrun ⟨hsh, fun svs' h => by rw [hsvs] at h; cases h; exact hrep.ok⟩
    unfold run at hrun
    split at hrun
    · rename_i env henv
      obtain ⟨hl, hargs⟩ := args_rep (G := fun _ => .pointer none) hsvs henv hrep
      have hbd : bodyOf fn = code := by unfold bodyOf; rw [hbody]
      rw [hbd] at hrun
      have hlen : vs.toArray.size = fn.params.size := by simpa using hl
      have S : Sim C.P ⟨w, fun _ => False, fun _ => False, Z, false, false, fun _ => .pointer none, []⟩ fn.ntmps ⟨env, []⟩ { tmps := vs.toArray ++ Array.replicate (fn.ntmps - vs.toArray.size) undef, defers := [] } w Z (fun _ => .pointer none) :=
        { size := by simp only [Array.size_append, Array.size_replicate, hlen]; omega
          calm := rfl
          slot := fun t => by
            rcases hargs t with h | ⟨v, _, h2, h3⟩
            · show RepSV w Z _ (get env t) _
              rw [h]; trivial
            · show RepSV w Z _ (get env t) _
              have ht : t < vs.length := by
                have := (List.getElem?_eq_some_iff.1 h2).1; omega
              have hv : (vs.toArray ++ Array.replicate (fn.ntmps - vs.toArray.size) undef).getD t undef = v := by
                rw [Array.getD_eq_getD_getElem?, Array.getElem?_append_left (by simpa using ht)]
                simp only [Nat.sub_zero] at h2
                simp [h2]
              rw [hv]
              exact h3
          obj := fun id o h => by cases h
          sep := fun id id' o o' b h => by cases h
          free := fun id o b h => by cases h
          keep := fun id o b h => by cases h
          nlt := fun _ h => h.elim
          lt := hZ
          fut := Fut.refl _ w
          new := fun b hb => .inl hb
          sub := fun b hb => hb
          flat := fun _ => rfl
          odd := fun _ _ => rfl
          row := fun _ hb => .inl hb }
      refine calls_of_wp hf hbody (exec_sound (hC.panics fun _ _ => False) rfl rfl (fun _ h => h) code 0 hok (hloops.panics _) S hrun ?_ (fun _ _ _ _ _ _ _ h _ _ => False.elim h) (fun _ c a w d v h => by cases d <;> exact h))
      intro e σ' a' w' Z' G' he S'
      have S' : Sim C.P _ _ _ _ _ _ _ := S'
      have hfin : (match resVals C.P σ' fn.results.toList with | some vs => flats C.P (toU C.P σ'.objs) fn.resultTypes.toList vs | none => none) = some rs ∧ (toExit e = .normal ∨ toExit e = .ret) := by
        unfold finK at he
        split at he
        · rename_i rs' hrs'
          have he : rs' = rs := he
          subst he
          cases e with
          | normal => exact ⟨hrs', .inl rfl⟩
          | ret => exact ⟨hrs', .inr rfl⟩
          | exit m => cases hrs'
        · exact he.elim
      obtain ⟨hfin, hexit⟩ := hfin
      have hpost : ∀ R, (∃ v, (results fn a'.tmps).run C.P w' = .ok v w' ∧ R (Ending.returned v) w') → bodyPost C.P fn R (toExit e) a' w' := by
        intro R ⟨v, h1, h2⟩
        rcases hexit with h | h <;> (rw [h]; exact ⟨S'.calm, v, h1, h2⟩)
      refine hpost _ ?_
      split at hfin
      · rename_i rvs hrv
        obtain ⟨rv, hrun', hrr⟩ := resVals_rep S' hrv
        obtain ⟨svs', hu, hreps⟩ := flats_rep (Zc := fun b => Z' b ∨ Live σ' G' b) (fun c s u v hu hs => toU_rep S' hu hs) hfin hrr
        have hres : (results fn a'.tmps).run C.P w' = .ok (if h : rv.toArray.size = 1 then rv.toArray[0] else .tuple rv.toArray) w' := by
          rw [results_of, Array.mapM_eq_mapM_toList]
          simp [hrun']
        refine ⟨_, hres, _, fun b => Z' b ∨ Live σ' G' b, rfl, S'.fut, fun b hb => .inl (S'.sub b hb), ?_, ?_, svs', hu, ?_⟩
        · rintro b (hb | ⟨id, e, xs, h1, h2⟩)
          · rcases S'.new b hb with h | h | h | h
            · exact .inl h
            · exact h.elim
            · exact h.elim
            · exact (S'.row b hb).imp (fun h => h) fun h2 => ⟨h, h2⟩
          · rcases (S'.free id _ b h1 h2).2 with h3 | h3
            · exact h3.elim
            · exact .inr ⟨h3.elim False.elim (fun h => h), arr_plain (S'.obj id _ h1) h2⟩
        · rintro b (hb | ⟨id, e, xs, h1, h2⟩)
          · exact S'.lt b hb
          · exact RepO.lt S' h1 h2
        · unfold RepRes
          split
          · rename_i s
            obtain ⟨v, t, rfl, hv, ht⟩ := hreps
            have ht : t = [] := ht
            subst ht
            exact hv
          · rename_i hne
            have hl2 := hreps.length
            have h1 : ¬ rv.toArray.size = 1 := by
              intro h
              have h : rv.length = 1 := by simpa using h
              rw [h] at hl2
              obtain ⟨s, hs⟩ := List.length_eq_one_iff.1 hl2
              exact hne s hs
            rw [dif_neg h1]
            exact ⟨_, rfl, by simpa using hreps⟩
      · cases hfin
    · cases hrun
theorem argsT_get : ∀ {vs : List SV} {k t : Nat}, get (argsT k vs) t = .unk ∨ (k ≤ t ∧ ∃ s, vs[t - k]? = some s ∧ get (argsT k vs) t = s)
  | [], _, _ => .inl rfl
  | s :: vs, k, t => by
    have e : get (argsT k (s :: vs)) t = if k = t then s else get (argsT (k + 1) vs) t := get_cons k t _ _
    rw [e]
    by_cases h : k = t
    · subst h
      rw [if_pos rfl]
      exact .inr ⟨Nat.le_refl _, s, by simp, rfl⟩
    · rw [if_neg h]
      rcases argsT_get (vs := vs) (k := k + 1) (t := t) with h1 | ⟨h1, s', h2, h3⟩
      · exact .inl h1
      · refine .inr ⟨by omega, s', ?_, h3⟩
        rw [show t - k = (t - (k + 1)) + 1 by omega]
        simpa using h2
theorem clear_mem {objs0 : Objs} : ∀ {m : List (Nat × Nat)} {i j : Nat}, finT.clear objs0 m = true → (i, j) ∈ m → i = j ∨ j ∉ keysO objs0
  | (a, b) :: r, i, j, hc, h => by
    unfold finT.clear at hc
    cases hb : (Nat.beq a b || !memB b (keysO objs0)) with
    | false => rw [hb] at hc; cases hc
    | true =>
      rw [hb] at hc
      rcases List.mem_cons.1 h with h | h
      · cases h
        simp only [Bool.or_eq_true, Bool.not_eq_true'] at hb
        rcases hb with hb | hb
        · exact .inl (Nat.eq_of_beq_eq_true hb)
        · exact .inr (fun hm => by rw [memB_iff.2 hm] at hb; cases hb)
      · exact clear_mem hc h
theorem finT_sound {P : Program} {w w' : World} {Z Z' : Nat → Prop} {G G' : Nat → Value} {n : Nat} {a : Act} {objs0 : Objs} {σ : St} {ds : List Deferred} {R : Out → Objs → Prop} {out : Out} {e : Ending}
    (S : Sim P ⟨w, Blocks G objs0, fun _ => False, Z, false, false, G, ds⟩ n σ a w' Z' G') (hflat : ∀ id, (G id).oneCell' = true) (hout : RepOut w' Z' G' out e) (h : finT objs0 R out σ.objs) :
    ∃ out objs' Z' G', R out objs' ∧ RepOut w' Z' G' out e ∧ After P w Z G objs0 w' Z' G' objs' := by
  unfold finT at h
  simp only at h
  generalize finMap objs0 σ.objs objs0.length (reach σ.objs 400 (keysO objs0 ++ out.hs) []) = m at h
  obtain ⟨hb, h⟩ := cond_only h
  simp only [Bool.and_eq_true] at hb
  obtain ⟨⟨h1, h2⟩, h3⟩ := hb
  let G2 : Nat → Value := fun j => match lk (swaps m) j with | some i => G' i | none => G j
  have hG2 : ∀ i j, lk m i = some j → G2 j = G' i := fun i j hij => by show (match lk (swaps m) j with | some i => G' i | none => G j) = _; rw [lk_swaps h2 hij]
  have hL : ∀ j o', getO (pickR σ.objs m m) j = some o' → ∃ i p, lk m i = some j ∧ getO σ.objs i = some p ∧ o' = p.ren m ∧ G2 j = G' i := fun j o' hj => by
    obtain ⟨i, p, g1, g2, g3⟩ := getO_pickR hj
    exact ⟨i, p, lk_of_mem h1 g1, g2, g3, hG2 i j (lk_of_mem h1 g1)⟩
  have hpos : 0 ≤ w.heap.size := Nat.zero_le _
  have hodd : ∀ id, id % 2 = 1 → (∃ o, getO objs0 id = some o) → G2 id = G id := fun id hid ⟨o, ho⟩ => by
    show (match lk (swaps m) id with | some i => G' i | none => G id) = _
    split
    · rename_i i hi
      have hm : (i, id) ∈ m := mem_swaps.1 (lk_mem hi)
      rcases clear_mem h3 hm with hc | hc
      · subst hc; exact S.odd i hid
      · exact absurd (mem_keysO (getO_mem ho)) hc
    · rfl
  · refine ⟨_, _, Z', G2, h, ?_, ?_⟩
    · cases out with
      | ret vs =>
        match vs, hout with
        | [v], ⟨x, he, hx⟩ => exact ⟨x, he, RepSV.ren hG2 _ _ hx⟩
        | [], ⟨x, he, hx⟩ => exact ⟨x, he, RepSV.ren hG2 (.tup []) _ hx⟩
        | v :: v' :: vs, ⟨x, he, hx⟩ => exact ⟨x, he, RepSV.ren hG2 (.tup (v :: v' :: vs)) _ hx⟩
      | pan s =>
        obtain ⟨x, he, hx⟩ := hout
        exact ⟨x, he, RepSV.ren hG2 _ _ hx⟩
    · exact
        { stand :=
            { lt := S.lt
              flat := fun j => by
                show (match lk (swaps m) j with | some i => G' i | none => G j).oneCell' = true
                split
                · exact S.flat _
                · exact hflat _
              obj := fun j o' hj => by
                obtain ⟨i, p, g1, g2, rfl, _⟩ := hL j o' hj
                exact RepO.ren hG2 g1 (S.obj i p g2)
              sep := fun j j' o1 o2 b hj hj' hb hb' => by
                obtain ⟨i, p, g1, g2, _, g3⟩ := hL j o1 hj
                obtain ⟨i', p', g1', g2', _, g3'⟩ := hL j' o2 hj'
                rw [g3] at hb
                rw [g3'] at hb'
                have := S.sep i i' p p' b g2 g2' hb hb'
                subst this
                rw [g1] at g1'
                exact Option.some.inj g1'
              free := fun j o' b hj hb => by
                obtain ⟨i, p, g1, g2, _, g3⟩ := hL j o' hj
                rw [g3] at hb
                exact (S.free i p b g2 hb).1 }
          fut := S.fut
          sub := S.sub
          new := fun b hb => by
            rcases S.new b hb with g | g | g | g
            · exact .inl g
            · exact .inr (.inl g)
            · exact g.elim
            · exact .inr (.inr g)
          row := fun b hb => S.row b hb
          own := fun j o' b hj hb => by
            obtain ⟨i, p, g1, g2, _, g3⟩ := hL j o' hj
            rw [g3] at hb
            rcases (S.free i p b g2 hb).2 with g | g | g
            · exact .inl g
            · exact g.elim
            · exact .inr g
          keep := fun id o ho hid => hodd id hid ⟨o, ho⟩ }
theorem runT_sound {C : Ctx} (hC : C.Ok) {f : FuncId} {fn : Func} {code : Code} (hf : C.P.funcs[f]? = some fn) (hbody : fn.body = some code) (hname : (fn.name == "runtime.NumGoroutine") = false)
    (hparams : fn.params.size + fn.nfree ≤ fn.ntmps) (hok : codeOk fn.ntmps code = true) (hloops : LoopsOk C code 0) : FnTr C.P f fn (runD C fn) where
  body := by rw [hbody]; rfl
  name := hname
  calls := by
    intro vs objs R _ h w Z G args hargs hst
    unfold runD at h
    obtain ⟨hb, h⟩ := cond_only h
    have hvl : vs.length = fn.params.size + fn.nfree := Nat.eq_of_beq_eq_true hb
    have hal : args.length = vs.length := hargs.length.symm
    have hbd : bodyOf fn = code := by unfold bodyOf; rw [hbody]
    rw [hbd] at h
    have S : Sim C.P ⟨w, Blocks G objs, fun _ => False, Z, false, false, G, []⟩ fn.ntmps ⟨argsT 0 vs, objs⟩ { tmps := args.toArray ++ Array.replicate (fn.ntmps - args.toArray.size) undef, defers := [] } w Z G :=
      { size := by simp only [Array.size_append, Array.size_replicate, List.size_toArray]; omega
        calm := rfl
        slot := fun t => by
          rcases argsT_get (vs := vs) (k := 0) (t := t) with h1 | ⟨_, s, h2, h3⟩
          · show RepSV w Z _ (get (argsT 0 vs) t) _
            rw [h1]; trivial
          · show RepSV w Z _ (get (argsT 0 vs) t) _
            simp only [Nat.sub_zero] at h2
            have ht : t < args.length := by have := (List.getElem?_eq_some_iff.1 h2).1; omega
            have hv : (args.toArray ++ Array.replicate (fn.ntmps - args.toArray.size) undef).getD t undef = args[t] := by
              rw [Array.getD_eq_getD_getElem?, Array.getElem?_append_left (by simpa using ht)]
              simp [ht]
            rw [hv, h3]
            have := hargs.nth t args[t] (List.getElem?_eq_getElem ht)
            rwa [nth_getElem h2] at this
        obj := hst.obj
        sep := hst.sep
        free := fun id o b h1 h2 => ⟨hst.free id o b h1 h2, .inl ⟨id, o, h1, h2⟩⟩
        keep := fun id o b _ _ h => h.elim
        nlt := fun _ h => h.elim
        lt := hst.lt
        fut := Fut.refl _ w
        new := fun b hb => .inl hb
        sub := fun b hb => hb
        flat := hst.flat
        odd := fun _ _ => rfl
        row := fun _ hb => .inl hb }
    refine calls_of_wp hf hbody (exec_sound (hC.panics fun v σ => finT objs R (.pan v) σ.objs) rfl rfl (fun _ h => h) code 0 hok (hloops.panics _) S h ?_ ?_ (fun _ c a w d v h => by cases d <;> exact h))
    · intro e σ' a' w' Z' G' he S'
      have S' : Sim C.P _ _ _ _ _ _ _ := S'
      have hexit : toExit e = .normal ∨ toExit e = .ret := by
        cases e with
        | normal => exact .inl rfl
        | ret => exact .inr rfl
        | exit m => exact he.elim
      have hfin : ∃ rs, resVals C.P σ' fn.results.toList = some rs ∧ finT objs R (.ret rs) σ'.objs := by
        unfold endT at he
        split at he
        · exact he.elim
        · split at he
          · rename_i rs hrs; exact ⟨rs, hrs, he⟩
          · exact he.elim
      obtain ⟨rs, hrs, hfin⟩ := hfin
      obtain ⟨rv, hrun', hrr⟩ := resVals_rep S' hrs
      have hres : (results fn a'.tmps).run C.P w' = .ok (if h : rv.toArray.size = 1 then rv.toArray[0] else .tuple rv.toArray) w' := by
        rw [results_of, Array.mapM_eq_mapM_toList]
        simp [hrun']
      have hout : RepOut w' Z' G' (.ret rs) (.returned (if h : rv.toArray.size = 1 then rv.toArray[0] else .tuple rv.toArray)) := by
        have hl := hrr.length
        match rs, hrr with
        | [s], hrr =>
          obtain ⟨v, t, rfl, hv, ht⟩ := hrr
          have ht : t = [] := ht
          subst ht
          exact ⟨_, rfl, hv⟩
        | [], hrr =>
          have hrr : rv = [] := hrr
          subst hrr
          exact ⟨_, rfl, #[], rfl, rfl⟩
        | s :: s' :: rs, hrr =>
          refine ⟨_, rfl, rv.toArray, ?_, by simpa using hrr⟩
          rw [dif_neg]
          simp at hl ⊢
          omega
      have := finT_sound S' hst.flat hout hfin
      rcases hexit with h | h <;> (rw [h]; exact ⟨S'.calm, _, hres, this⟩)
    · intro s σ' a' w' Z' G' v h' S' hr
      exact ⟨S'.calm, finT_sound (out := .pan s) (e := .panicked [{ v := v, recovered := false }]) S' hst.flat ⟨v, rfl, hr⟩ h'⟩
theorem loopsOk_of {C : Ctx} : ∀ {code : Code} {c : Nat}, (∀ p ∈ loopsOf code c, LoopOk C p.1 p.2) → LoopsOk C code c
  | .seq _ _, _, h => ⟨loopsOk_of fun p hp => h p (List.mem_append.2 (.inl hp)), loopsOk_of fun p hp => h p (List.mem_append.2 (.inr hp))⟩
  | .cond _ _ _, _, h => ⟨loopsOk_of fun p hp => h p (List.mem_append.2 (.inl hp)), loopsOk_of fun p hp => h p (List.mem_append.2 (.inr hp))⟩
  | .block id a, _, h => loopsOk_of (code := a) (c := id) h
  | .loop a, c, h => ⟨loopsOk_of (code := a) (c := c) fun p hp => h p (List.mem_cons_of_mem _ hp), h (c, a) (List.mem_cons_self ..)⟩
  | .skip, _, _ => trivial
  | .region _ _ _, _, _ => trivial
  | .rangeFunc _ _ _ _, _, _ => trivial
  | .exit _, _, _ => trivial
  | .scope _, _, _ => trivial
  | .label _, _, _ => trivial
  | .goto _, _, _ => trivial
  | .ret, _, _ => trivial
  | .refuse _, _, _ => trivial
def fnCk (fn : Func) : Bool := fn.body.isSome && !(fn.name == "runtime.NumGoroutine") && Nat.ble fn.params.size fn.ntmps && codeOk fn.ntmps (bodyOf fn)
theorem fn_ok {C : Ctx} (hC : C.Ok) {f : FuncId} {fn : Func} {us rs : List (List U)} (hf : C.P.funcs[f]? = some fn) (hck : fnCk fn = true) (hl : ∀ p ∈ loopsOf (bodyOf fn) 0, LoopOk C p.1 p.2) (hrun : okArgs C.P fn.params.toList us → run C fn us (· = rs)) : FnOk C.P f fn us rs := by
  unfold fnCk at hck
  simp only [Bool.and_eq_true] at hck
  obtain ⟨⟨⟨h1, h2⟩, h3⟩, h4⟩ := hck
  cases hb : fn.body with
  | none => rw [hb] at h1; cases h1
  | some code =>
    have hbd : bodyOf fn = code := by unfold bodyOf; rw [hb]
    rw [hbd] at h4 hl
    exact run_sound hC hf hb (by simpa using h2) (Nat.le_of_ble_eq_true h3) h4 (loopsOk_of hl) hrun
def fnCkT (fn : Func) : Bool := fn.body.isSome && !(fn.name == "runtime.NumGoroutine") && Nat.ble (fn.params.size + fn.nfree) fn.ntmps && codeOk fn.ntmps (bodyOf fn)
theorem fnT_ok {C : Ctx} (hC : C.Ok) {f : FuncId} {fn : Func} (hf : C.P.funcs[f]? = some fn) (hck : fnCkT fn = true) (hl : ∀ p ∈ loopsOf (bodyOf fn) 0, LoopOk C p.1 p.2) : FnTr C.P f fn (runD C fn) := by
  unfold fnCkT at hck
  simp only [Bool.and_eq_true] at hck
  obtain ⟨⟨⟨h1, h2⟩, h3⟩, h4⟩ := hck
  cases hb : fn.body with
  | none => rw [hb] at h1; cases h1
  | some code =>
    have hbd : bodyOf fn = code := by unfold bodyOf; rw [hb]
    rw [hbd] at h4 hl
    exact runT_sound hC hf hb (by simpa using h2) (Nat.le_of_ble_eq_true h3) h4 (loopsOk_of hl)
def SpecF (P : Program) (f : FuncId) (S : List (List U) → List (List U)) : Prop := ∀ fn us, P.funcs[f]? = some fn → FnOk P f fn us (S us)
def SpecT (P : Program) (f : FuncId) (F : Tr) : Prop := ∀ fn, P.funcs[f]? = some fn → FnTr P f fn F
abbrev FnTab : Type := FuncId → List (List U) → Option (Option Prop × List (List U))
def fnsNil : FnTab := fun _ _ => none
def fnsCons (g : FuncId) (S : List (List U) → List (List U)) (r : FnTab) : FnTab := fun f us => bif Nat.beq f g then some (none, S us) else r f us
def fnsConsP (g : FuncId) (p : List (List U) → Prop) (S : List (List U) → List (List U)) (r : FnTab) : FnTab := fun f us => bif Nat.beq f g then some (some (p us), S us) else r f us
def SpecFP (P : Program) (f : FuncId) (p : List (List U) → Prop) (S : List (List U) → List (List U)) : Prop := ∀ fn us, P.funcs[f]? = some fn → p us → FnOk P f fn us (S us)
def trsNil : FuncId → Option (List Bool × Tr) := fun _ => none
def trsCons (g : FuncId) (fs : List Bool) (F : Tr) (r : FuncId → Option (List Bool × Tr)) : FuncId → Option (List Bool × Tr) := fun f => bif Nat.beq f g then some (fs, F) else r f
def OkF (P : Program) (T : FnTab) : Prop := ∀ f fn us p rs, P.funcs[f]? = some fn → T f us = some (p, rs) → withP p True → FnOk P f fn us rs
def OkT (P : Program) (T : FuncId → Option (List Bool × Tr)) : Prop := ∀ f fn fs F, P.funcs[f]? = some fn → T f = some (fs, F) → FnTr P f fn F
theorem OkF.nil {P : Program} : OkF P fnsNil := fun _ _ _ _ _ _ h => by cases h
theorem OkT.nil {P : Program} : OkT P trsNil := fun _ _ _ _ _ h => by cases h
theorem OkF.cons {P : Program} {g : FuncId} {S : List (List U) → List (List U)} {r : FnTab} (h : SpecF P g S) (hr : OkF P r) : OkF P (fnsCons g S r) := fun f fn us p rs hf h' hp => by
  unfold fnsCons at h'
  cases hb : Nat.beq f g with
  | true =>
    rw [hb] at h'
    have := Nat.eq_of_beq_eq_true hb
    subst this
    injection h' with h'
    cases h'
    exact h fn us hf
  | false => rw [hb] at h'; exact hr f fn us p rs hf h' hp
theorem OkF.consP {P : Program} {g : FuncId} {pre : List (List U) → Prop} {S : List (List U) → List (List U)} {r : FnTab} (h : SpecFP P g pre S) (hr : OkF P r) : OkF P (fnsConsP g pre S r) := fun f fn us p rs hf h' hp => by
  unfold fnsConsP at h'
  cases hb : Nat.beq f g with
  | true =>
    rw [hb] at h'
    have := Nat.eq_of_beq_eq_true hb
    subst this
    injection h' with h'
    cases h'
    exact h fn us hf hp.1
  | false => rw [hb] at h'; exact hr f fn us p rs hf h' hp
theorem OkT.cons {P : Program} {g : FuncId} {fs : List Bool} {F : Tr} {r : FuncId → Option (List Bool × Tr)} (h : SpecT P g F) (hr : OkT P r) : OkT P (trsCons g fs F r) := fun f fn fs' F' hf h' => by
  unfold trsCons at h'
  cases hb : Nat.beq f g with
  | true =>
    rw [hb] at h'
    have := Nat.eq_of_beq_eq_true hb
    subst this
    injection h' with h'
    cases h'
    exact h fn hf
  | false => rw [hb] at h'; exact hr f fn fs' F' hf h'
def mkC (P : Program) (eqs : TypeId → Option (List IntKind)) (fns : FnTab) (trs : FuncId → Option (List Bool × Tr)) (loops : Nat → Option (List Nat × List Nat × LoopF)) (lout kout : Nat → Option (List Nat × List Nat)) : Ctx :=
  { P := P, eqs := eqs, fns := fns, trs := trs, pan := fun _ _ => False, loops := loops, kout := kout, lout := lout }
theorem mkC_ok {P : Program} {eqs : TypeId → Option (List IntKind)} {fns : FnTab} {trs : FuncId → Option (List Bool × Tr)} {loops : Nat → Option (List Nat × List Nat × LoopF)} {lout kout : Nat → Option (List Nat × List Nat)}
    (he : ∀ t ks, eqs t = some ks → EqOk P t ks) (hm : P.follows .mixedOrders = true) (hf : OkF P fns) (ht : OkT P trs) : (mkC P eqs fns trs loops lout kout).Ok := ⟨hf, ht, he, hm, fun _ _ h => by cases h⟩
def SV.u : SV → U
  | .val _ u => u
  | _ => .i 0
def Obj.xs : Obj → List U
  | .arr _ xs => xs
  | _ => []
@[simp] theorem SV.u_val (c : Ct) (u : U) : (SV.val c u).u = u := rfl
@[simp] theorem Obj.xs_arr (e : TypeId) (xs : List U) : (Obj.arr e xs).xs = xs := rfl
abbrev Mu : Type := List SV → List Obj → Nat
abbrev KE : Type := Ex → St → Prop
abbrev KP : Type := SV → St → Prop
abbrev RT : Type := Out → Objs → Prop
abbrev RF : Type := List (List U) → Prop
def noLoops : Nat → Option (List Nat × List Nat × LoopF) := fun _ => none
def noOut : Nat → Option (List Nat × List Nat) := fun _ => none
def loopCons (c : Nat) (ts os : List Nat) (F : LoopF) (r : Nat → Option (List Nat × List Nat × LoopF)) : Nat → Option (List Nat × List Nat × LoopF) := fun d => bif Nat.beq d c then some (ts, os, F) else r d
def outCons (c : Nat) (ts os : List Nat) (r : Nat → Option (List Nat × List Nat)) : Nat → Option (List Nat × List Nat) := fun d => bif Nat.beq d c then some (ts, os) else r d
end Go.Den

namespace Go.Den
open Go Go.RowKit
def fieldsInt (P : Program) : Nat → List Field → List IntKind → Bool
  | _, [], [] => true
  | n, f :: fs, k :: ks => match P.underlying f.type with
    | some (.int k') => (f.name != "_") && Nat.beq f.offset n && IntKind.same k k' && fieldsInt P (n + 1) fs ks
    | _ => false
  | _, _, _ => false
theorem run_part_int {P : Program} {w : World} {t : TypeId} {k : IntKind} {vs : Array Value} {off : Nat} {v : Value} (hu : P.underlying t = some (.int k)) (hv : vs[off]? = some v) : (_root_.Go.part t vs off).run P w = .ok v w := by
  have hl : off < vs.size := (Array.getElem?_eq_some_iff.1 hv).1
  have hv' : vs[off] = v := (Array.getElem?_eq_some_iff.1 hv).2
  simp only [_root_.Go.part, Sem.run_bind, run_isAgg hu, Result.andThen, aggD]
  simp [Array.getElem?_eq_getElem hl, hv']
theorem eqFields_ints {P : Program} {w : World} : ∀ (fs : List Field) (ks : List IntKind) (n : Nat) (is js : List Int) (xs ys : List Value), fieldsInt P n fs ks = true → is.length = ks.length → js.length = ks.length →
    xs.drop n = List.zipWith Value.int ks is → ys.drop n = List.zipWith Value.int ks js → (Op.eqFields 9999 xs.toArray ys.toArray fs).run P w = .ok (decide (is = js)) w
  | [], [], n, [], [], xs, ys, _, _, _, _, _ => by simp [Op.eqFields]
  | [], _ :: _, _, _, _, _, _, h, _, _, _, _ => by simp [fieldsInt] at h
  | _ :: _, [], _, _, _, _, _, h, _, _, _, _ => by simp [fieldsInt] at h
  | f :: fs, k :: ks, n, i :: is, j :: js, xs, ys, h, hi, hj, hx, hy => by
    unfold fieldsInt at h
    split at h
    · rename_i k' hu
      simp only [Bool.and_eq_true] at h
      obtain ⟨⟨⟨h1, h2⟩, h3⟩, h4⟩ := h
      have h1 : f.name ≠ "_" := by simpa using h1
      have h2 := Nat.eq_of_beq_eq_true h2
      have := same_eq h3
      subst this
      have hx0 : xs[n]? = some (.int k i) := by
        have := List.getElem?_drop (xs := xs) (i := n) (j := 0)
        rw [hx] at this
        simpa using this.symm
      have hy0 : ys[n]? = some (.int k j) := by
        have := List.getElem?_drop (xs := ys) (i := n) (j := 0)
        rw [hy] at this
        simpa using this.symm
      have hpx := run_part_int (w := w) hu (vs := xs.toArray) (off := f.offset) (v := .int k i) (by simpa [h2] using hx0)
      have hpy := run_part_int (w := w) hu (vs := ys.toArray) (off := f.offset) (v := .int k j) (by simpa [h2] using hy0)
      have heq := run_equalIn_int (P := P) w 9998 f.type k k i j hu
      have hx1 : xs.drop (n + 1) = List.zipWith Value.int ks is := by
        rw [← List.tail_drop, hx]; rfl
      have hy1 : ys.drop (n + 1) = List.zipWith Value.int ks js := by
        rw [← List.tail_drop, hy]; rfl
      have ih := eqFields_ints (w := w) fs ks (n + 1) is js xs ys h4 (by simpa using hi) (by simpa using hj) hx1 hy1
      simp only [Op.eqFields, h1, ne_eq, not_false_eq_true, if_true, Sem.run_bind, hpx, hpy, Result.andThen_ok]
      rw [show (9999 : Nat) = 9998 + 1 from rfl, heq]
      simp only [Result.andThen_ok]
      by_cases hij : i = j
      · subst hij
        simp only [BEq.rfl, Bool.not_true, Bool.false_eq_true, if_false]
        rw [ih]
        simp
      · have : (i == j) = false := by simpa using hij
        simp [this, hij]
    · cases h
  | _ :: _, _ :: _, _, [], _, _, _, _, hi, _, _, _ => by simp at hi
  | _ :: _, _ :: _, _, _ :: _, [], _, _, _, _, hj, _, _ => by simp at hj
  | [], [], _, _ :: _, _, _, _, _, hi, _, _, _ => by simp at hi
  | [], [], _, [], _ :: _, _, _, _, _, hj, _, _ => by simp at hj
def eqCk (P : Program) (t : TypeId) (ks : List IntKind) : Bool := match P.underlying t with
  | some (.struct fs) => !P.stoodInHeld t && !P.eqGuardType P.depth t && fieldsInt P 0 fs.toList ks
  | _ => false
theorem eq_ok {P : Program} {t : TypeId} {ks : List IntKind} (h : eqCk P t ks = true) : EqOk P t ks := by
  unfold eqCk at h
  split at h
  · rename_i fs hu
    simp only [Bool.and_eq_true, Bool.not_eq_true'] at h
    obtain ⟨⟨h1, h2⟩, h3⟩ := h
    intro x y is js w hi hj
    have hf : P.fieldsOf t = fs := by unfold Program.fieldsOf; rw [hu]
    have hrun := run_equalIn_struct (P := P) w 9999 t (List.zipWith Value.int ks is).toArray (List.zipWith Value.int ks js).toArray (by rw [hf]; exact hu) h1
    rw [hf, eqFields_ints fs.toList ks 0 is js _ _ h3 hi hj rfl rfl] at hrun
    unfold aggI
    constructor
    · simp only [Sem.run_bind, run_eqGuard_agg w _ t x y _ _ h2, Result.andThen_ok, run_eql_struct]
      rw [show (10000 : Nat) = 9999 + 1 from rfl, hrun]; rfl
    · simp only [Sem.run_bind, run_eqGuard_agg w _ t x y _ _ h2, Result.andThen_ok, run_neq_struct]
      rw [show (10000 : Nat) = 9999 + 1 from rfl, hrun]; rfl
  · cases h
theorem shape1 {P : Program} {t : TypeId} {us : List (List U)} {m : Bool} {cs : List Ct} (hc : Cs P t = some (m, cs)) (h : shapeOk P [t] us) : ∃ u, us = [u] ∧ u.length = cs.length := by
  obtain ⟨u, r, m', cs', rfl, hcs, hl, hr⟩ := h
  rw [hc] at hcs; cases hcs
  have hr : r = [] := hr
  subst hr
  exact ⟨u, rfl, hl⟩
theorem shape2 {P : Program} {t t2 : TypeId} {us : List (List U)} {m m2 : Bool} {cs cs2 : List Ct} (hc : Cs P t = some (m, cs)) (hc2 : Cs P t2 = some (m2, cs2)) (h : shapeOk P [t, t2] us) : ∃ u u2, us = [u, u2] ∧ u.length = cs.length ∧ u2.length = cs2.length := by
  obtain ⟨u, r, m', cs', rfl, hcs, hl, hr⟩ := h
  rw [hc] at hcs; cases hcs
  obtain ⟨u2, rfl, hl2⟩ := shape1 hc2 hr
  exact ⟨u, u2, rfl, hl, hl2⟩
theorem shape3 {P : Program} {t t2 t3 : TypeId} {us : List (List U)} {m m2 m3 : Bool} {cs cs2 cs3 : List Ct} (hc : Cs P t = some (m, cs)) (hc2 : Cs P t2 = some (m2, cs2)) (hc3 : Cs P t3 = some (m3, cs3)) (h : shapeOk P [t, t2, t3] us) :
    ∃ u u2 u3, us = [u, u2, u3] ∧ u.length = cs.length ∧ u2.length = cs2.length ∧ u3.length = cs3.length := by
  obtain ⟨u, r, m', cs', rfl, hcs, hl, hr⟩ := h
  rw [hc] at hcs; cases hcs
  obtain ⟨u2, u3, rfl, hl2, hl3⟩ := shape2 hc2 hc3 hr
  exact ⟨u, u2, u3, rfl, hl, hl2, hl3⟩
theorem len1 {u : List U} (h : u.length = 1) : ∃ a, u = [a] := List.length_eq_one_iff.1 h
theorem len5 {u : List U} (h : u.length = 5) : ∃ a b c d e, u = [a, b, c, d, e] := match u, h with | [a, b, c, d, e], _ => ⟨a, b, c, d, e, rfl⟩
theorem bi {b : Bool} {x y : Prop} (h1 : b = true → x) (h2 : b = false → y) : (bif b then x else y) := by
  cases b
  · exact h2 rfl
  · exact h1 rfl
theorem bt {b : Bool} {x y : Prop} (h : b = true) (hx : x) : (bif b then x else y) := by rw [h]; exact hx
theorem bf {b : Bool} {x y : Prop} (h : b = false) (hy : y) : (bif b then x else y) := by rw [h]; exact hy
theorem bd {p : Prop} [Decidable p] {x y : Prop} (h1 : p → x) (h2 : ¬ p → y) : (bif decide p then x else y) := by
  by_cases h : p
  · rw [decide_eq_true h]; exact h1 h
  · rw [decide_eq_false h]; exact h2 h
theorem dt {p : Prop} [Decidable p] {x y : Prop} (h : p) (hx : x) : (bif decide p then x else y) := by rw [decide_eq_true h]; exact hx
theorem df {p : Prop} [Decidable p] {x y : Prop} (h : ¬ p) (hy : y) : (bif decide p then x else y) := by rw [decide_eq_false h]; exact hy
theorem blt {a b : Nat} {x y : Prop} (h : a < b) (hx : x) : (bif Nat.blt a b then x else y) := bt (by simpa [Nat.blt_eq] using h) hx
theorem broom {p : Prop} [Decidable p] {c : Bool} {x y : Prop} (h : p) (hc : c = true) (hx : x) : (bif decide p && c then x else y) := bt (by simp [h, hc]) hx
theorem loops_one {C : Ctx} {code : Code} {c : Nat} {b : Code} (h : loopsOf code 0 = [(c, b)]) (hl : LoopOk C c b) : ∀ p ∈ loopsOf code 0, LoopOk C p.1 p.2 := by
  rw [h]; intro p hp
  have : p = (c, b) := by simpa using hp
  subst this; exact hl
theorem loops_two {C : Ctx} {code : Code} {c c' : Nat} {b b' : Code} (h : loopsOf code 0 = [(c, b), (c', b')]) (hl : LoopOk C c b) (hl' : LoopOk C c' b') : ∀ p ∈ loopsOf code 0, LoopOk C p.1 p.2 := by
  rw [h]; intro p hp
  rcases List.mem_cons.1 hp with hp | hp
  · subst hp; exact hl
  · have : p = (c', b') := by simpa using hp
    subst this; exact hl'
theorem loops_three {C : Ctx} {code : Code} {c c' c2 : Nat} {b b' b2 : Code} (h : loopsOf code 0 = [(c, b), (c', b'), (c2, b2)]) (hl : LoopOk C c b) (hl' : LoopOk C c' b') (hl2 : LoopOk C c2 b2) : ∀ p ∈ loopsOf code 0, LoopOk C p.1 p.2 := by
  rw [h]; intro p hp
  rcases List.mem_cons.1 hp with hp | hp
  · subst hp; exact hl
  rcases List.mem_cons.1 hp with hp | hp
  · subst hp; exact hl'
  · have : p = (c2, b2) := by simpa using hp
    subst this; exact hl2
theorem loops_none {C : Ctx} {code : Code} (h : loopsOf code 0 = []) : ∀ p ∈ loopsOf code 0, LoopOk C p.1 p.2 := by
  rw [h]; intro p hp; cases hp
structure Holds (p : Prop) : Prop where
  out : p
theorem Holds.eq {a b : Prop} (h : a = b) (hb : b) : Holds a := ⟨by rw [h]; exact hb⟩
theorem fn_okH {C : Ctx} (hC : C.Ok) {f : FuncId} {fn : Func} {us rs : List (List U)} (hf : C.P.funcs[f]? = some fn) (hck : fnCk fn = true) (hl : ∀ p ∈ loopsOf (bodyOf fn) 0, LoopOk C p.1 p.2) (hrun : okArgs C.P fn.params.toList us → Holds (run C fn us (· = rs))) : FnOk C.P f fn us rs :=
  fn_ok hC hf hck hl fun h => (hrun h).out
theorem fnT_okH {C : Ctx} (hC : C.Ok) {f : FuncId} {fn : Func} {F : Tr} (hf : C.P.funcs[f]? = some fn) (hck : fnCkT fn = true) (hl : ∀ p ∈ loopsOf (bodyOf fn) 0, LoopOk C p.1 p.2)
    (h : ∀ vs objs R, okS.okSs vs → (∀ id o, (id, o) ∈ objs → okO C.P o) → F vs objs R → Holds (runD C fn vs objs R)) : FnTr C.P f fn F :=
  (fnT_ok hC hf hck hl).weakenOk fun vs objs R h1 h2 h3 => (h vs objs R h1 h2 h3).out
theorem nt {b : Bool} (h : (!b) = true) : b = false := by simpa using h
theorem nf {b : Bool} (h : (!b) = false) : b = true := by simpa using h
theorem loopOk_of {C : Ctx} {c : Nat} {b : Code} {ts os : List Nat} {F : LoopF} (hF : C.loops c = some (ts, os, F)) (μ : Mu)
    (h : ∀ (pan : KP) (svs : List SV) (l : List Obj) (k : KE), okS.okSs svs → okOs C.P l → F pan svs l k → Holds (exec (C.panics pan) b c ⟨ts.zip svs, os.zip l⟩ (again C.P (C.lout c) (C.lout (c + 1048576)) pan ts os F μ (μ svs l) k))) : LoopOk C c b := by
  intro ts' os' F' h'
  rw [hF] at h'
  cases h'
  exact ⟨μ, fun pan svs l k _ _ h1 h2 h3 => (h pan svs l k h1 h2 h3).out⟩
end Go.Den

namespace Go.Den
open Go Go.RowKit Go.ChangeShapes Go.WideShapes Go.Deep
def offOk (P : Program) (ok : TypeId → Bool) (n : Nat) : Nat → List Field → Bool
  | _, [] => true
  | off, f :: fs => match cts P n f.type with
    | some (_, cs) => Nat.beq f.offset off && Nat.beq (P.cellsOf f.type) cs.length && ok f.type && offOk P ok n (off + cs.length) fs
    | none => false
def readOk (P : Program) : Nat → TypeId → Bool
  | 0, _ => false
  | n + 1, t => match P.underlying t with
    | some (.int _) => true
    | some .bool => true
    | some .string => true
    | some (.slice e) => match cts P n e with
      | some (_, cs) => Nat.beq (P.cellsOf e) cs.length && Nat.blt 0 cs.length && readOk P n e
      | none => false
    | some (.struct fs) => match fldCts (cts P n) fs.toList with
      | some cs => Nat.beq (P.cellsOf t) cs.length && offOk P (readOk P n) n 0 fs.toList
      | none => false
    | _ => false
theorem cts_false {P : Program} : ∀ {n : Nat} {t : TypeId} {cs : List Ct}, cts P n t = some (false, cs) → ∃ c, cs = [c]
  | 0, t, cs, h => by cases h
  | n + 1, t, cs, h => by
    unfold cts at h
    repeat' split at h
    all_goals first | (cases h; exact ⟨_, rfl⟩) | cases h
section
variable {H : Type} {enc : TypeId × Value → H} {P : Program} {w : World} {base : Nat} {sp : Nat → Bool} {held : Bool}
theorem RepL.cat {w : World} {Z : Nat → Prop} : ∀ {cs ds : List Ct} {v x : List Value} {us ys : List U}, RepL w Z cs v us → us.length = cs.length → RepL w Z ds x ys → RepL w Z (cs ++ ds) (v ++ x) (us ++ ys)
  | [], ds, v, x, us, ys, hv, hu, hx => by
    have hv : v = [] := hv
    have hu : us = [] := List.eq_nil_of_length_eq_zero hu
    subst hv hu
    exact hx
  | c :: cs, ds, v, x, [], ys, hv, hu, hx => by simp at hu
  | c :: cs, ds, v, x, u :: us, ys, hv, hu, hx => by
    obtain ⟨a, t, rfl, hr, ht⟩ := hv
    exact ⟨a, t ++ x, rfl, hr, RepL.cat (us := us) ht (by simpa using hu) hx⟩
theorem cell_lt {a : Addr} {v : Value} (h : w.cell? a = some v) : a.block < w.heap.size ∧ a = ⟨a.block, a.off, none⟩ := by
  unfold World.cell? at h
  split at h
  · rename_i c e fr hb
    split at h
    · cases h
    · rename_i hs
      refine ⟨(Array.getElem?_eq_some_iff.1 hb).1, ?_⟩
      obtain ⟨b, o, s⟩ := a
      cases s with
      | none => rfl
      | some x => simp at hs
  · cases h
theorem listOf {p : Nat → U → Prop} : ∀ (n : Nat), (∀ i, i < n → ∃ u, p i u) → ∃ L : List U, L.length = n ∧ ∀ i, i < n → p i (U.at L i)
  | 0, _ => ⟨[], rfl, fun i hi => by omega⟩
  | n + 1, h => by
    obtain ⟨L, hl, hp⟩ := listOf n fun i hi => h i (by omega)
    obtain ⟨u, hu⟩ := h n (by omega)
    refine ⟨L ++ [u], by simp [hl], fun i hi => ?_⟩
    by_cases hin : i < n
    · have := hp i hin
      rw [at_getElem _ _ (by omega)] at this
      rw [at_getElem _ _ (by simp; omega), List.getElem_append_left (by omega)]
      exact this
    · have : i = n := by omega
      subst this
      rw [at_getElem _ _ (by simp; omega), List.getElem_append_right (by omega)]
      simpa [hl] using hu
theorem flds_rep {n : Nat} {ok : TypeId → Bool} {vals : List Value} {Z : Nat → Prop}
    (ih : ∀ t m cs vs, cts P n t = some (m, cs) → ok t = true → (∃ fuel x, DataW.trod enc P w base sp held fuel t vs = some x) → ∃ us, us.length = cs.length ∧ RepL w Z cs vs us) :
    ∀ (fs : List Field) (off : Nat) (cs : List Ct), fldCts (cts P n) fs = some cs → offOk P ok n off fs = true → (∀ f ∈ fs, ∃ fuel x, DataW.trod enc P w base sp held fuel f.type ((vals.drop f.offset).take (P.cellsOf f.type)) = some x) →
      vals.length = off + cs.length → ∃ us, us.length = cs.length ∧ RepL w Z cs (vals.drop off) us
  | [], off, cs, h, _, _, hl => by
    simp only [fldCts, Option.some.injEq] at h
    subst h
    refine ⟨[], rfl, ?_⟩
    show vals.drop off = []
    rw [List.drop_of_length_le (by simp at hl; omega)]
  | f :: fs, off, cs, h, ho, ht, hl => by
    unfold fldCts at h
    unfold offOk at ho
    split at h
    · rename_i m c1 c2 h1 h2
      injection h with h
      subst h
      rw [h1] at ho
      simp only [Bool.and_eq_true] at ho
      obtain ⟨⟨⟨ho1, ho2⟩, ho3⟩, ho4⟩ := ho
      have ho1 := Nat.eq_of_beq_eq_true ho1
      have ho2 := Nat.eq_of_beq_eq_true ho2
      simp only [List.length_append] at hl
      obtain ⟨u1, g1, g2⟩ := ih _ _ _ _ h1 ho3 (ht f (List.mem_cons_self ..))
      obtain ⟨u2, g3, g4⟩ := flds_rep ih fs (off + c1.length) c2 h2 ho4 (fun f' hf' => ht f' (List.mem_cons_of_mem _ hf')) (by omega)
      refine ⟨u1 ++ u2, by simp [g1, g3], ?_⟩
      rw [ho1, ho2] at g2
      have := RepL.cat g2 g1 g4
      have hsp : (vals.drop off).take c1.length ++ vals.drop (off + c1.length) = vals.drop off := by
        rw [← List.drop_drop, List.take_append_drop]
      rw [hsp] at this
      exact this
    · cases h
theorem trod_rep : ∀ (n : Nat) (t : TypeId) (m : Bool) (cs : List Ct) (vals : List Value), cts P n t = some (m, cs) → readOk P n t = true → (∃ fuel x, DataW.trod enc P w base sp held fuel t vals = some x) →
    ∃ us, us.length = cs.length ∧ RepL w (fun b => b < w.heap.size) cs vals us
  | 0, _, _, _, _, h, _, _ => by cases h
  | n + 1, t, m, cs, vals, h, hr, ⟨fuel, x, hx⟩ => by
    unfold cts at h
    unfold readOk at hr
    split at h
    · rename_i k hu
      cases h
      obtain ⟨i, rfl, _, hw⟩ := DataW.trod_int hu hx
      exact ⟨[.i i], rfl, _, [], rfl, ⟨rfl, by simpa [Lit.wf] using hw⟩, rfl⟩
    · rename_i hu
      cases h
      obtain ⟨b, rfl, _⟩ := DataW.trod_bool hu hx
      exact ⟨[.b b], rfl, _, [], rfl, rfl, rfl⟩
    · rename_i hu
      cases h
      obtain ⟨s, rfl, _, hs⟩ := DataW.trod_string hu hx
      exact ⟨[.s s], rfl, _, [], rfl, ⟨rfl, hs⟩, rfl⟩
    · rename_i e hu
      rw [hu] at hr
      simp only at hr
      split at h
      · rename_i m' cs' hc
        cases h
        rw [hc] at hr
        simp only [Bool.and_eq_true] at hr
        obtain ⟨⟨hr1, hr2⟩, hr3⟩ := hr
        have hr1 := Nat.eq_of_beq_eq_true hr1
        have hr2 : 0 < cs'.length := by simpa [Nat.blt_eq] using hr2
        rcases open_slice hu hx with ⟨rfl, _⟩ | ⟨a, len, cap, mm, n', D, Pl, rfl, hb, hl, hm, hmm, _, hi⟩
        · exact ⟨[.l []], rfl, _, [], rfl, ⟨none, 0, rfl, Nat.le_refl _, Nat.zero_le _, fun k hk => absurd hk (by simp)⟩, rfl⟩
        · have hle : len ≤ mm := by rw [hmm]; split <;> omega
          have hA : 0 < len → a.block < w.heap.size ∧ a = ⟨a.block, a.off, none⟩ := fun hp => by
            obtain ⟨vs, h1, _⟩ := hi 0 (by omega)
            rw [hr1] at h1
            obtain ⟨_, h3, h4⟩ := World.cells?_some h1
            have hv := h4 0 hr2
            rw [List.getElem?_eq_getElem (by omega)] at hv
            have h0 : (a.add (0 * cs'.length)).add 0 = a := by simp [Addr.add]
            rw [h0] at hv
            exact cell_lt hv
          have hel : ∀ i, i < len → ∃ u, a = ⟨a.block, a.off, none⟩ ∧ a.block < w.heap.size ∧ RepCs w (fun b => b < w.heap.size) cs' a.block (a.off + i * cs'.length) (elemU m' u) := fun i hil => by
            obtain ⟨vs, h1, h2⟩ := hi i (by omega)
            rw [hr1] at h1
            obtain ⟨_, h3, h4⟩ := World.cells?_some h1
            obtain ⟨us, g1, g2⟩ := trod_rep n e m' cs' vs hc hr3 ⟨_, _, h2⟩
            obtain ⟨q1, ha⟩ := hA (by omega)
            refine ⟨ofElem m' us, ha, q1, ?_⟩
            have hE := RepL.elem (m := m') (fun hm0 => by subst hm0; exact cts_false hc) g2
            refine RepL.cells hE fun j v hj => ?_
            have hjl : j < vs.length := (List.getElem?_eq_some_iff.1 hj).1
            rw [← hj, ← h4 j (by omega)]
            congr 1
            obtain ⟨b, o, s⟩ := a
            cases ha
            by_cases hi0 : i * cs'.length = 0 <;> by_cases hj0 : j = 0 <;> simp [Addr.add, hi0, hj0, Nat.add_assoc]
          obtain ⟨L, hL, hp⟩ := listOf len hel
          refine ⟨[.l L], rfl, _, [], rfl, ⟨some a, cap, by rw [U.at]; simp [hL], by rw [U.at]; simpa [hL] using hl, hm, fun k hk => ?_⟩, rfl⟩
          obtain ⟨q1, q2, q3⟩ := hp k (by simpa [U.at, hL] using hk)
          exact ⟨a.block, a.off, by rw [← q1], q2, q3⟩
      · cases h
    · rename_i fs hu
      rw [hu] at hr
      simp only at hr
      split at h
      · rename_i cs' hc
        cases h
        rw [hc] at hr
        simp only [Bool.and_eq_true] at hr
        have hr1 := Nat.eq_of_beq_eq_true hr.1
        obtain ⟨xs, n', rfl, _, hlen, hxs, hf⟩ := DataW.trod_struct hu hx
        have := flds_rep (enc := enc) (base := base) (sp := sp) (held := held) (vals := vals) (fun t m cs vs a b c => trod_rep n t m cs vs a b c) fs.toList 0 _ hc hr.2 (fun f hfm => by
          obtain ⟨i, hi, hfi⟩ := List.mem_iff_getElem.1 hfm
          have hfi' : fs[i]? = some f := by
            rw [← hfi, ← Array.getElem?_toList, List.getElem?_eq_getElem hi]
          have := hf i f hfi'
          rw [List.getElem?_eq_getElem (by simp at hi; omega)] at this
          exact ⟨_, _, this⟩) (by omega)
        simpa using this
      · cases h
    · rename_i hu
      rename_i d _ _ _ _ _
      rw [hu] at hr
      split at hr <;> first | (rename_i hh; cases hh; simp_all) | cases hr
    · cases h
end
end Go.Den

namespace Go.Den
open Go Go.RowKit Go.ChangeShapes Go.WideShapes Go.Deep
section
variable {H : Type} {enc : TypeId × Value → H} {P : Program} {w : World} {base : Nat} {sp : Nat → Bool} {held : Bool}
theorem arg_rep {t : TypeId} {m : Bool} {cs : List Ct} {v : Value} {d : DataW H} {ps : List MemPlace} {r : Reach} {b0 : Nat} (hc : Cs P t = some (m, cs)) (hr : readOk P 8 t = true) (hv : Value.okWide P w r b0 t v) (h : DataW.Trod enc P w base sp held t v d ps) :
    ∃ us s, us.length = cs.length ∧ unflat P t us = some s ∧ RepSV w (fun b => b < w.heap.size) none_ s v := by
  obtain ⟨fuel, hx⟩ := h
  obtain ⟨us, hl, hR⟩ := trod_rep 8 t m cs _ hc hr ⟨_, _, hx⟩
  have hc' := hc
  unfold unflat
  rw [hc]
  have hone : ∀ {c : Ct}, cs = [c] → v.cells = #[v] → ∃ s, (match some (false, cs) with | some (true, cs) => some (SV.agg (vals cs us)) | some (false, [c]) => some (.val c (U.at us 0)) | _ => none) = some s ∧ RepSV w (fun b => b < w.heap.size) none_ s v := fun {c} hcs hvc => by
    subst hcs
    rw [hvc] at hR
    obtain ⟨x, l, he, hC, _⟩ := hR
    have he : v = x := by simp at he; exact he.1
    subst he
    exact ⟨_, rfl, hC⟩
  unfold cts at hc'
  split at hc'
  · rename_i k hu
    cases hc'
    obtain ⟨n, rfl⟩ := okWide_int hu hv
    obtain ⟨s, h1, h2⟩ := hone rfl rfl
    exact ⟨us, s, hl, h1, h2⟩
  · rename_i hu
    cases hc'
    obtain ⟨n, rfl⟩ := okWide_bool hu hv
    obtain ⟨s, h1, h2⟩ := hone rfl rfl
    exact ⟨us, s, hl, h1, h2⟩
  · rename_i hu
    cases hc'
    obtain ⟨n, rfl⟩ := okWide_string hu hv
    obtain ⟨s, h1, h2⟩ := hone rfl rfl
    exact ⟨us, s, hl, h1, h2⟩
  · rename_i e hu
    split at hc'
    · cases hc'
      obtain ⟨a, l, c, rfl⟩ := okWide_slice hu hv
      obtain ⟨s, h1, h2⟩ := hone rfl rfl
      exact ⟨us, s, hl, h1, h2⟩
    · cases hc'
  · rename_i fs hu
    split at hc'
    · cases hc'
      obtain ⟨vs, rfl, _⟩ := okWide_struct hu hv
      exact ⟨us, _, hl, rfl, vs, rfl, hR.vals⟩
    · cases hc'
  · rename_i hu1 hu2 hu3 hu4 hu5 hu
    unfold readOk at hr
    rw [hu] at hr
    split at hr <;> first | (rename_i hh; cases hh; simp_all) | cases hr
  · cases hc'
def argCk (P : Program) (t : TypeId) : Bool := P.readableRec t && decide (t < P.types.size) && readOk P 8 t && (Cs P t).isSome
def argsCk (P : Program) : List TypeId → Bool
  | [] => true
  | t :: ts => argCk P t && argsCk P ts
theorem argsD_rep : ∀ {ts : List TypeId} {vs : List Value} {ds : List (DataW H)} {ps : List MemPlace} {r : Reach} {b0 : Nat}, argsCk P ts = true → (∀ (j : Nat) t v, ts[j]? = some t → vs[j]? = some v → Value.okWide P w r b0 t v) → DataW.TrodAll enc P w base sp held ts vs ds ps →
    ds.length = ts.length ∧ ∃ us, shapeOk P ts us ∧ ArgsRep P w (fun b => b < w.heap.size) ts us vs
  | [], vs, ds, ps, _, _, _, _, h => by
    obtain ⟨rfl, rfl, _⟩ := trodAll_nil h
    exact ⟨rfl, [], rfl, [], rfl, rfl⟩
  | t :: ts, vs, ds, ps, r, b0, hck, hv, h => by
    obtain ⟨v0, vs0, d0, ds0, p0, q0, rfl, rfl, rfl, h0, r0⟩ := trodAll_cons h
    unfold argsCk at hck
    rw [Bool.and_eq_true] at hck
    have hck1 := hck.1
    unfold argCk at hck1
    simp only [Bool.and_eq_true] at hck1
    obtain ⟨⟨_, hck2⟩, hck3⟩ := hck1
    obtain ⟨⟨m, cs⟩, hcs⟩ := Option.isSome_iff_exists.1 hck3
    obtain ⟨u, s, h1, h2, h3⟩ := arg_rep hcs hck2 (hv 0 t v0 rfl rfl) h0
    obtain ⟨h4, us, h5, svs, h6, h7⟩ := argsD_rep hck.2 (fun j t v ht hv' => hv (j + 1) t v (by simpa using ht) (by simpa using hv')) r0
    refine ⟨by simp [h4], u :: us, ⟨u, us, m, cs, rfl, hcs, h1, h5⟩, s :: svs, ?_, v0, vs0, rfl, h3, h7⟩
    unfold unflats
    rw [h2, h6]
theorem args_stay (hl : laidOutB P = true) {W W' : World} (hb : Below W.heap.size W W') {sp' : Nat → Bool} : ∀ {ts : List TypeId} {vs : List Value} {ds : List (DataW H)} {ps : List MemPlace}, argsCk P ts = true →
    DataW.TrodAll enc P W 0 (fun _ => true) true ts vs ds ps → (∀ p ∈ ps, p.block < W.heap.size) → (∀ p ∈ ps, sp' p.block = true) → DataW.TrodAll enc P W' 0 sp' true ts vs ds ps
  | [], vs, ds, ps, _, h, _, _ => by
    obtain ⟨rfl, rfl, rfl⟩ := trodAll_nil h
    exact trodAll_mk0
  | t :: ts, vs, ds, ps, hck, h, hlt, hsp => by
    obtain ⟨v0, vs0, d0, ds0, p0, q0, rfl, rfl, rfl, h0, r0⟩ := trodAll_cons h
    unfold argsCk at hck
    rw [Bool.and_eq_true] at hck
    have hck1 := hck.1
    unfold argCk at hck1
    simp only [Bool.and_eq_true, decide_eq_true_eq] at hck1
    obtain ⟨⟨⟨hk1, hk2⟩, _⟩, _⟩ := hck1
    refine trodAll_cons_mk (WideElems.Trod_stays hl hk1 hk2 h0 (fun x hx => hb.same (hlt x (List.mem_append.2 (.inl hx)))) (fun x hx => hsp x (List.mem_append.2 (.inl hx)))) ?_
    exact args_stay hl hb hck.2 r0 (fun x hx => hlt x (List.mem_append.2 (.inr hx))) (fun x hx => hsp x (List.mem_append.2 (.inr hx)))
end
theorem law_calls {H : Type} {enc : TypeId × Value → H} {P : Program} {f : FuncId} {fn : Func} {s : ChangeSpec} {tb : TypeId} {apart handsOn : Bool} (hf : P.funcs[f]? = some fn) (hS : SpecF P f fun _ => [[.b true]]) (hrt : fn.resultTypes = #[tb]) (htb : P.underlying tb = some .bool)
    (hl : laidOutB P = true) (hck : argsCk P fn.params.toList = true) (hsv : s.vars = []) (hs : ∀ ds : List (DataW H), ds.length = fn.params.size → s.fn H ds = { results := [.lit (.bool true)], args := ds })
    {W : World} {base : Nat} {args : Array Value} {ds gs : List (DataW H)} {before : List MemPlace} (hval : ∀ (j : Nat) t v, fn.params[j]? = some t → args[j]? = some v → Value.okWide P W .any base t v)
    (hW : DataW.Whole enc P fn.params.toList s.vars apart W args.toList ds gs before) :
    Calls P f args W fun e W' => ∃ v, e = .returned v ∧ s.post enc P fn apart true handsOn false W args v W' := by
  have hlt := hW.lt
  have hW' := hW
  obtain ⟨p, q, hA, hV, rfl, _, _⟩ := hW
  rw [hsv] at hV
  obtain ⟨rfl, rfl⟩ := trodVars_none hV
  rw [List.append_nil] at hlt hW'
  obtain ⟨hlen, us, hsh, hrep⟩ := argsD_rep (enc := enc) hck (fun j t v ht hv => hval j t v (by simpa using ht) (by simpa using hv)) hA
  have hfn := hS fn us hf
  have hc := hfn.calls W (fun b => b < W.heap.size) args.toList (fun b hb => hb) hsh hrep
  rw [show args.toList.toArray = args by simp] at hc
  refine hc.mono fun e W' ⟨v, Z', he, hfut, _, _, _, svs, hsvs, hres⟩ => ⟨v, he, ?_⟩
  have hb : Below W.heap.size W W' := ⟨hfut.os, hfut.tape, hfut.output, hfut.size, fun k hk => hfut.block k hk (fun h => h)⟩
  have hcb : Cs P tb = some (false, [.bool]) := by simp [Cs, cts, htb]
  have hv : v = .bool true := by
    rw [hrt] at hsvs
    have : unflats P [tb] [[U.b true]] = some [.val .bool (.b true)] := by
      unfold unflats unflat
      rw [hcb]
      rfl
    have h2 : unflats P (#[tb] : Array TypeId).toList [[U.b true]] = some [.val .bool (.b true)] := this
    rw [h2] at hsvs
    cases hsvs
    exact hres
  subst hv
  have hsfn : s.fn H (ds ++ []) = { results := [.lit (.bool true)], args := ds } := by
    rw [List.append_nil]; exact hs ds (by rw [hlen]; simp)
  refine ⟨ds, [], p, [], p, [], hW', ?_, ?_, ?_, hb.frame _, fun h => by cases h⟩
  · rw [hsfn, hrt]
    exact trodAll_cons_mk (shut_bool htb true) trodAll_mk0
  · rw [hsfn]
    exact args_stay hl hb hck hA hlt fun x hx => by simpa using hlt x hx
  · rw [hsfn, hsv]
    exact rfl
end Go.Den

namespace Go.Den
open Go Go.RowKit
section
variable {C : Ctx} {Θ : Anc} {n : Nat}
end
def IntRow (w : World) (J : Nat → Prop) (sz : Nat) (n : Nat) (v : Value) : Prop := ∃ A c, v = .slice A n c ∧ n ≤ maxLen ∧ ∀ k, k < n → ∃ b o, A = some ⟨b, o, none⟩ ∧ J b ∧ Plain w b ∧ ∃ i, w.cell? ⟨b, o + k * sz, none⟩ = some (.int .i64 i)
theorem IntRow.ne {J : Nat → Prop} {w : World} {sz n : Nat} {v : Value} (h : IntRow w J sz n v) : ∀ i, v ≠ .int .i64 i := by
  obtain ⟨A, c, rfl, _⟩ := h
  intro i e
  cases e
end Go.Den

namespace Go.Den
open Go
theorem fnOk_true {P : Program} {f : FuncId} {fn : Func} {tb : TypeId} (hb : fn.body.isNone = false) (hn : (fn.name == "runtime.NumGoroutine") = false) (hp : fn.params.toList = []) (hrt : fn.resultTypes.toList = [tb]) (htb : P.underlying tb = some .bool)
    (hc : ∀ w, Calls P f #[] w fun r w' => r = .returned (.bool true) ∧ w'.os = w.os ∧ w'.tape = w.tape ∧ w'.output = w.output ∧ w.heap.size ≤ w'.heap.size ∧ ∀ b, b < w.heap.size → w'.heap[b]? = w.heap[b]?) : FnOk P f fn [] [[.b true]] where
  body := hb
  name := hn
  calls := by
    intro w Z vs hZ _ ⟨svs, h1, h2⟩
    rw [hp] at h1
    have h1 : some [] = some svs := h1
    injection h1 with h1
    subst h1
    have h2 : vs = [] := h2
    subst h2
    have hcb : Cs P tb = some (false, [.bool]) := by simp [Cs, cts, htb]
    refine (hc w).mono fun e w' ⟨k1, k2, k3, k4, k5, k6⟩ => ⟨.bool true, Z, k1, ⟨k2, k3, k4, k5, fun k hk _ => k6 k hk⟩, fun _ h => h, fun _ h => .inl h, fun b hb => Nat.lt_of_lt_of_le (hZ b hb) k5, [.val .bool (.b true)], ?_, rfl⟩
    rw [hrt]
    unfold unflats unflat
    rw [hcb]
    rfl
def svA : AM.AV → SV
  | .i k n => .val (.int (AM.kindOf k)) (.i n)
  | _ => .unk
def isI : AM.AV → Bool
  | .i k n => inK (AM.kindOf k) n
  | _ => false
theorem isI_i {a : AM.AV} (h : isI a = true) : ∃ k n, a = .i k n ∧ (AM.kindOf k).min ≤ n ∧ n ≤ (AM.kindOf k).max := by
  cases a <;> first | (cases h; done) | skip
  rename_i k n
  have h : inK (AM.kindOf k) n = true := h
  unfold inK at h
  simp only [Bool.and_eq_true, decide_eq_true_eq] at h
  exact ⟨k, n, rfl, h.1, h.2⟩
theorem svA_rep {w : World} {Z : Nat → Prop} {G : Nat → Value} {θ : AM.Th} : ∀ {l : List AM.AV} {vs : List Value}, l.all isI = true → RepSVs w Z G (l.map svA) vs → vs = AM.toVs θ l
  | [], vs, _, h => h
  | a :: l, vs, hl, h => by
    rw [List.all_cons, Bool.and_eq_true] at hl
    obtain ⟨k, n, rfl, _, _⟩ := isI_i hl.1
    obtain ⟨v, r, rfl, h1, h2⟩ := h
    have h1 : v = .int (AM.kindOf k) n := h1.1
    rw [h1, svA_rep (θ := θ) hl.2 h2]
    rfl
theorem rep_svA {w : World} {Z : Nat → Prop} {G : Nat → Value} {θ : AM.Th} : ∀ {l : List AM.AV}, l.all isI = true → RepSVs w Z G (l.map svA) (AM.toVs θ l)
  | [], _ => rfl
  | a :: l, hl => by
    rw [List.all_cons, Bool.and_eq_true] at hl
    obtain ⟨k, n, rfl, h1, h2⟩ := isI_i hl.1
    exact ⟨_, _, rfl, ⟨rfl, h1, h2⟩, rep_svA hl.2⟩
theorem isI_one {l : List AM.AV} (h : l.all isI = true) : l.all AM.one = true := by
  rw [List.all_eq_true] at h ⊢
  intro a ha
  obtain ⟨k, n, rfl, _⟩ := isI_i (h a ha)
  rfl
theorem isI_ok {θ : AM.Th} {l : List AM.AV} (h : l.all isI = true) : AM.Oks θ l := by
  rw [AM.Oks_iff]
  rw [List.all_eq_true] at h
  intro a ha
  obtain ⟨k, n, rfl, _⟩ := isI_i (h a ha)
  trivial
noncomputable def boxT (n : Int) (l : List AM.AV) (v : AM.AV) (h : AM.H) : AM.R := match v with
  | .i 6 m => (m == n) && AM.get 0 h fun a => match a with | .sm l' => AM.beqVs l' l | _ => false
  | _ => false
noncomputable def boxF (l0 l1 : List SV) (res : Nat → Int) : Tr := fun vs objs R => match vs, objs with
  | [.ptr i off, .val (.int .u32) u], [(j, .box cells)] => (i = j ∧ off = 0 ∧ (cells = l0 ∨ cells = l1)) ∧ R (.ret [.val (.int .u32) (.i (res (u.int.toNat % 16)))]) [(j, .box l1)]
  | _, _ => False
theorem fnTr_box {P : Program} {f : FuncId} {fn : Func} (hb : fn.body.isNone = false) (hn : (fn.name == "runtime.NumGoroutine") = false) {tb : AM.Tb} (ht : AM.TbOk tb P) (hm : P.follows .mixedOrders = true) {N : Nat} {l0 l1 : List AM.AV} {res : Nat → Int}
    (h0 : l0.all isI = true) (h1 : l1.all isI = true) (hres : ∀ r, r < 16 → inK .u32 (res r) = true)
    (hr0 : ∀ r, r < 16 → AM.enterK tb f [.p 0 0, .xi 0 6 r 16] false [] (AM.setO AM.h0 0 (.sm l0)) 1 (fun s => AM.runF tb N s fun v h _ => boxT (res r) l1 v h) = true)
    (hr1 : ∀ r, r < 16 → AM.enterK tb f [.p 0 0, .xi 0 6 r 16] false [] (AM.setO AM.h0 0 (.sm l1)) 1 (fun s => AM.runF tb N s fun v h _ => boxT (res r) l1 v h) = true) :
    FnTr P f fn (boxF (l0.map svA) (l1.map svA) res) where
  body := hb
  name := hn
  calls := by
    intro vs objs R hcan hF w Z G args hargs hst
    unfold boxF at hF
    split at hF
    · rename_i i off u j cells
      obtain ⟨⟨rfl, rfl, hcells⟩, hR⟩ := hF
      obtain ⟨la, hla, hla1, hrun⟩ : ∃ la : List AM.AV, cells = la.map svA ∧ la.all isI = true ∧ ∀ r, r < 16 → AM.enterK tb f [.p 0 0, .xi 0 6 r 16] false [] (AM.setO AM.h0 0 (.sm la)) 1 (fun s => AM.runF tb N s fun v h _ => boxT (res r) l1 v h) = true := by
        rcases hcells with rfl | rfl
        · exact ⟨l0, rfl, h0, hr0⟩
        · exact ⟨l1, rfl, h1, hr1⟩
      subst hla
      obtain ⟨pv, t1, rfl, hp, uv, t2, rfl, hu, ht2⟩ := hargs
      have ht2 : t2 = [] := ht2
      subst ht2
      obtain ⟨b, hG, rfl⟩ := hp
      obtain ⟨hu1, hu2, hu3⟩ := hu
      have hg1 : getO [(i, Obj.box (la.map svA))] i = some (.box (la.map svA)) := by simp [getO]
      have only : ∀ (cs : List SV) (k : Nat) (o : Obj), getO [(i, Obj.box cs)] k = some o → k = i ∧ o = .box cs := by
        intro cs k o h
        rw [getO_cons] at h
        split at h
        · rename_i e; cases h; exact ⟨e.symm, rfl⟩
        · cases h
      obtain ⟨b', ty, c, hG', hheap, hc⟩ := hst.obj i _ hg1
      rw [hG] at hG'
      cases hG'
      have hu2 : (0 : Int) ≤ u.int := hu2
      have hu3 : u.int ≤ 4294967295 := hu3
      have hlt : b < w.heap.size := (Array.getElem?_eq_some_iff.1 hheap).1
      let θ : AM.Th := { has := fun o => o = 0, blk := fun _ => b, bas := fun _ => 0, siz := fun _ => 0, esz := fun _ => 0, ini := fun x => x = b, ext := fun _ => .int .u32 (u.int.toNat : Int), ext1 := fun _ => rfl }
      have hcl : c.toList = AM.toVs θ la := svA_rep (θ := θ) hla1 hc
      have hHR : AM.HR P w [] θ (AM.setO AM.h0 0 (.sm la)) 1 w := {
        lim := by omega
        own := fun o ho => by
          have ho : o = 0 := ho
          subst ho
          exact ⟨by omega, .inr rfl, hlt, .sm la, AM.obj_set _ _ _, ⟨ty, by rw [hheap, ← hcl], rfl, isI_ok hla1, isI_one hla1⟩, fun x hx => by cases hx⟩
        apart := fun o o' a a' hne ho ho' => absurd (ho.trans ho'.symm) hne
        size := Nat.le_refl _
        kept := fun _ _ _ => rfl
        plain := ⟨rfl, rfl, rfl⟩
        pend := fun o a h => by cases h
        nodup := List.nodup_nil
        fresh := fun o a ho h => by
          by_cases e : o = 0
          · omega
          · rw [AM.obj_set_ne _ _ (by omega) ho e] at h
            have : AM.obj AM.h0 o = none := AM.getL_repL _ 5 o
            rw [this] at h; cases h }
      have hv : AM.Oks θ [.p 0 0, .xi 0 6 (u.int.toNat % 16) 16] := ⟨rfl, AM.xi_ok (by decide) u.int.toNat rfl rfl (by omega), trivial⟩
      have hgo := AM.go_with ht hm hHR hv (hrun _ (Nat.mod_lt _ (by decide)))
      have hargs : AM.toVs θ [.p 0 0, .xi 0 6 (u.int.toNat % 16) 16] = [.pointer (some ⟨b, 0, none⟩), uv] := by
        rw [hu1]
        show [Value.pointer (some ⟨b, 0 + 0, none⟩), AM.xiV (.int .u32 (u.int.toNat : Int)) 6] = _
        rw [show u.int = (u.int.toNat : Int) by omega]
        rfl
      rw [hargs] at hgo
      refine hgo.mono fun e w' ⟨v, h, nx, θ', u', he, hv', hR', hk, hle⟩ => ?_
      obtain ⟨hvv, hob⟩ : v = .i 6 (res (u.int.toNat % 16)) ∧ AM.obj h 0 = some (.sm l1) := by
        unfold boxT at hk
        split at hk
        · rename_i m
          rw [Bool.and_eq_true] at hk
          obtain ⟨hk1, hk2⟩ := hk
          have hm1 : m = res (u.int.toNat % 16) := by simpa using hk1
          obtain ⟨a, ha, hk3⟩ := AM.get_true hk2
          cases a <;> first | (cases hk3; done) | skip
          rename_i l'
          have := AM.beqVs_eq _ _ hk3
          subst this hm1
          exact ⟨rfl, ha⟩
        · cases hk
      subst hvv
      obtain ⟨_, _, _, a, ha, hor, _⟩ := hR'.own 0 (hle.has 0 rfl)
      rw [hob] at ha
      injection ha with ha
      subst ha
      obtain ⟨ty', hheap', _, _, _⟩ := hor
      rw [hle.blk 0 rfl] at hheap'
      have hheap' : w'.heap[b]? = some (.cells (AM.toVs θ' l1).toArray ty' (0, 0)) := hheap'
      have hin := hres _ (Nat.mod_lt u.int.toNat (by decide : 0 < 16))
      unfold inK at hin
      simp only [Bool.and_eq_true, decide_eq_true_eq] at hin
      have hblk : Blocks G [(i, Obj.box (la.map svA))] b := ⟨i, _, hg1, by rw [hG]; rfl⟩
      refine ⟨.ret [.val (.int .u32) (.i (res (u.int.toNat % 16)))], [(i, .box (l1.map svA))], Z, G, hR, ⟨u', he, hv'.i, hin.1, hin.2⟩, ?_⟩
      exact {
        stand := {
          lt := fun k hk => Nat.lt_of_lt_of_le (hst.lt k hk) hR'.size
          flat := hst.flat
          obj := fun k o ho => by
            obtain ⟨rfl, rfl⟩ := only _ _ _ ho
            exact ⟨b, ty', _, hG, hheap', by simpa using rep_svA (w := w') (Z := Z) (G := G) (θ := θ') h1⟩
          sep := fun k k' o o' c' h1 h2 _ _ => by rw [(only _ _ _ h1).1, (only _ _ _ h2).1]
          free := fun k o c' h1 h2 => by
            obtain ⟨rfl, rfl⟩ := only _ _ _ h1
            exact hst.free k _ c' hg1 h2 }
        fut := ⟨hR'.plain.1, hR'.plain.2.1, hR'.plain.2.2, hR'.size, fun k hk hnb => hR'.kept k hk (by rw [hle.ini]; exact fun e => hnb (by rw [show k = b from e]; exact hblk))⟩
        sub := fun _ h => h
        new := fun _ h => .inl h
        row := fun _ h => .inl h
        own := fun k o c' h1 h2 => by
          obtain ⟨rfl, rfl⟩ := only _ _ _ h1
          rw [hG] at h2
          have h2 : some b = some c' := h2
          injection h2 with h2
          subst h2
          exact .inl hblk
        keep := fun _ _ _ _ => rfl }
    · exact hF.elim
end Go.Den

namespace Go.AM
open Go
set_option maxHeartbeats 0
set_option maxRecDepth 1000000
theorem awrun : goF W15T 100000 9 [] (fun v _ _ => match v with | .b c => c | _ => false) = true := by kernel_rfl
noncomputable def wd0 : List AV := [(.i 6 (.ofNat 0)), (.i 2 (.ofNat 0)), (.i 6 (.ofNat 0)), (.i 6 (.ofNat 0)), (.i 6 (.ofNat 0)), (.i 6 (.ofNat 0)), (.i 6 (.ofNat 0)), (.i 6 (.ofNat 0)), (.i 6 (.ofNat 0)), (.i 6 (.ofNat 0)), (.i 6 (.ofNat 0)), (.i 6 (.ofNat 0)), (.i 6 (.ofNat 0)), (.i 6 (.ofNat 0)), (.i 6 (.ofNat 0)), (.i 6 (.ofNat 0)), (.i 6 (.ofNat 0)), (.i 6 (.ofNat 0)), (.i 6 (.ofNat 0))]
noncomputable def wd1 : List AV := [(.i 6 (.ofNat 1)), (.i 2 (.ofNat 0)), (.i 6 (.ofNat 0)), (.i 6 (.ofNat 0)), (.i 6 (.ofNat 274646895)), (.i 6 (.ofNat 549293790)), (.i 6 (.ofNat 820201905)), (.i 6 (.ofNat 1098587580)), (.i 6 (.ofNat 1361435347)), (.i 6 (.ofNat 1640403810)), (.i 6 (.ofNat 1905808397)), (.i 6 (.ofNat 2197175160)), (.i 6 (.ofNat 2460548119)), (.i 6 (.ofNat 2722870694)), (.i 6 (.ofNat 2987750089)), (.i 6 (.ofNat 3280807620)), (.i 6 (.ofNat 3553878443)), (.i 6 (.ofNat 3811616794)), (.i 6 (.ofNat 4084100981))]
def wdTab : List Int := [0, 274646895, 549293790, 820201905, 1098587580, 1361435347, 1640403810, 1905808397, 2197175160, 2460548119, 2722870694, 2987750089, 3280807620, 3553878443, 3811616794, 4084100981]
def wdRes (r : Nat) : Int := Den.nth 0 wdTab r
theorem wdr0_0 : enterK W15T 68 [.p 0 0, .xi 0 6 0 16] false [] (setO h0 0 (.sm wd0)) 1 (fun s => runF W15T 20000 s fun v h _ => Den.boxT (wdRes 0) wd1 v h) = true := by kernel_rfl
theorem wdr0_1 : enterK W15T 68 [.p 0 0, .xi 0 6 1 16] false [] (setO h0 0 (.sm wd0)) 1 (fun s => runF W15T 20000 s fun v h _ => Den.boxT (wdRes 1) wd1 v h) = true := by kernel_rfl
theorem wdr0_2 : enterK W15T 68 [.p 0 0, .xi 0 6 2 16] false [] (setO h0 0 (.sm wd0)) 1 (fun s => runF W15T 20000 s fun v h _ => Den.boxT (wdRes 2) wd1 v h) = true := by kernel_rfl
theorem wdr0_3 : enterK W15T 68 [.p 0 0, .xi 0 6 3 16] false [] (setO h0 0 (.sm wd0)) 1 (fun s => runF W15T 20000 s fun v h _ => Den.boxT (wdRes 3) wd1 v h) = true := by kernel_rfl
theorem wdr0_4 : enterK W15T 68 [.p 0 0, .xi 0 6 4 16] false [] (setO h0 0 (.sm wd0)) 1 (fun s => runF W15T 20000 s fun v h _ => Den.boxT (wdRes 4) wd1 v h) = true := by kernel_rfl
theorem wdr0_5 : enterK W15T 68 [.p 0 0, .xi 0 6 5 16] false [] (setO h0 0 (.sm wd0)) 1 (fun s => runF W15T 20000 s fun v h _ => Den.boxT (wdRes 5) wd1 v h) = true := by kernel_rfl
theorem wdr0_6 : enterK W15T 68 [.p 0 0, .xi 0 6 6 16] false [] (setO h0 0 (.sm wd0)) 1 (fun s => runF W15T 20000 s fun v h _ => Den.boxT (wdRes 6) wd1 v h) = true := by kernel_rfl
theorem wdr0_7 : enterK W15T 68 [.p 0 0, .xi 0 6 7 16] false [] (setO h0 0 (.sm wd0)) 1 (fun s => runF W15T 20000 s fun v h _ => Den.boxT (wdRes 7) wd1 v h) = true := by kernel_rfl
theorem wdr0_8 : enterK W15T 68 [.p 0 0, .xi 0 6 8 16] false [] (setO h0 0 (.sm wd0)) 1 (fun s => runF W15T 20000 s fun v h _ => Den.boxT (wdRes 8) wd1 v h) = true := by kernel_rfl
theorem wdr0_9 : enterK W15T 68 [.p 0 0, .xi 0 6 9 16] false [] (setO h0 0 (.sm wd0)) 1 (fun s => runF W15T 20000 s fun v h _ => Den.boxT (wdRes 9) wd1 v h) = true := by kernel_rfl
theorem wdr0_10 : enterK W15T 68 [.p 0 0, .xi 0 6 10 16] false [] (setO h0 0 (.sm wd0)) 1 (fun s => runF W15T 20000 s fun v h _ => Den.boxT (wdRes 10) wd1 v h) = true := by kernel_rfl
theorem wdr0_11 : enterK W15T 68 [.p 0 0, .xi 0 6 11 16] false [] (setO h0 0 (.sm wd0)) 1 (fun s => runF W15T 20000 s fun v h _ => Den.boxT (wdRes 11) wd1 v h) = true := by kernel_rfl
theorem wdr0_12 : enterK W15T 68 [.p 0 0, .xi 0 6 12 16] false [] (setO h0 0 (.sm wd0)) 1 (fun s => runF W15T 20000 s fun v h _ => Den.boxT (wdRes 12) wd1 v h) = true := by kernel_rfl
theorem wdr0_13 : enterK W15T 68 [.p 0 0, .xi 0 6 13 16] false [] (setO h0 0 (.sm wd0)) 1 (fun s => runF W15T 20000 s fun v h _ => Den.boxT (wdRes 13) wd1 v h) = true := by kernel_rfl
theorem wdr0_14 : enterK W15T 68 [.p 0 0, .xi 0 6 14 16] false [] (setO h0 0 (.sm wd0)) 1 (fun s => runF W15T 20000 s fun v h _ => Den.boxT (wdRes 14) wd1 v h) = true := by kernel_rfl
theorem wdr0_15 : enterK W15T 68 [.p 0 0, .xi 0 6 15 16] false [] (setO h0 0 (.sm wd0)) 1 (fun s => runF W15T 20000 s fun v h _ => Den.boxT (wdRes 15) wd1 v h) = true := by kernel_rfl
theorem wdr1_0 : enterK W15T 68 [.p 0 0, .xi 0 6 0 16] false [] (setO h0 0 (.sm wd1)) 1 (fun s => runF W15T 20000 s fun v h _ => Den.boxT (wdRes 0) wd1 v h) = true := by kernel_rfl
theorem wdr1_1 : enterK W15T 68 [.p 0 0, .xi 0 6 1 16] false [] (setO h0 0 (.sm wd1)) 1 (fun s => runF W15T 20000 s fun v h _ => Den.boxT (wdRes 1) wd1 v h) = true := by kernel_rfl
theorem wdr1_2 : enterK W15T 68 [.p 0 0, .xi 0 6 2 16] false [] (setO h0 0 (.sm wd1)) 1 (fun s => runF W15T 20000 s fun v h _ => Den.boxT (wdRes 2) wd1 v h) = true := by kernel_rfl
theorem wdr1_3 : enterK W15T 68 [.p 0 0, .xi 0 6 3 16] false [] (setO h0 0 (.sm wd1)) 1 (fun s => runF W15T 20000 s fun v h _ => Den.boxT (wdRes 3) wd1 v h) = true := by kernel_rfl
theorem wdr1_4 : enterK W15T 68 [.p 0 0, .xi 0 6 4 16] false [] (setO h0 0 (.sm wd1)) 1 (fun s => runF W15T 20000 s fun v h _ => Den.boxT (wdRes 4) wd1 v h) = true := by kernel_rfl
theorem wdr1_5 : enterK W15T 68 [.p 0 0, .xi 0 6 5 16] false [] (setO h0 0 (.sm wd1)) 1 (fun s => runF W15T 20000 s fun v h _ => Den.boxT (wdRes 5) wd1 v h) = true := by kernel_rfl
theorem wdr1_6 : enterK W15T 68 [.p 0 0, .xi 0 6 6 16] false [] (setO h0 0 (.sm wd1)) 1 (fun s => runF W15T 20000 s fun v h _ => Den.boxT (wdRes 6) wd1 v h) = true := by kernel_rfl
theorem wdr1_7 : enterK W15T 68 [.p 0 0, .xi 0 6 7 16] false [] (setO h0 0 (.sm wd1)) 1 (fun s => runF W15T 20000 s fun v h _ => Den.boxT (wdRes 7) wd1 v h) = true := by kernel_rfl
theorem wdr1_8 : enterK W15T 68 [.p 0 0, .xi 0 6 8 16] false [] (setO h0 0 (.sm wd1)) 1 (fun s => runF W15T 20000 s fun v h _ => Den.boxT (wdRes 8) wd1 v h) = true := by kernel_rfl
theorem wdr1_9 : enterK W15T 68 [.p 0 0, .xi 0 6 9 16] false [] (setO h0 0 (.sm wd1)) 1 (fun s => runF W15T 20000 s fun v h _ => Den.boxT (wdRes 9) wd1 v h) = true := by kernel_rfl
theorem wdr1_10 : enterK W15T 68 [.p 0 0, .xi 0 6 10 16] false [] (setO h0 0 (.sm wd1)) 1 (fun s => runF W15T 20000 s fun v h _ => Den.boxT (wdRes 10) wd1 v h) = true := by kernel_rfl
theorem wdr1_11 : enterK W15T 68 [.p 0 0, .xi 0 6 11 16] false [] (setO h0 0 (.sm wd1)) 1 (fun s => runF W15T 20000 s fun v h _ => Den.boxT (wdRes 11) wd1 v h) = true := by kernel_rfl
theorem wdr1_12 : enterK W15T 68 [.p 0 0, .xi 0 6 12 16] false [] (setO h0 0 (.sm wd1)) 1 (fun s => runF W15T 20000 s fun v h _ => Den.boxT (wdRes 12) wd1 v h) = true := by kernel_rfl
theorem wdr1_13 : enterK W15T 68 [.p 0 0, .xi 0 6 13 16] false [] (setO h0 0 (.sm wd1)) 1 (fun s => runF W15T 20000 s fun v h _ => Den.boxT (wdRes 13) wd1 v h) = true := by kernel_rfl
theorem wdr1_14 : enterK W15T 68 [.p 0 0, .xi 0 6 14 16] false [] (setO h0 0 (.sm wd1)) 1 (fun s => runF W15T 20000 s fun v h _ => Den.boxT (wdRes 14) wd1 v h) = true := by kernel_rfl
theorem wdr1_15 : enterK W15T 68 [.p 0 0, .xi 0 6 15 16] false [] (setO h0 0 (.sm wd1)) 1 (fun s => runF W15T 20000 s fun v h _ => Den.boxT (wdRes 15) wd1 v h) = true := by kernel_rfl
theorem wdr0 : ∀ r, r < 16 → enterK W15T 68 [.p 0 0, .xi 0 6 r 16] false [] (setO h0 0 (.sm wd0)) 1 (fun s => runF W15T 20000 s fun v h _ => Den.boxT (wdRes r) wd1 v h) = true
  | 0, _ => wdr0_0
  | 1, _ => wdr0_1
  | 2, _ => wdr0_2
  | 3, _ => wdr0_3
  | 4, _ => wdr0_4
  | 5, _ => wdr0_5
  | 6, _ => wdr0_6
  | 7, _ => wdr0_7
  | 8, _ => wdr0_8
  | 9, _ => wdr0_9
  | 10, _ => wdr0_10
  | 11, _ => wdr0_11
  | 12, _ => wdr0_12
  | 13, _ => wdr0_13
  | 14, _ => wdr0_14
  | 15, _ => wdr0_15
  | n + 16, h => absurd h (by omega)
theorem wdr1 : ∀ r, r < 16 → enterK W15T 68 [.p 0 0, .xi 0 6 r 16] false [] (setO h0 0 (.sm wd1)) 1 (fun s => runF W15T 20000 s fun v h _ => Den.boxT (wdRes r) wd1 v h) = true
  | 0, _ => wdr1_0
  | 1, _ => wdr1_1
  | 2, _ => wdr1_2
  | 3, _ => wdr1_3
  | 4, _ => wdr1_4
  | 5, _ => wdr1_5
  | 6, _ => wdr1_6
  | 7, _ => wdr1_7
  | 8, _ => wdr1_8
  | 9, _ => wdr1_9
  | 10, _ => wdr1_10
  | 11, _ => wdr1_11
  | 12, _ => wdr1_12
  | 13, _ => wdr1_13
  | 14, _ => wdr1_14
  | 15, _ => wdr1_15
  | n + 16, h => absurd h (by omega)
end Go.AM

namespace Go.Mat
open Go Go.Den
theorem i64_in {x : Int} (h : -9223372036854775808 ≤ x) (h' : x ≤ 9223372036854775807) : IntKind.wrap .i64 x = x := by
  simp only [IntKind.wrap, IntKind.bits, IntKind.signed]; simp; split <;> omega
end Go.Mat

namespace Go.Mat
open Go Go.Den
abbrev e1 (s : U) : U := nth (.i 0) s.list 1
abbrev e2 (s : U) : U := nth (.i 0) s.list 2
abbrev e3 (s : U) : U := nth (.i 0) s.list 3
abbrev e4 (s : U) : U := nth (.i 0) s.list 4
def placeR (st ct : Int) : Bool := decide (2 ≤ st) && decide (st ≤ 65536) && decide (0 ≤ ct) && decide (ct ≤ 65536 - st)
def mayR (k st ct sz sm c : Int) : Bool :=
  if c < 0 ∨ 6 < c then false
  else if k = 0 ∨ k = 1 then decide (st = 0 ∧ ct = 0 ∧ sz = 0 ∧ sm = 0)
  else if k = 2 then decide (ct = 2 ^ c.toNat ∧ sz = 0) && placeR st ct
  else if k = 3 then decide (1 ≤ ct ∧ ct < 2 ^ c.toNat ∧ 1 ≤ sz ∧ (ct - 1) * 16 < sz ∧ sz ≤ ct * 16) && placeR st ct
  else false
theorem drop_at : ∀ {L : List U} {i : Nat}, i < L.length → L.drop i = U.at L i :: L.drop (i + 1)
  | _ :: _, 0, _ => rfl
  | _ :: L, i + 1, h => drop_at (L := L) (i := i) (by simpa using h)
theorem shl_one {c : Int} (h : 0 ≤ c) (h' : c ≤ 6) : IntKind.wrap .i64 (1 * 2 ^ min c.toNat (IntKind.bits .i64)) = 2 ^ c.toNat := by
  have : c = 0 ∨ c = 1 ∨ c = 2 ∨ c = 3 ∨ c = 4 ∨ c = 5 ∨ c = 6 := by omega
  rcases this with rfl | rfl | rfl | rfl | rfl | rfl | rfl <;> rfl
theorem pow_le {c : Int} (h : 0 ≤ c) (h' : c ≤ 6) : (1 : Int) ≤ 2 ^ c.toNat ∧ (2 : Int) ^ c.toNat ≤ 64 := by
  have : c = 0 ∨ c = 1 ∨ c = 2 ∨ c = 3 ∨ c = 4 ∨ c = 5 ∨ c = 6 := by omega
  rcases this with rfl | rfl | rfl | rfl | rfl | rfl | rfl <;> decide
end Go.Mat

namespace Go.Mat
open Go Go.Den Go.Proofs
noncomputable abbrev PR : Program := Try.prog
noncomputable def eqs0 (t : TypeId) : Option (List IntKind) := bif Nat.beq t 24 then some [.i64, .i64, .i64, .i64, .u32] else none
abbrev vi (n : U) : SV := .val (.int .i64) n
abbrev vb (n : U) : SV := .val .bool n
abbrev vs (n : U) : SV := .val .str n
abbrev vl (c : Ct) (n : U) : SV := .val (.sl false [c]) n
abbrev vt (cs : List Ct) (n : U) : SV := .val (.sl true cs) n
abbrev u8T : TypeId := 5
end Go.Mat

namespace Go.Mat
open Go Go.Den Go.Proofs
noncomputable abbrev K0 : Ctx := mkC PR eqs0 fnsNil trsNil noLoops noOut noOut
def placeS : List (List U) → List (List U) := fun us => [[.b (placeR (nth (.i 0) (nth [] us 0) 1).int (nth (.i 0) (nth [] us 0) 2).int)]]
def mayS : List (List U) → List (List U) := fun us => [[.b (mayR (nth (.i 0) (nth [] us 0) 0).int (nth (.i 0) (nth [] us 0) 1).int (nth (.i 0) (nth [] us 0) 2).int (nth (.i 0) (nth [] us 0) 3).int (nth (.i 0) (nth [] us 0) 4).int (nth (.i 0) (nth [] us 1) 0).int)]]
noncomputable def mayC : Ctx := mkC PR eqs0 (fnsCons 49 placeS fnsNil) trsNil noLoops noOut noOut
theorem place_tree (R : RF) (a b c d e : U) : (run K0 Try.f49 [[a, b, c, d, e]] R) = (bif decide (U.int b ≥ (2 : Int)) then bif decide (U.int b ≤ (65536 : Int)) then bif decide (U.int c ≥ (0 : Int)) then R [[U.b (decide (U.int c ≤ IntKind.wrap IntKind.i64 ((65536 : Int) - U.int b)))]] else
  R [[U.b false]] else R [[U.b false]] else R [[U.b false]]) := by kernel_rfl
theorem may_tree (R : RF) (a b c d e k : U) : (run mayC Try.f23 [[a, b, c, d, e], [k]] R) = (bif decide (k.int < (0:Int)) then R [[U.b false]] else bif decide (k.int > (6:Int)) then R [[U.b false]] else bif decide (k.int < (0:Int)) then False else bif a.int == (0:Int) then R [[U.b (a.int == a.int && (b.int == (0:Int) && (c.int == (0:Int) && (d.int == (0:Int) && (e.int == (0:Int) && true)))))]] else bif a.int == (1:Int) then R [[U.b (a.int == a.int && (b.int == (0:Int) && (c.int == (0:Int) && (d.int == (0:Int) && (e.int == (0:Int) && true)))))]] else bif a.int == (2:Int) then bif c.int == IntKind.wrap .i64 ((1:Int) * (2:Int) ^ min (Int.toNat k.int) (IntKind.bits IntKind.i64)) then bif d.int == (0:Int) then R [[U.b (placeR b.int c.int)]] else R [[U.b false]] else R [[U.b false]] else bif a.int == (3:Int) then bif decide (c.int ≥ (1:Int)) then bif decide (c.int < IntKind.wrap .i64 ((1:Int) * (2:Int) ^ min (Int.toNat k.int) (IntKind.bits IntKind.i64))) then bif decide (d.int ≥ (1:Int)) then bif decide (d.int > IntKind.wrap .i64 (IntKind.wrap .i64 (c.int - (1:Int)) * (16:Int))) then bif decide (d.int ≤ IntKind.wrap .i64 (c.int * (16:Int))) then R [[U.b (placeR b.int c.int)]] else R [[U.b false]] else R [[U.b false]] else R [[U.b false]] else R [[U.b false]] else R [[U.b false]] else R [[U.b false]]) := by kernel_rfl
end Go.Mat

namespace Go.Mat
open Go Go.Den Go.Proofs
theorem eqs0_ok : ∀ t ks, eqs0 t = some ks → EqOk PR t ks := by
  intro t ks h
  unfold eqs0 at h
  cases hb : Nat.beq t 24 with
  | true =>
    rw [hb] at h
    have := Nat.eq_of_beq_eq_true hb
    subst this
    injection h with h
    subst h
    exact eq_ok (by kernel_rfl)
  | false => rw [hb] at h; cases h
theorem mixed_ok : PR.follows .mixedOrders = true := by kernel_rfl
end Go.Mat

namespace Go.Mat
open Go Go.Den Go.Proofs
theorem ubi {x y : Bool} (h : x = true ↔ y = true) : ([[U.b x]] : List (List U)) = [[.b y]] := by rw [Bool.eq_iff_iff.2 h]
theorem place_ok : SpecF PR 49 placeS := fun fn us hfn => by
  have hf : PR.funcs[(49 : Nat)]? = some Try.f49 := by kernel_rfl
  rw [hf] at hfn; cases hfn
  refine fn_okH (C := K0) (mkC_ok eqs0_ok mixed_ok .nil .nil) hf (by kernel_rfl) (loops_none (by kernel_rfl)) fun hok => ?_
  have hp : Try.f49.params.toList = [24] := by kernel_rfl
  rw [hp] at hok
  obtain ⟨a, b, c, d, e, hus⟩ : ∃ a b c d e, us = [[a, b, c, d, e]] := by
    obtain ⟨u, rfl, h1⟩ := shape1 (by kernel_rfl : Cs PR 24 = some (true, [.int .i64, .int .i64, .int .i64, .int .i64, .int .u32])) hok.1
    obtain ⟨a, b, c, d, e, rfl⟩ := len5 h1
    exact ⟨a, b, c, d, e, rfl⟩
  subst hus
  refine .eq (place_tree _ _ _ _ _ _) ?_
  unfold placeS
  simp only [nth_zero, nth_succ]
  have hw : 2 ≤ b.int → b.int ≤ 65536 → IntKind.wrap .i64 (65536 - b.int) = 65536 - b.int := fun h h' => i64_in (by omega) (by omega)
  repeat' (first | refine bd (fun _ => ?_) (fun _ => ?_) | refine bi (fun _ => ?_) (fun _ => ?_))
  all_goals (first | (rw [hw (by omega) (by omega)]; refine ubi ?_; simp [placeR]; omega) | (refine ubi ?_; simp [placeR]; omega))
theorem may_ok : SpecF PR 23 mayS := fun fn us hfn => by
  have hf : PR.funcs[(23 : Nat)]? = some Try.f23 := by kernel_rfl
  rw [hf] at hfn; cases hfn
  refine fn_okH (C := mayC) (mkC_ok eqs0_ok mixed_ok (.cons place_ok .nil) .nil) hf (by kernel_rfl) (loops_none (by kernel_rfl)) fun hok => ?_
  have hp : Try.f23.params.toList = [24, 3] := by kernel_rfl
  rw [hp] at hok
  obtain ⟨a, b, c, d, e, k, hus⟩ : ∃ a b c d e k, us = [[a, b, c, d, e], [k]] := by
    obtain ⟨u, u2, rfl, h1, h2⟩ := shape2 (by kernel_rfl : Cs PR 24 = some (true, [.int .i64, .int .i64, .int .i64, .int .i64, .int .u32])) (by kernel_rfl : Cs PR 3 = some (false, [.int .i64])) hok.1
    obtain ⟨a, b, c, d, e, rfl⟩ := len5 h1
    obtain ⟨k, rfl⟩ := len1 h2
    exact ⟨a, b, c, d, e, k, rfl⟩
  subst hus
  refine .eq (may_tree _ _ _ _ _ _ _) ?_
  unfold mayS
  simp only [nth_zero, nth_succ]
  by_cases hk0 : k.int < 0
  · exact dt hk0 (by simp [mayR, hk0])
  refine df hk0 ?_
  by_cases hk6 : k.int > 6
  · exact dt hk6 (by simp [mayR, show 6 < k.int from hk6])
  refine df hk6 (df hk0 ?_)
  have hs := shl_one (c := k.int) (by omega) (by omega)
  have hp := pow_le (c := k.int) (by omega) (by omega)
  rw [hs]
  have hc : ¬ (k.int < 0 ∨ 6 < k.int) := by omega
  rw [mayR, if_neg hc]
  generalize (2 : Int) ^ k.int.toNat = p at hp hs ⊢
  by_cases ha0 : a.int = 0
  · refine bt (by simp [ha0]) ?_
    refine ubi ?_; simp [ha0]
  refine bf (by simp [ha0]) ?_
  by_cases ha1 : a.int = 1
  · refine bt (by simp [ha1]) ?_
    refine ubi ?_; simp [ha1]
  refine bf (by simp [ha1]) ?_
  rw [if_neg (by omega)]
  by_cases ha2 : a.int = 2
  · refine bt (by simp [ha2]) ?_
    rw [if_pos ha2]
    refine bi (fun h => bi (fun h' => ?_) (fun h' => ?_)) (fun h => ?_)
    all_goals (simp at h; simp_all)
  refine bf (by simp [ha2]) ?_
  rw [if_neg ha2]
  by_cases ha3 : a.int = 3
  · refine bt (by simp [ha3]) ?_
    rw [if_pos ha3]
    by_cases h1 : c.int ≥ 1
    · refine dt h1 ?_
      by_cases h2 : c.int < p
      · refine dt h2 ?_
        rw [i64_in (x := c.int - 1) (by omega) (by omega), i64_in (x := (c.int - 1) * 16) (by omega) (by omega), i64_in (x := c.int * 16) (by omega) (by omega)]
        refine bd (fun h3 => bd (fun h4 => bd (fun h5 => ?_) (fun h5 => ?_)) (fun h4 => ?_)) (fun h3 => ?_)
        · have : decide (1 ≤ c.int ∧ c.int < p ∧ 1 ≤ d.int ∧ (c.int - 1) * 16 < d.int ∧ d.int ≤ c.int * 16) = true := by simp; omega
          rw [this]; rfl
        all_goals
          have : decide (1 ≤ c.int ∧ c.int < p ∧ 1 ≤ d.int ∧ (c.int - 1) * 16 < d.int ∧ d.int ≤ c.int * 16) = false := by simp; omega
          rw [this]; rfl
      · refine df h2 ?_
        simp [h2]
    · refine df h1 ?_
      simp [show ¬ 1 ≤ c.int from h1]
  refine bf (by simp [ha3]) ?_
  simp [ha3]
end Go.Mat

namespace Go.Mat
def crcP : BitVec 32 := 0x82f63b78#32
def crcStep (c : BitVec 32) : BitVec 32 := if c.getLsbD 0 then (c >>> 1) ^^^ crcP else c >>> 1
theorem crcStep_xor (x y : BitVec 32) : crcStep (x ^^^ y) = crcStep x ^^^ crcStep y := by
  unfold crcStep
  rw [BitVec.getLsbD_xor, BitVec.ushiftRight_xor_distrib]
  cases x.getLsbD 0 <;> cases y.getLsbD 0 <;> simp
  · rw [BitVec.xor_assoc]
  · rw [BitVec.xor_assoc (x >>> 1) crcP, BitVec.xor_comm crcP, BitVec.xor_assoc]
  · rw [BitVec.xor_assoc, BitVec.xor_comm crcP, BitVec.xor_assoc (y >>> 1), BitVec.xor_self, BitVec.xor_zero]
def crc4 (c : BitVec 32) : BitVec 32 := crcStep (crcStep (crcStep (crcStep c)))
theorem crc4_xor (x y : BitVec 32) : crc4 (x ^^^ y) = crc4 x ^^^ crc4 y := by
  unfold crc4
  simp only [crcStep_xor]
theorem crc15 : ∀ i, i < 32 → (15#32).getLsbD i = decide (i < 4) := by decide
theorem crc_split (c : BitVec 32) : c = (c &&& 15#32) ^^^ ((c >>> 4) <<< 4) := by
  refine BitVec.eq_of_getLsbD_eq fun i hi => ?_
  rw [BitVec.getLsbD_xor, BitVec.getLsbD_and, crc15 i hi, BitVec.getLsbD_shiftLeft, BitVec.getLsbD_ushiftRight]
  by_cases h : i < 4
  · simp [h, hi]
  · simp [h, hi, show 4 + (i - 4) = i by omega]
theorem crcStep_even {c : BitVec 32} (h : c.getLsbD 0 = false) : crcStep c = c >>> 1 := by
  unfold crcStep
  rw [h]
  rfl
theorem crc4_high (z : BitVec 32) : crc4 (z <<< 4) = (z <<< 4) >>> 4 := by
  unfold crc4
  rw [crcStep_even (c := z <<< 4) (by simp), crcStep_even (c := (z <<< 4) >>> 1) (by simp), crcStep_even (c := ((z <<< 4) >>> 1) >>> 1) (by simp), crcStep_even (c := (((z <<< 4) >>> 1) >>> 1) >>> 1) (by simp)]
  simp only [← BitVec.shiftRight_add]
theorem crc4_tab (c : BitVec 32) : crc4 c = crc4 (c &&& 15#32) ^^^ (c >>> 4) := by
  conv => lhs; rw [crc_split c, crc4_xor, crc4_high]
  congr 1
  refine BitVec.eq_of_getLsbD_eq fun i hi => ?_
  rw [BitVec.getLsbD_ushiftRight, BitVec.getLsbD_shiftLeft, BitVec.getLsbD_ushiftRight, BitVec.getLsbD_ushiftRight]
  simp
  intro h
  refine Decidable.byContradiction fun hn => ?_
  rw [BitVec.getLsbD_of_ge _ _ (by omega)] at h
  cases h
end Go.Mat

namespace Go.Mat
open Go Go.Den
theorem u32_bv (c : BitVec 32) : IntKind.wrap .u32 (c.toNat : Int) = (c.toNat : Int) := by
  have := c.isLt
  simp only [IntKind.wrap, IntKind.bits, IntKind.signed]
  simp
  omega
theorem bv_of {h : Int} (h0 : 0 ≤ h) (h1 : h < 4294967296) : ((BitVec.ofInt 32 h).toNat : Int) = h := by
  rw [BitVec.toNat_ofInt]
  have : h % ((2 ^ 32 : Nat) : Int) = h := Int.emod_eq_of_lt h0 (by simpa using h1)
  rw [this]
  omega
theorem bv_shr {h : Int} (h0 : 0 ≤ h) (h1 : h < 4294967296) (n : Nat) : Int.fdiv h (2 ^ n) = ((BitVec.ofInt 32 h >>> n).toNat : Int) := by
  rw [BitVec.toNat_ushiftRight, Nat.shiftRight_eq_div_pow, Int.fdiv_eq_ediv_of_nonneg _ (Int.pow_nonneg (by decide)), Int.natCast_ediv, bv_of h0 h1]
  norm_cast
theorem bv_low (c : BitVec 32) : ((((c &&& BitVec.ofInt 32 1).toNat : Nat) : Int) == 1) = c.getLsbD 0 := by
  have : (c &&& BitVec.ofInt 32 1).toNat = if c.getLsbD 0 then 1 else 0 := by
    rw [BitVec.toNat_and, show (BitVec.ofInt 32 1).toNat = 1 from rfl, Nat.and_one_is_mod]
    simp only [BitVec.getLsbD, Nat.testBit_zero]
    rcases Nat.mod_two_eq_zero_or_one c.toNat with e | e <;> simp [e]
  rw [this]
  cases c.getLsbD 0 <;> rfl
def stepI (h : Int) : Int := ((crcStep (BitVec.ofInt 32 h)).toNat : Int)
theorem stepI_in (h : Int) : 0 ≤ stepI h ∧ stepI h < 4294967296 := by
  have := (crcStep (BitVec.ofInt 32 h)).isLt
  unfold stepI
  omega
theorem stepI_odd {h : Int} (h0 : 0 ≤ h) (h1 : h < 4294967296) (hl : (BitVec.ofInt 32 h).getLsbD 0 = true) :
    IntKind.wrap .u32 ((BitVec.ofInt 32 (Int.fdiv h (2 ^ 1)) ^^^ BitVec.ofInt 32 2197175160).toNat : Int) = stepI h := by
  rw [u32_bv, bv_shr h0 h1]
  unfold stepI crcStep
  rw [hl, if_pos rfl]
  congr 2
  rw [BitVec.ofInt_natCast, BitVec.ofNat_toNat, BitVec.setWidth_eq]
  rfl
theorem stepI_even {h : Int} (h0 : 0 ≤ h) (h1 : h < 4294967296) (hl : (BitVec.ofInt 32 h).getLsbD 0 = false) : Int.fdiv h (2 ^ 1) = stepI h := by
  rw [bv_shr h0 h1]
  unfold stepI crcStep
  rw [hl]
  rfl
end Go.Mat

namespace Go.Mat
open Go Go.Den Go.Proofs
abbrev vw (n : U) : SV := .val (.int .u32) n
def stepsI : Nat → Int → Int
  | 0, h => h
  | n + 1, h => stepsI n (stepI h)
def byteI (h x : Int) : Int := stepsI 8 (IntKind.wrap .u32 (BitVec.toNat (BitVec.ofInt 32 h ^^^ BitVec.ofInt 32 (IntKind.wrap .u32 x)) : Int))
def bytesI (h : Int) : List U → Int
  | [] => h
  | x :: r => bytesI (byteI h x.int) r
noncomputable def rmoreLoop2 : LoopF := fun _ svs os k => match svs, os with
  | [.val (.int .i64) j, .val (.int .u32) h, .val (.int .i64) i, .val (.sl false [.int .u8]) b], [] => (h = .i h.int ∧ 0 ≤ j.int ∧ j.int ≤ 8 ∧ 0 ≤ h.int ∧ h.int < 4294967296) ∧ k (.exit 2) ⟨[(5, vw (.i (stepsI (8 - j.int).toNat h.int))), (6, vi i), (1, vl (.int .u8) b)], []⟩
  | _, _ => False
noncomputable def rmoreLoop0 : LoopF := fun _ svs os k => match svs, os with
  | [.val (.int .i64) i, .val (.int .u32) h, .val (.sl false [.int .u8]) b], [] => (h = .i h.int ∧ 0 ≤ i.int ∧ i.int ≤ b.list.length ∧ 0 ≤ h.int ∧ h.int < 4294967296) ∧ k (.exit 0) ⟨[(5, vw (.i (bytesI h.int (b.list.drop i.int.toNat))))], []⟩
  | _, _ => False
noncomputable def rmoreC : Ctx := mkC PR eqs0 fnsNil trsNil (loopCons 2 [7, 5, 6, 1] [] rmoreLoop2 (loopCons 0 [6, 5, 1] [] rmoreLoop0 noLoops)) (outCons 2 [5, 6, 1] [] (outCons 0 [5] [] noOut)) noOut
theorem rmore_round2 (pan : KP) (μ : Mu) (N : Nat) (k : KE) (j h i b : U) : (exec (rmoreC.panics pan) (loopBody Try.f46 1) 2 ⟨[(7, vi j), (5, vw h), (6, vi i), (1, vl (.int .u8) b)], []⟩ (again PR (some ([5, 6, 1], [])) none pan [7, 5, 6, 1] [] rmoreLoop2 μ N k)) = (bif decide (j.int < 8) then bif IntKind.wrap .u32 (↑(BitVec.toNat (BitVec.ofInt (IntKind.bits IntKind.u32) h.int &&& BitVec.ofInt (IntKind.bits IntKind.u32) 1)):Int) == 1 then bif Nat.blt (μ [vi (U.i (IntKind.wrap .i64 (j.int + 1))),.val (.int .u32) (U.i (IntKind.wrap .u32 (↑(BitVec.toNat (BitVec.ofInt (IntKind.bits IntKind.u32) (Int.fdiv h.int ((2:Int) ^ min (Int.toNat 1) (IntKind.bits IntKind.u32))) ^^^ BitVec.ofInt (IntKind.bits IntKind.u32) 2197175160)):Int))),vi i,.val (.sl false [.int .u8]) b] []) N then (U.i (IntKind.wrap .u32 (↑(BitVec.toNat (BitVec.ofInt (IntKind.bits IntKind.u32) (Int.fdiv h.int ((2:Int) ^ min (Int.toNat 1) (IntKind.bits IntKind.u32))) ^^^ BitVec.ofInt (IntKind.bits IntKind.u32) 2197175160)):Int)) = U.i (IntKind.wrap .u32 (↑(BitVec.toNat (BitVec.ofInt (IntKind.bits IntKind.u32) (Int.fdiv h.int ((2:Int) ^ min (Int.toNat 1) (IntKind.bits IntKind.u32))) ^^^ BitVec.ofInt (IntKind.bits IntKind.u32) 2197175160)):Int)) ∧ (0:Int) ≤ IntKind.wrap .i64 (j.int + 1) ∧ IntKind.wrap .i64 (j.int + 1) ≤ 8 ∧ (0:Int) ≤ IntKind.wrap .u32 (↑(BitVec.toNat (BitVec.ofInt (IntKind.bits IntKind.u32) (Int.fdiv h.int ((2:Int) ^ min (Int.toNat 1) (IntKind.bits IntKind.u32))) ^^^ BitVec.ofInt (IntKind.bits IntKind.u32) 2197175160)):Int) ∧ IntKind.wrap .u32 (↑(BitVec.toNat (BitVec.ofInt (IntKind.bits IntKind.u32) (Int.fdiv h.int ((2:Int) ^ min (Int.toNat 1) (IntKind.bits IntKind.u32))) ^^^ BitVec.ofInt (IntKind.bits IntKind.u32) 2197175160)):Int) < 4294967296) ∧ k (Ex.exit 2) (St.mk [(5,.val (.int .u32) (U.i (stepsI (Int.toNat ((8:Int) - IntKind.wrap .i64 (j.int + 1))) (IntKind.wrap .u32 (↑(BitVec.toNat (BitVec.ofInt (IntKind.bits IntKind.u32) (Int.fdiv h.int ((2:Int) ^ min (Int.toNat 1) (IntKind.bits IntKind.u32))) ^^^ BitVec.ofInt (IntKind.bits IntKind.u32) 2197175160)):Int))))),(6,vi i),(1,.val (.sl false [.int .u8]) b)] []) else False else bif Nat.blt (μ [vi (U.i (IntKind.wrap .i64 (j.int + 1))),.val (.int .u32) (U.i (Int.fdiv h.int ((2:Int) ^ min (Int.toNat 1) (IntKind.bits IntKind.u32)))),vi i,.val (.sl false [.int .u8]) b] []) N then (U.i (Int.fdiv h.int ((2:Int) ^ min (Int.toNat 1) (IntKind.bits IntKind.u32))) = U.i (Int.fdiv h.int ((2:Int) ^ min (Int.toNat 1) (IntKind.bits IntKind.u32))) ∧ (0:Int) ≤ IntKind.wrap .i64 (j.int + 1) ∧ IntKind.wrap .i64 (j.int + 1) ≤ 8 ∧ (0:Int) ≤ Int.fdiv h.int ((2:Int) ^ min (Int.toNat 1) (IntKind.bits IntKind.u32)) ∧ Int.fdiv h.int ((2:Int) ^ min (Int.toNat 1) (IntKind.bits IntKind.u32)) < 4294967296) ∧ k (Ex.exit 2) (St.mk [(5,.val (.int .u32) (U.i (stepsI (Int.toNat ((8:Int) - IntKind.wrap .i64 (j.int + 1))) (Int.fdiv h.int ((2:Int) ^ min (Int.toNat 1) (IntKind.bits IntKind.u32)))))),(6,vi i),(1,.val (.sl false [.int .u8]) b)] []) else False else k (Ex.exit 2) (St.mk [(5,.val (.int .u32) h),(6,vi i),(1,.val (.sl false [.int .u8]) b)] [])) := by kernel_rfl
theorem rmore_round0 (pan : KP) (μ : Mu) (N : Nat) (k : KE) (i h b : U) : (exec (rmoreC.panics pan) (loopBody Try.f46 0) 0 ⟨[(6, vi i), (5, vw h), (1, vl (.int .u8) b)], []⟩ (again PR (some ([5], [])) none pan [6, 5, 1] [] rmoreLoop0 μ N k)) = (bif decide (i.int < (b.list.length:Int)) then bif decide ((0:Int) ≤ i.int ∧ i.int < (b.list.length:Int)) then (U.i (IntKind.wrap .u32 (↑(BitVec.toNat (BitVec.ofInt (IntKind.bits IntKind.u32) h.int ^^^ BitVec.ofInt (IntKind.bits IntKind.u32) (IntKind.wrap .u32 (U.int (nth (U.i 0) b.list (Int.toNat i.int)))))):Int)) = U.i (IntKind.wrap .u32 (↑(BitVec.toNat (BitVec.ofInt (IntKind.bits IntKind.u32) h.int ^^^ BitVec.ofInt (IntKind.bits IntKind.u32) (IntKind.wrap .u32 (U.int (nth (U.i 0) b.list (Int.toNat i.int)))))):Int)) ∧ (0:Int) ≤ 0 ∧ (0:Int) ≤ 8 ∧ (0:Int) ≤ IntKind.wrap .u32 (↑(BitVec.toNat (BitVec.ofInt (IntKind.bits IntKind.u32) h.int ^^^ BitVec.ofInt (IntKind.bits IntKind.u32) (IntKind.wrap .u32 (U.int (nth (U.i 0) b.list (Int.toNat i.int)))))):Int) ∧ IntKind.wrap .u32 (↑(BitVec.toNat (BitVec.ofInt (IntKind.bits IntKind.u32) h.int ^^^ BitVec.ofInt (IntKind.bits IntKind.u32) (IntKind.wrap .u32 (U.int (nth (U.i 0) b.list (Int.toNat i.int)))))):Int) < 4294967296) ∧ bif Nat.blt (μ [vi (U.i (IntKind.wrap .i64 (i.int + 1))),.val (.int .u32) (U.i (stepsI (Int.toNat ((8:Int) - 0)) (IntKind.wrap .u32 (↑(BitVec.toNat (BitVec.ofInt (IntKind.bits IntKind.u32) h.int ^^^ BitVec.ofInt (IntKind.bits IntKind.u32) (IntKind.wrap .u32 (U.int (nth (U.i 0) b.list (Int.toNat i.int)))))):Int)))),.val (.sl false [.int .u8]) b] []) N then (U.i (stepsI (Int.toNat ((8:Int) - 0)) (IntKind.wrap .u32 (↑(BitVec.toNat (BitVec.ofInt (IntKind.bits IntKind.u32) h.int ^^^ BitVec.ofInt (IntKind.bits IntKind.u32) (IntKind.wrap .u32 (U.int (nth (U.i 0) b.list (Int.toNat i.int)))))):Int))) = U.i (stepsI (Int.toNat ((8:Int) - 0)) (IntKind.wrap .u32 (↑(BitVec.toNat (BitVec.ofInt (IntKind.bits IntKind.u32) h.int ^^^ BitVec.ofInt (IntKind.bits IntKind.u32) (IntKind.wrap .u32 (U.int (nth (U.i 0) b.list (Int.toNat i.int)))))):Int))) ∧ (0:Int) ≤ IntKind.wrap .i64 (i.int + 1) ∧ IntKind.wrap .i64 (i.int + 1) ≤ (b.list.length:Int) ∧ (0:Int) ≤ stepsI (Int.toNat ((8:Int) - 0)) (IntKind.wrap .u32 (↑(BitVec.toNat (BitVec.ofInt (IntKind.bits IntKind.u32) h.int ^^^ BitVec.ofInt (IntKind.bits IntKind.u32) (IntKind.wrap .u32 (U.int (nth (U.i 0) b.list (Int.toNat i.int)))))):Int)) ∧ stepsI (Int.toNat ((8:Int) - 0)) (IntKind.wrap .u32 (↑(BitVec.toNat (BitVec.ofInt (IntKind.bits IntKind.u32) h.int ^^^ BitVec.ofInt (IntKind.bits IntKind.u32) (IntKind.wrap .u32 (U.int (nth (U.i 0) b.list (Int.toNat i.int)))))):Int)) < 4294967296) ∧ k (Ex.exit 0) (St.mk [(5,.val (.int .u32) (U.i (bytesI (stepsI (Int.toNat ((8:Int) - 0)) (IntKind.wrap .u32 (↑(BitVec.toNat (BitVec.ofInt (IntKind.bits IntKind.u32) h.int ^^^ BitVec.ofInt (IntKind.bits IntKind.u32) (IntKind.wrap .u32 (U.int (nth (U.i 0) b.list (Int.toNat i.int)))))):Int))) (List.drop (Int.toNat (IntKind.wrap .i64 (i.int + 1))) b.list))))] []) else False else False else k (Ex.exit 0) (St.mk [(5,.val (.int .u32) h)] [])) := by kernel_rfl
theorem rmore_tree (R : RF) (s b : U) : (run rmoreC Try.f46 [[s], [b]] R) = ((U.i (compl IntKind.u32 s.int) = U.i (compl IntKind.u32 s.int) ∧ (0 : Int) ≤ 0 ∧ (0 : Int) ≤ (↑(List.length b.list) : Int) ∧ (0 : Int) ≤ compl IntKind.u32 s.int ∧ compl IntKind.u32 s.int < 4294967296)
  ∧ R [[U.i (compl IntKind.u32 (bytesI (compl IntKind.u32 s.int) (List.drop (Int.toNat 0) b.list)))]]) := by kernel_rfl
def sumI (s : Int) (b : List U) : Int := compl .u32 (bytesI (compl .u32 s) b)
def moreS : List (List U) → List (List U) := fun us => [[.i (sumI (nth (.i 0) (nth [] us 0) 0).int (nth (.i 0) (nth [] us 1) 0).list)]]
def sumS : List (List U) → List (List U) := fun us => [[.i (sumI 0 (nth (.i 0) (nth [] us 0) 0).list)]]
noncomputable def rsumC : Ctx := mkC PR eqs0 (fnsCons 46 moreS fnsNil) trsNil noLoops noOut noOut
theorem rsum_tree (R : RF) (b : U) : (run rsumC Try.f19 [[b]] R) = (R [[U.i (sumI 0 b.list)]]) := by kernel_rfl
end Go.Mat

namespace Go.Mat
open Go Go.Den Go.Proofs
set_option maxRecDepth 100000
theorem stepsI_in : ∀ (n : Nat) {h : Int}, 0 ≤ h ∧ h < 4294967296 → 0 ≤ stepsI n h ∧ stepsI n h < 4294967296
  | 0, _, hh => hh
  | n + 1, h, _ => stepsI_in n (stepI_in h)
theorem w32_in (x : Int) : 0 ≤ IntKind.wrap .u32 x ∧ IntKind.wrap .u32 x < 4294967296 := by
  simp only [IntKind.wrap, IntKind.bits, IntKind.signed]
  simp
  omega
theorem rmore_loop2 : LoopOk rmoreC 2 (loopBody Try.f46 1) := by
  refine loopOk_of (F := rmoreLoop2) (ts := [7, 5, 6, 1]) (os := []) rfl (fun svs _ => match svs with | .val _ j :: _ => (8 - j.int).toNat | _ => 0) ?_
  intro pan svs os k ho1 ho2 h
  unfold rmoreLoop2 at h
  split at h
  · rename_i j hh i b
    obtain ⟨⟨hh', h0, h8, hh0, hh1⟩, hk⟩ := h
    refine .eq (rmore_round2 pan _ _ k j hh i b) ?_
    refine bd (fun hlt => ?_) (fun hlt => ?_)
    · have hw : IntKind.wrap .i64 (j.int + 1) = j.int + 1 := i64_in (by omega) (by omega)
      rw [show (8 - j.int).toNat = (8 - (j.int + 1)).toNat + 1 by omega, stepsI] at hk
      have hm : (8 - (j.int + 1)).toNat < (8 - j.int).toNat := by omega
      have hs := stepI_in hh.int
      refine bi (fun hc => ?_) (fun hc => ?_)
      · have hl : (BitVec.ofInt 32 hh.int).getLsbD 0 = true := by rw [← bv_low, ← u32_bv]; exact hc
        have e := stepI_odd hh0 hh1 hl
        rw [hw]
        exact blt hm ⟨⟨by trivial, by omega, by omega, by rw [← e] at hs; exact hs.1, by rw [← e] at hs; exact hs.2⟩, by rw [← e] at hk; exact hk⟩
      · have hl : (BitVec.ofInt 32 hh.int).getLsbD 0 = false := by rw [← bv_low, ← u32_bv]; exact hc
        have e := stepI_even hh0 hh1 hl
        rw [hw]
        exact blt hm ⟨⟨by trivial, by omega, by omega, by rw [← e] at hs; exact hs.1, by rw [← e] at hs; exact hs.2⟩, by rw [← e] at hk; exact hk⟩
    · rw [show (8 - j.int).toNat = 0 by omega, stepsI, ← hh'] at hk
      exact hk
  · exact h.elim
theorem compl_in (x : Int) : 0 ≤ compl .u32 x ∧ compl .u32 x < 4294967296 := w32_in _
theorem byteI_in (h x : Int) : 0 ≤ byteI h x ∧ byteI h x < 4294967296 := stepsI_in 8 (w32_in _)
theorem rmore_loop0 : LoopOk rmoreC 0 (loopBody Try.f46 0) := by
  refine loopOk_of (F := rmoreLoop0) (ts := [6, 5, 1]) (os := []) rfl (fun svs _ => match svs with | .val _ i :: _ :: .val _ b :: _ => ((b.list.length : Int) - i.int).toNat | _ => 0) ?_
  intro pan svs os k ho1 ho2 h
  unfold rmoreLoop0 at h
  split at h
  · rename_i i hh b
    obtain ⟨⟨hh', h0, hi, hh0, hh1⟩, hk⟩ := h
    refine .eq (rmore_round0 pan _ _ k i hh b) ?_
    refine bd (fun hlt => dt ⟨h0, hlt⟩ ?_) (fun hlt => ?_)
    · have hb : b.list.length ≤ maxLen := ho1.2.2.1.1
      have hw : IntKind.wrap .i64 (i.int + 1) = i.int + 1 := i64_in (by omega) (by unfold maxLen at hb; omega)
      have hc : (i.int + 1).toNat = i.int.toNat + 1 := by omega
      rw [drop_at (by omega), bytesI] at hk
      have hy := byteI_in hh.int (U.at b.list i.int.toNat).int
      refine ⟨⟨by trivial, by omega, by omega, (w32_in _).1, (w32_in _).2⟩, ?_⟩
      rw [hw, hc]
      exact blt (by simp only [U.int_i]; omega) ⟨⟨by trivial, by omega, by omega, hy.1, hy.2⟩, hk⟩
    · rw [List.drop_of_length_le (by omega), bytesI, ← hh'] at hk
      exact hk
  · exact h.elim
theorem more_args {us : List (List U)} (h : shapeOk PR [22, 25] us) : ∃ s b, us = [[s], [b]] := by
  obtain ⟨u, u2, rfl, h1, h2⟩ := shape2 (by kernel_rfl : Cs PR 22 = some (false, [.int .u32])) (by kernel_rfl : Cs PR 25 = some (false, [.sl false [.int .u8]])) h
  obtain ⟨a, rfl⟩ := len1 h1
  obtain ⟨b, rfl⟩ := len1 h2
  exact ⟨a, b, rfl⟩
theorem bytes_args {us : List (List U)} (h : shapeOk PR [25] us) : ∃ b, us = [[b]] := by
  obtain ⟨u, rfl, h1⟩ := shape1 (by kernel_rfl : Cs PR 25 = some (false, [.sl false [.int .u8]])) h
  obtain ⟨a, rfl⟩ := len1 h1
  exact ⟨a, rfl⟩
theorem rmore_ok : SpecF PR 46 moreS := fun fn us hfn => by
  have hf : PR.funcs[(46 : Nat)]? = some Try.f46 := by kernel_rfl
  rw [hf] at hfn; cases hfn
  refine fn_okH (C := rmoreC) (mkC_ok eqs0_ok mixed_ok .nil .nil) hf (by kernel_rfl) (loops_two (by kernel_rfl) rmore_loop0 rmore_loop2) fun hok => ?_
  have hp : Try.f46.params.toList = [22, 25] := by kernel_rfl
  rw [hp] at hok
  obtain ⟨s, b, hus⟩ := more_args hok.1
  subst hus
  refine .eq (rmore_tree _ s b) ?_
  exact ⟨⟨by trivial, by omega, by omega, (compl_in _).1, (compl_in _).2⟩, rfl⟩
theorem rsum_ok : SpecF PR 19 sumS := fun fn us hfn => by
  have hf : PR.funcs[(19 : Nat)]? = some Try.f19 := by kernel_rfl
  rw [hf] at hfn; cases hfn
  refine fn_okH (C := rsumC) (mkC_ok eqs0_ok mixed_ok (.cons rmore_ok .nil) .nil) hf (by kernel_rfl) (loops_none (by kernel_rfl)) fun hok => ?_
  have hp : Try.f19.params.toList = [25] := by kernel_rfl
  rw [hp] at hok
  obtain ⟨b, hus⟩ := bytes_args hok.1
  subst hus
  exact .eq (rsum_tree _ b) rfl
end Go.Mat

namespace Go.Mat
open Go Go.Den Go.Proofs
def wdL0 : List SV := [vw (.i 0), .val (.int .i32) (.i 0), vw (.i 0), vw (.i 0), vw (.i 0), vw (.i 0), vw (.i 0), vw (.i 0), vw (.i 0), vw (.i 0), vw (.i 0), vw (.i 0), vw (.i 0), vw (.i 0), vw (.i 0), vw (.i 0), vw (.i 0), vw (.i 0), vw (.i 0)]
def wdL1 : List SV := [vw (.i 1), .val (.int .i32) (.i 0), vw (.i 0), vw (.i 0), vw (.i 274646895), vw (.i 549293790), vw (.i 820201905), vw (.i 1098587580), vw (.i 1361435347), vw (.i 1640403810), vw (.i 1905808397), vw (.i 2197175160), vw (.i 2460548119), vw (.i 2722870694), vw (.i 2987750089), vw (.i 3280807620), vw (.i 3553878443), vw (.i 3811616794), vw (.i 4084100981)]
def sameI : SV → SV → Bool
  | .val (.int k) (.i n), .val (.int j) (.i m) => IntKind.same k j && decide (n = m)
  | _, _ => false
def sameL : List SV → List SV → Bool
  | [], [] => true
  | a :: r, b :: s => sameI a b && sameL r s
  | _, _ => false
def wdB (l : List SV) : Bool := sameL l wdL0 || sameL l wdL1
noncomputable def wordF : Tr := fun vs objs R => match vs, objs with
  | [.ptr i off, .val (.int .u32) u], [(j, .box cells)] => (i = j ∧ off = 0) ∧ bif wdB cells then R (.ret [vw (.i (AM.wdRes (u.int.toNat % 16)))]) [(j, .box wdL1)] else False
  | _, _ => False
noncomputable def moreLoop : LoopF := fun _ svs os k => match svs, os with
  | [.val (.int .i64) i, .val (.int .i64) n, .val (.sl false [.int .u8]) b, .val (.int .u32) c, .ptr p o], [.box cells] =>
    (p = 640 ∧ o = 0 ∧ n = .i b.list.length ∧ c = .i c.int ∧ 0 ≤ i.int ∧ i.int ≤ b.list.length ∧ 0 ≤ c.int ∧ c.int < 4294967296) ∧ bif wdB cells then k (.exit 0) ⟨[(6, vw (.i (bytesI c.int (b.list.drop i.int.toNat))))], []⟩ else False
  | _, _ => False
noncomputable def moreC : Ctx := mkC PR eqs0 fnsNil (trsCons 68 [] wordF trsNil) (loopCons 0 [13, 12, 11, 6, 5] [640] moreLoop noLoops) (outCons 0 [6] [] noOut) noOut
theorem more_round0 (pan : KP) (μ : Mu) (N : Nat) (k : KE) (i b c : U) : (exec (moreC.panics pan) (loopBody Try.f52 0) 0 ⟨[(13, vi i), (12, vi (.i b.list.length)), (11, vl (.int .u8) b), (6, vw c), (5, .ptr 640 0)], [(640, .box wdL0)]⟩ (again PR (some ([6], [])) none pan [13, 12, 11, 6, 5] [640] moreLoop μ N k)) = (bif decide (i.int < (b.list.length:Int)) then bif decide ((0:Int) ≤ i.int ∧ i.int < (b.list.length:Int)) then (2097153 = nat_lit 2097153 ∧ nat_lit 0 = nat_lit 0) ∧ (2097153 = nat_lit 2097153 ∧ nat_lit 0 = nat_lit 0) ∧ bif Nat.blt (μ [vi (U.i (IntKind.wrap .i64 (i.int + 1))),vi (U.i (b.list.length:Int)),.val (.sl false [.int .u8]) b,.val (.int .u32) (U.i (IntKind.wrap .u32 (↑(BitVec.toNat (BitVec.ofInt (IntKind.bits IntKind.u32) (AM.wdRes (Int.toNat (IntKind.wrap .u32 (↑(BitVec.toNat (BitVec.ofInt (IntKind.bits IntKind.u32) (AM.wdRes (Int.toNat (IntKind.wrap .u32 (↑(BitVec.toNat (BitVec.ofInt (IntKind.bits IntKind.u32) c.int ^^^ BitVec.ofInt (IntKind.bits IntKind.u32) (IntKind.wrap .u32 (U.int (nth (U.i 0) b.list (Int.toNat i.int)))))):Int)) % (16:Nat))) ^^^ BitVec.ofInt (IntKind.bits IntKind.u32) (Int.fdiv (IntKind.wrap .u32 (↑(BitVec.toNat (BitVec.ofInt (IntKind.bits IntKind.u32) c.int ^^^ BitVec.ofInt (IntKind.bits IntKind.u32) (IntKind.wrap .u32 (U.int (nth (U.i 0) b.list (Int.toNat i.int)))))):Int)) ((2:Int) ^ min (Int.toNat 4) (IntKind.bits IntKind.u32))))):Int)) % (16:Nat))) ^^^ BitVec.ofInt (IntKind.bits IntKind.u32) (Int.fdiv (IntKind.wrap .u32 (↑(BitVec.toNat (BitVec.ofInt (IntKind.bits IntKind.u32) (AM.wdRes (Int.toNat (IntKind.wrap .u32 (↑(BitVec.toNat (BitVec.ofInt (IntKind.bits IntKind.u32) c.int ^^^ BitVec.ofInt (IntKind.bits IntKind.u32) (IntKind.wrap .u32 (U.int (nth (U.i 0) b.list (Int.toNat i.int)))))):Int)) % (16:Nat))) ^^^ BitVec.ofInt (IntKind.bits IntKind.u32) (Int.fdiv (IntKind.wrap .u32 (↑(BitVec.toNat (BitVec.ofInt (IntKind.bits IntKind.u32) c.int ^^^ BitVec.ofInt (IntKind.bits IntKind.u32) (IntKind.wrap .u32 (U.int (nth (U.i 0) b.list (Int.toNat i.int)))))):Int)) ((2:Int) ^ min (Int.toNat 4) (IntKind.bits IntKind.u32))))):Int)) ((2:Int) ^ min (Int.toNat 4) (IntKind.bits IntKind.u32))))):Int))),.ptr 640 0] [.box [.val (.int .u32) (U.i 1),.val (.int .i32) (U.i 0),.val (.int .u32) (U.i 0),.val (.int .u32) (U.i 0),.val (.int .u32) (U.i 274646895),.val (.int .u32) (U.i 549293790),.val (.int .u32) (U.i 820201905),.val (.int .u32) (U.i 1098587580),.val (.int .u32) (U.i 1361435347),.val (.int .u32) (U.i 1640403810),.val (.int .u32) (U.i 1905808397),.val (.int .u32) (U.i 2197175160),.val (.int .u32) (U.i 2460548119),.val (.int .u32) (U.i 2722870694),.val (.int .u32) (U.i 2987750089),.val (.int .u32) (U.i 3280807620),.val (.int .u32) (U.i 3553878443),.val (.int .u32) (U.i 3811616794),.val (.int .u32) (U.i 4084100981)]]) N then (640 = nat_lit 640 ∧ nat_lit 0 = nat_lit 0 ∧ U.i (b.list.length:Int) = U.i (b.list.length:Int) ∧ U.i (IntKind.wrap .u32 (↑(BitVec.toNat (BitVec.ofInt (IntKind.bits IntKind.u32) (AM.wdRes (Int.toNat (IntKind.wrap .u32 (↑(BitVec.toNat (BitVec.ofInt (IntKind.bits IntKind.u32) (AM.wdRes (Int.toNat (IntKind.wrap .u32 (↑(BitVec.toNat (BitVec.ofInt (IntKind.bits IntKind.u32) c.int ^^^ BitVec.ofInt (IntKind.bits IntKind.u32) (IntKind.wrap .u32 (U.int (nth (U.i 0) b.list (Int.toNat i.int)))))):Int)) % (16:Nat))) ^^^ BitVec.ofInt (IntKind.bits IntKind.u32) (Int.fdiv (IntKind.wrap .u32 (↑(BitVec.toNat (BitVec.ofInt (IntKind.bits IntKind.u32) c.int ^^^ BitVec.ofInt (IntKind.bits IntKind.u32) (IntKind.wrap .u32 (U.int (nth (U.i 0) b.list (Int.toNat i.int)))))):Int)) ((2:Int) ^ min (Int.toNat 4) (IntKind.bits IntKind.u32))))):Int)) % (16:Nat))) ^^^ BitVec.ofInt (IntKind.bits IntKind.u32) (Int.fdiv (IntKind.wrap .u32 (↑(BitVec.toNat (BitVec.ofInt (IntKind.bits IntKind.u32) (AM.wdRes (Int.toNat (IntKind.wrap .u32 (↑(BitVec.toNat (BitVec.ofInt (IntKind.bits IntKind.u32) c.int ^^^ BitVec.ofInt (IntKind.bits IntKind.u32) (IntKind.wrap .u32 (U.int (nth (U.i 0) b.list (Int.toNat i.int)))))):Int)) % (16:Nat))) ^^^ BitVec.ofInt (IntKind.bits IntKind.u32) (Int.fdiv (IntKind.wrap .u32 (↑(BitVec.toNat (BitVec.ofInt (IntKind.bits IntKind.u32) c.int ^^^ BitVec.ofInt (IntKind.bits IntKind.u32) (IntKind.wrap .u32 (U.int (nth (U.i 0) b.list (Int.toNat i.int)))))):Int)) ((2:Int) ^ min (Int.toNat 4) (IntKind.bits IntKind.u32))))):Int)) ((2:Int) ^ min (Int.toNat 4) (IntKind.bits IntKind.u32))))):Int)) = U.i (IntKind.wrap .u32 (↑(BitVec.toNat (BitVec.ofInt (IntKind.bits IntKind.u32) (AM.wdRes (Int.toNat (IntKind.wrap .u32 (↑(BitVec.toNat (BitVec.ofInt (IntKind.bits IntKind.u32) (AM.wdRes (Int.toNat (IntKind.wrap .u32 (↑(BitVec.toNat (BitVec.ofInt (IntKind.bits IntKind.u32) c.int ^^^ BitVec.ofInt (IntKind.bits IntKind.u32) (IntKind.wrap .u32 (U.int (nth (U.i 0) b.list (Int.toNat i.int)))))):Int)) % (16:Nat))) ^^^ BitVec.ofInt (IntKind.bits IntKind.u32) (Int.fdiv (IntKind.wrap .u32 (↑(BitVec.toNat (BitVec.ofInt (IntKind.bits IntKind.u32) c.int ^^^ BitVec.ofInt (IntKind.bits IntKind.u32) (IntKind.wrap .u32 (U.int (nth (U.i 0) b.list (Int.toNat i.int)))))):Int)) ((2:Int) ^ min (Int.toNat 4) (IntKind.bits IntKind.u32))))):Int)) % (16:Nat))) ^^^ BitVec.ofInt (IntKind.bits IntKind.u32) (Int.fdiv (IntKind.wrap .u32 (↑(BitVec.toNat (BitVec.ofInt (IntKind.bits IntKind.u32) (AM.wdRes (Int.toNat (IntKind.wrap .u32 (↑(BitVec.toNat (BitVec.ofInt (IntKind.bits IntKind.u32) c.int ^^^ BitVec.ofInt (IntKind.bits IntKind.u32) (IntKind.wrap .u32 (U.int (nth (U.i 0) b.list (Int.toNat i.int)))))):Int)) % (16:Nat))) ^^^ BitVec.ofInt (IntKind.bits IntKind.u32) (Int.fdiv (IntKind.wrap .u32 (↑(BitVec.toNat (BitVec.ofInt (IntKind.bits IntKind.u32) c.int ^^^ BitVec.ofInt (IntKind.bits IntKind.u32) (IntKind.wrap .u32 (U.int (nth (U.i 0) b.list (Int.toNat i.int)))))):Int)) ((2:Int) ^ min (Int.toNat 4) (IntKind.bits IntKind.u32))))):Int)) ((2:Int) ^ min (Int.toNat 4) (IntKind.bits IntKind.u32))))):Int)) ∧ (0:Int) ≤ IntKind.wrap .i64 (i.int + 1) ∧ IntKind.wrap .i64 (i.int + 1) ≤ (b.list.length:Int) ∧ (0:Int) ≤ IntKind.wrap .u32 (↑(BitVec.toNat (BitVec.ofInt (IntKind.bits IntKind.u32) (AM.wdRes (Int.toNat (IntKind.wrap .u32 (↑(BitVec.toNat (BitVec.ofInt (IntKind.bits IntKind.u32) (AM.wdRes (Int.toNat (IntKind.wrap .u32 (↑(BitVec.toNat (BitVec.ofInt (IntKind.bits IntKind.u32) c.int ^^^ BitVec.ofInt (IntKind.bits IntKind.u32) (IntKind.wrap .u32 (U.int (nth (U.i 0) b.list (Int.toNat i.int)))))):Int)) % (16:Nat))) ^^^ BitVec.ofInt (IntKind.bits IntKind.u32) (Int.fdiv (IntKind.wrap .u32 (↑(BitVec.toNat (BitVec.ofInt (IntKind.bits IntKind.u32) c.int ^^^ BitVec.ofInt (IntKind.bits IntKind.u32) (IntKind.wrap .u32 (U.int (nth (U.i 0) b.list (Int.toNat i.int)))))):Int)) ((2:Int) ^ min (Int.toNat 4) (IntKind.bits IntKind.u32))))):Int)) % (16:Nat))) ^^^ BitVec.ofInt (IntKind.bits IntKind.u32) (Int.fdiv (IntKind.wrap .u32 (↑(BitVec.toNat (BitVec.ofInt (IntKind.bits IntKind.u32) (AM.wdRes (Int.toNat (IntKind.wrap .u32 (↑(BitVec.toNat (BitVec.ofInt (IntKind.bits IntKind.u32) c.int ^^^ BitVec.ofInt (IntKind.bits IntKind.u32) (IntKind.wrap .u32 (U.int (nth (U.i 0) b.list (Int.toNat i.int)))))):Int)) % (16:Nat))) ^^^ BitVec.ofInt (IntKind.bits IntKind.u32) (Int.fdiv (IntKind.wrap .u32 (↑(BitVec.toNat (BitVec.ofInt (IntKind.bits IntKind.u32) c.int ^^^ BitVec.ofInt (IntKind.bits IntKind.u32) (IntKind.wrap .u32 (U.int (nth (U.i 0) b.list (Int.toNat i.int)))))):Int)) ((2:Int) ^ min (Int.toNat 4) (IntKind.bits IntKind.u32))))):Int)) ((2:Int) ^ min (Int.toNat 4) (IntKind.bits IntKind.u32))))):Int) ∧ IntKind.wrap .u32 (↑(BitVec.toNat (BitVec.ofInt (IntKind.bits IntKind.u32) (AM.wdRes (Int.toNat (IntKind.wrap .u32 (↑(BitVec.toNat (BitVec.ofInt (IntKind.bits IntKind.u32) (AM.wdRes (Int.toNat (IntKind.wrap .u32 (↑(BitVec.toNat (BitVec.ofInt (IntKind.bits IntKind.u32) c.int ^^^ BitVec.ofInt (IntKind.bits IntKind.u32) (IntKind.wrap .u32 (U.int (nth (U.i 0) b.list (Int.toNat i.int)))))):Int)) % (16:Nat))) ^^^ BitVec.ofInt (IntKind.bits IntKind.u32) (Int.fdiv (IntKind.wrap .u32 (↑(BitVec.toNat (BitVec.ofInt (IntKind.bits IntKind.u32) c.int ^^^ BitVec.ofInt (IntKind.bits IntKind.u32) (IntKind.wrap .u32 (U.int (nth (U.i 0) b.list (Int.toNat i.int)))))):Int)) ((2:Int) ^ min (Int.toNat 4) (IntKind.bits IntKind.u32))))):Int)) % (16:Nat))) ^^^ BitVec.ofInt (IntKind.bits IntKind.u32) (Int.fdiv (IntKind.wrap .u32 (↑(BitVec.toNat (BitVec.ofInt (IntKind.bits IntKind.u32) (AM.wdRes (Int.toNat (IntKind.wrap .u32 (↑(BitVec.toNat (BitVec.ofInt (IntKind.bits IntKind.u32) c.int ^^^ BitVec.ofInt (IntKind.bits IntKind.u32) (IntKind.wrap .u32 (U.int (nth (U.i 0) b.list (Int.toNat i.int)))))):Int)) % (16:Nat))) ^^^ BitVec.ofInt (IntKind.bits IntKind.u32) (Int.fdiv (IntKind.wrap .u32 (↑(BitVec.toNat (BitVec.ofInt (IntKind.bits IntKind.u32) c.int ^^^ BitVec.ofInt (IntKind.bits IntKind.u32) (IntKind.wrap .u32 (U.int (nth (U.i 0) b.list (Int.toNat i.int)))))):Int)) ((2:Int) ^ min (Int.toNat 4) (IntKind.bits IntKind.u32))))):Int)) ((2:Int) ^ min (Int.toNat 4) (IntKind.bits IntKind.u32))))):Int) < 4294967296) ∧ k (Ex.exit 0) (St.mk [(6,.val (.int .u32) (U.i (bytesI (IntKind.wrap .u32 (↑(BitVec.toNat (BitVec.ofInt (IntKind.bits IntKind.u32) (AM.wdRes (Int.toNat (IntKind.wrap .u32 (↑(BitVec.toNat (BitVec.ofInt (IntKind.bits IntKind.u32) (AM.wdRes (Int.toNat (IntKind.wrap .u32 (↑(BitVec.toNat (BitVec.ofInt (IntKind.bits IntKind.u32) c.int ^^^ BitVec.ofInt (IntKind.bits IntKind.u32) (IntKind.wrap .u32 (U.int (nth (U.i 0) b.list (Int.toNat i.int)))))):Int)) % (16:Nat))) ^^^ BitVec.ofInt (IntKind.bits IntKind.u32) (Int.fdiv (IntKind.wrap .u32 (↑(BitVec.toNat (BitVec.ofInt (IntKind.bits IntKind.u32) c.int ^^^ BitVec.ofInt (IntKind.bits IntKind.u32) (IntKind.wrap .u32 (U.int (nth (U.i 0) b.list (Int.toNat i.int)))))):Int)) ((2:Int) ^ min (Int.toNat 4) (IntKind.bits IntKind.u32))))):Int)) % (16:Nat))) ^^^ BitVec.ofInt (IntKind.bits IntKind.u32) (Int.fdiv (IntKind.wrap .u32 (↑(BitVec.toNat (BitVec.ofInt (IntKind.bits IntKind.u32) (AM.wdRes (Int.toNat (IntKind.wrap .u32 (↑(BitVec.toNat (BitVec.ofInt (IntKind.bits IntKind.u32) c.int ^^^ BitVec.ofInt (IntKind.bits IntKind.u32) (IntKind.wrap .u32 (U.int (nth (U.i 0) b.list (Int.toNat i.int)))))):Int)) % (16:Nat))) ^^^ BitVec.ofInt (IntKind.bits IntKind.u32) (Int.fdiv (IntKind.wrap .u32 (↑(BitVec.toNat (BitVec.ofInt (IntKind.bits IntKind.u32) c.int ^^^ BitVec.ofInt (IntKind.bits IntKind.u32) (IntKind.wrap .u32 (U.int (nth (U.i 0) b.list (Int.toNat i.int)))))):Int)) ((2:Int) ^ min (Int.toNat 4) (IntKind.bits IntKind.u32))))):Int)) ((2:Int) ^ min (Int.toNat 4) (IntKind.bits IntKind.u32))))):Int)) (List.drop (Int.toNat (IntKind.wrap .i64 (i.int + 1))) b.list))))] []) else False else False else k (Ex.exit 0) (St.mk [(6,.val (.int .u32) c)] [])) := by kernel_rfl
theorem more_round1 (pan : KP) (μ : Mu) (N : Nat) (k : KE) (i b c : U) : (exec (moreC.panics pan) (loopBody Try.f52 0) 0 ⟨[(13, vi i), (12, vi (.i b.list.length)), (11, vl (.int .u8) b), (6, vw c), (5, .ptr 640 0)], [(640, .box wdL1)]⟩ (again PR (some ([6], [])) none pan [13, 12, 11, 6, 5] [640] moreLoop μ N k)) = (bif decide (i.int < (b.list.length:Int)) then bif decide ((0:Int) ≤ i.int ∧ i.int < (b.list.length:Int)) then (2097153 = nat_lit 2097153 ∧ nat_lit 0 = nat_lit 0) ∧ (2097153 = nat_lit 2097153 ∧ nat_lit 0 = nat_lit 0) ∧ bif Nat.blt (μ [vi (U.i (IntKind.wrap .i64 (i.int + 1))),vi (U.i (b.list.length:Int)),.val (.sl false [.int .u8]) b,.val (.int .u32) (U.i (IntKind.wrap .u32 (↑(BitVec.toNat (BitVec.ofInt (IntKind.bits IntKind.u32) (AM.wdRes (Int.toNat (IntKind.wrap .u32 (↑(BitVec.toNat (BitVec.ofInt (IntKind.bits IntKind.u32) (AM.wdRes (Int.toNat (IntKind.wrap .u32 (↑(BitVec.toNat (BitVec.ofInt (IntKind.bits IntKind.u32) c.int ^^^ BitVec.ofInt (IntKind.bits IntKind.u32) (IntKind.wrap .u32 (U.int (nth (U.i 0) b.list (Int.toNat i.int)))))):Int)) % (16:Nat))) ^^^ BitVec.ofInt (IntKind.bits IntKind.u32) (Int.fdiv (IntKind.wrap .u32 (↑(BitVec.toNat (BitVec.ofInt (IntKind.bits IntKind.u32) c.int ^^^ BitVec.ofInt (IntKind.bits IntKind.u32) (IntKind.wrap .u32 (U.int (nth (U.i 0) b.list (Int.toNat i.int)))))):Int)) ((2:Int) ^ min (Int.toNat 4) (IntKind.bits IntKind.u32))))):Int)) % (16:Nat))) ^^^ BitVec.ofInt (IntKind.bits IntKind.u32) (Int.fdiv (IntKind.wrap .u32 (↑(BitVec.toNat (BitVec.ofInt (IntKind.bits IntKind.u32) (AM.wdRes (Int.toNat (IntKind.wrap .u32 (↑(BitVec.toNat (BitVec.ofInt (IntKind.bits IntKind.u32) c.int ^^^ BitVec.ofInt (IntKind.bits IntKind.u32) (IntKind.wrap .u32 (U.int (nth (U.i 0) b.list (Int.toNat i.int)))))):Int)) % (16:Nat))) ^^^ BitVec.ofInt (IntKind.bits IntKind.u32) (Int.fdiv (IntKind.wrap .u32 (↑(BitVec.toNat (BitVec.ofInt (IntKind.bits IntKind.u32) c.int ^^^ BitVec.ofInt (IntKind.bits IntKind.u32) (IntKind.wrap .u32 (U.int (nth (U.i 0) b.list (Int.toNat i.int)))))):Int)) ((2:Int) ^ min (Int.toNat 4) (IntKind.bits IntKind.u32))))):Int)) ((2:Int) ^ min (Int.toNat 4) (IntKind.bits IntKind.u32))))):Int))),.ptr 640 0] [.box [.val (.int .u32) (U.i 1),.val (.int .i32) (U.i 0),.val (.int .u32) (U.i 0),.val (.int .u32) (U.i 0),.val (.int .u32) (U.i 274646895),.val (.int .u32) (U.i 549293790),.val (.int .u32) (U.i 820201905),.val (.int .u32) (U.i 1098587580),.val (.int .u32) (U.i 1361435347),.val (.int .u32) (U.i 1640403810),.val (.int .u32) (U.i 1905808397),.val (.int .u32) (U.i 2197175160),.val (.int .u32) (U.i 2460548119),.val (.int .u32) (U.i 2722870694),.val (.int .u32) (U.i 2987750089),.val (.int .u32) (U.i 3280807620),.val (.int .u32) (U.i 3553878443),.val (.int .u32) (U.i 3811616794),.val (.int .u32) (U.i 4084100981)]]) N then (640 = nat_lit 640 ∧ nat_lit 0 = nat_lit 0 ∧ U.i (b.list.length:Int) = U.i (b.list.length:Int) ∧ U.i (IntKind.wrap .u32 (↑(BitVec.toNat (BitVec.ofInt (IntKind.bits IntKind.u32) (AM.wdRes (Int.toNat (IntKind.wrap .u32 (↑(BitVec.toNat (BitVec.ofInt (IntKind.bits IntKind.u32) (AM.wdRes (Int.toNat (IntKind.wrap .u32 (↑(BitVec.toNat (BitVec.ofInt (IntKind.bits IntKind.u32) c.int ^^^ BitVec.ofInt (IntKind.bits IntKind.u32) (IntKind.wrap .u32 (U.int (nth (U.i 0) b.list (Int.toNat i.int)))))):Int)) % (16:Nat))) ^^^ BitVec.ofInt (IntKind.bits IntKind.u32) (Int.fdiv (IntKind.wrap .u32 (↑(BitVec.toNat (BitVec.ofInt (IntKind.bits IntKind.u32) c.int ^^^ BitVec.ofInt (IntKind.bits IntKind.u32) (IntKind.wrap .u32 (U.int (nth (U.i 0) b.list (Int.toNat i.int)))))):Int)) ((2:Int) ^ min (Int.toNat 4) (IntKind.bits IntKind.u32))))):Int)) % (16:Nat))) ^^^ BitVec.ofInt (IntKind.bits IntKind.u32) (Int.fdiv (IntKind.wrap .u32 (↑(BitVec.toNat (BitVec.ofInt (IntKind.bits IntKind.u32) (AM.wdRes (Int.toNat (IntKind.wrap .u32 (↑(BitVec.toNat (BitVec.ofInt (IntKind.bits IntKind.u32) c.int ^^^ BitVec.ofInt (IntKind.bits IntKind.u32) (IntKind.wrap .u32 (U.int (nth (U.i 0) b.list (Int.toNat i.int)))))):Int)) % (16:Nat))) ^^^ BitVec.ofInt (IntKind.bits IntKind.u32) (Int.fdiv (IntKind.wrap .u32 (↑(BitVec.toNat (BitVec.ofInt (IntKind.bits IntKind.u32) c.int ^^^ BitVec.ofInt (IntKind.bits IntKind.u32) (IntKind.wrap .u32 (U.int (nth (U.i 0) b.list (Int.toNat i.int)))))):Int)) ((2:Int) ^ min (Int.toNat 4) (IntKind.bits IntKind.u32))))):Int)) ((2:Int) ^ min (Int.toNat 4) (IntKind.bits IntKind.u32))))):Int)) = U.i (IntKind.wrap .u32 (↑(BitVec.toNat (BitVec.ofInt (IntKind.bits IntKind.u32) (AM.wdRes (Int.toNat (IntKind.wrap .u32 (↑(BitVec.toNat (BitVec.ofInt (IntKind.bits IntKind.u32) (AM.wdRes (Int.toNat (IntKind.wrap .u32 (↑(BitVec.toNat (BitVec.ofInt (IntKind.bits IntKind.u32) c.int ^^^ BitVec.ofInt (IntKind.bits IntKind.u32) (IntKind.wrap .u32 (U.int (nth (U.i 0) b.list (Int.toNat i.int)))))):Int)) % (16:Nat))) ^^^ BitVec.ofInt (IntKind.bits IntKind.u32) (Int.fdiv (IntKind.wrap .u32 (↑(BitVec.toNat (BitVec.ofInt (IntKind.bits IntKind.u32) c.int ^^^ BitVec.ofInt (IntKind.bits IntKind.u32) (IntKind.wrap .u32 (U.int (nth (U.i 0) b.list (Int.toNat i.int)))))):Int)) ((2:Int) ^ min (Int.toNat 4) (IntKind.bits IntKind.u32))))):Int)) % (16:Nat))) ^^^ BitVec.ofInt (IntKind.bits IntKind.u32) (Int.fdiv (IntKind.wrap .u32 (↑(BitVec.toNat (BitVec.ofInt (IntKind.bits IntKind.u32) (AM.wdRes (Int.toNat (IntKind.wrap .u32 (↑(BitVec.toNat (BitVec.ofInt (IntKind.bits IntKind.u32) c.int ^^^ BitVec.ofInt (IntKind.bits IntKind.u32) (IntKind.wrap .u32 (U.int (nth (U.i 0) b.list (Int.toNat i.int)))))):Int)) % (16:Nat))) ^^^ BitVec.ofInt (IntKind.bits IntKind.u32) (Int.fdiv (IntKind.wrap .u32 (↑(BitVec.toNat (BitVec.ofInt (IntKind.bits IntKind.u32) c.int ^^^ BitVec.ofInt (IntKind.bits IntKind.u32) (IntKind.wrap .u32 (U.int (nth (U.i 0) b.list (Int.toNat i.int)))))):Int)) ((2:Int) ^ min (Int.toNat 4) (IntKind.bits IntKind.u32))))):Int)) ((2:Int) ^ min (Int.toNat 4) (IntKind.bits IntKind.u32))))):Int)) ∧ (0:Int) ≤ IntKind.wrap .i64 (i.int + 1) ∧ IntKind.wrap .i64 (i.int + 1) ≤ (b.list.length:Int) ∧ (0:Int) ≤ IntKind.wrap .u32 (↑(BitVec.toNat (BitVec.ofInt (IntKind.bits IntKind.u32) (AM.wdRes (Int.toNat (IntKind.wrap .u32 (↑(BitVec.toNat (BitVec.ofInt (IntKind.bits IntKind.u32) (AM.wdRes (Int.toNat (IntKind.wrap .u32 (↑(BitVec.toNat (BitVec.ofInt (IntKind.bits IntKind.u32) c.int ^^^ BitVec.ofInt (IntKind.bits IntKind.u32) (IntKind.wrap .u32 (U.int (nth (U.i 0) b.list (Int.toNat i.int)))))):Int)) % (16:Nat))) ^^^ BitVec.ofInt (IntKind.bits IntKind.u32) (Int.fdiv (IntKind.wrap .u32 (↑(BitVec.toNat (BitVec.ofInt (IntKind.bits IntKind.u32) c.int ^^^ BitVec.ofInt (IntKind.bits IntKind.u32) (IntKind.wrap .u32 (U.int (nth (U.i 0) b.list (Int.toNat i.int)))))):Int)) ((2:Int) ^ min (Int.toNat 4) (IntKind.bits IntKind.u32))))):Int)) % (16:Nat))) ^^^ BitVec.ofInt (IntKind.bits IntKind.u32) (Int.fdiv (IntKind.wrap .u32 (↑(BitVec.toNat (BitVec.ofInt (IntKind.bits IntKind.u32) (AM.wdRes (Int.toNat (IntKind.wrap .u32 (↑(BitVec.toNat (BitVec.ofInt (IntKind.bits IntKind.u32) c.int ^^^ BitVec.ofInt (IntKind.bits IntKind.u32) (IntKind.wrap .u32 (U.int (nth (U.i 0) b.list (Int.toNat i.int)))))):Int)) % (16:Nat))) ^^^ BitVec.ofInt (IntKind.bits IntKind.u32) (Int.fdiv (IntKind.wrap .u32 (↑(BitVec.toNat (BitVec.ofInt (IntKind.bits IntKind.u32) c.int ^^^ BitVec.ofInt (IntKind.bits IntKind.u32) (IntKind.wrap .u32 (U.int (nth (U.i 0) b.list (Int.toNat i.int)))))):Int)) ((2:Int) ^ min (Int.toNat 4) (IntKind.bits IntKind.u32))))):Int)) ((2:Int) ^ min (Int.toNat 4) (IntKind.bits IntKind.u32))))):Int) ∧ IntKind.wrap .u32 (↑(BitVec.toNat (BitVec.ofInt (IntKind.bits IntKind.u32) (AM.wdRes (Int.toNat (IntKind.wrap .u32 (↑(BitVec.toNat (BitVec.ofInt (IntKind.bits IntKind.u32) (AM.wdRes (Int.toNat (IntKind.wrap .u32 (↑(BitVec.toNat (BitVec.ofInt (IntKind.bits IntKind.u32) c.int ^^^ BitVec.ofInt (IntKind.bits IntKind.u32) (IntKind.wrap .u32 (U.int (nth (U.i 0) b.list (Int.toNat i.int)))))):Int)) % (16:Nat))) ^^^ BitVec.ofInt (IntKind.bits IntKind.u32) (Int.fdiv (IntKind.wrap .u32 (↑(BitVec.toNat (BitVec.ofInt (IntKind.bits IntKind.u32) c.int ^^^ BitVec.ofInt (IntKind.bits IntKind.u32) (IntKind.wrap .u32 (U.int (nth (U.i 0) b.list (Int.toNat i.int)))))):Int)) ((2:Int) ^ min (Int.toNat 4) (IntKind.bits IntKind.u32))))):Int)) % (16:Nat))) ^^^ BitVec.ofInt (IntKind.bits IntKind.u32) (Int.fdiv (IntKind.wrap .u32 (↑(BitVec.toNat (BitVec.ofInt (IntKind.bits IntKind.u32) (AM.wdRes (Int.toNat (IntKind.wrap .u32 (↑(BitVec.toNat (BitVec.ofInt (IntKind.bits IntKind.u32) c.int ^^^ BitVec.ofInt (IntKind.bits IntKind.u32) (IntKind.wrap .u32 (U.int (nth (U.i 0) b.list (Int.toNat i.int)))))):Int)) % (16:Nat))) ^^^ BitVec.ofInt (IntKind.bits IntKind.u32) (Int.fdiv (IntKind.wrap .u32 (↑(BitVec.toNat (BitVec.ofInt (IntKind.bits IntKind.u32) c.int ^^^ BitVec.ofInt (IntKind.bits IntKind.u32) (IntKind.wrap .u32 (U.int (nth (U.i 0) b.list (Int.toNat i.int)))))):Int)) ((2:Int) ^ min (Int.toNat 4) (IntKind.bits IntKind.u32))))):Int)) ((2:Int) ^ min (Int.toNat 4) (IntKind.bits IntKind.u32))))):Int) < 4294967296) ∧ k (Ex.exit 0) (St.mk [(6,.val (.int .u32) (U.i (bytesI (IntKind.wrap .u32 (↑(BitVec.toNat (BitVec.ofInt (IntKind.bits IntKind.u32) (AM.wdRes (Int.toNat (IntKind.wrap .u32 (↑(BitVec.toNat (BitVec.ofInt (IntKind.bits IntKind.u32) (AM.wdRes (Int.toNat (IntKind.wrap .u32 (↑(BitVec.toNat (BitVec.ofInt (IntKind.bits IntKind.u32) c.int ^^^ BitVec.ofInt (IntKind.bits IntKind.u32) (IntKind.wrap .u32 (U.int (nth (U.i 0) b.list (Int.toNat i.int)))))):Int)) % (16:Nat))) ^^^ BitVec.ofInt (IntKind.bits IntKind.u32) (Int.fdiv (IntKind.wrap .u32 (↑(BitVec.toNat (BitVec.ofInt (IntKind.bits IntKind.u32) c.int ^^^ BitVec.ofInt (IntKind.bits IntKind.u32) (IntKind.wrap .u32 (U.int (nth (U.i 0) b.list (Int.toNat i.int)))))):Int)) ((2:Int) ^ min (Int.toNat 4) (IntKind.bits IntKind.u32))))):Int)) % (16:Nat))) ^^^ BitVec.ofInt (IntKind.bits IntKind.u32) (Int.fdiv (IntKind.wrap .u32 (↑(BitVec.toNat (BitVec.ofInt (IntKind.bits IntKind.u32) (AM.wdRes (Int.toNat (IntKind.wrap .u32 (↑(BitVec.toNat (BitVec.ofInt (IntKind.bits IntKind.u32) c.int ^^^ BitVec.ofInt (IntKind.bits IntKind.u32) (IntKind.wrap .u32 (U.int (nth (U.i 0) b.list (Int.toNat i.int)))))):Int)) % (16:Nat))) ^^^ BitVec.ofInt (IntKind.bits IntKind.u32) (Int.fdiv (IntKind.wrap .u32 (↑(BitVec.toNat (BitVec.ofInt (IntKind.bits IntKind.u32) c.int ^^^ BitVec.ofInt (IntKind.bits IntKind.u32) (IntKind.wrap .u32 (U.int (nth (U.i 0) b.list (Int.toNat i.int)))))):Int)) ((2:Int) ^ min (Int.toNat 4) (IntKind.bits IntKind.u32))))):Int)) ((2:Int) ^ min (Int.toNat 4) (IntKind.bits IntKind.u32))))):Int)) (List.drop (Int.toNat (IntKind.wrap .i64 (i.int + 1))) b.list))))] []) else False else False else k (Ex.exit 0) (St.mk [(6,.val (.int .u32) c)] [])) := by kernel_rfl
theorem more_tree (R : RF) (s b : U) : (run moreC Try.f52 [[s], [b]] R) = ((640 = nat_lit 640 ∧ nat_lit 0 = nat_lit 0 ∧ U.i (↑(List.length b.list) : Int) = U.i (↑(List.length b.list) : Int) ∧ U.i (compl IntKind.u32 s.int) = U.i (compl IntKind.u32 s.int) ∧ (0 : Int) ≤ 0 ∧ (0 :
  Int) ≤ (↑(List.length b.list) : Int) ∧ (0 : Int) ≤ compl IntKind.u32 s.int ∧ compl IntKind.u32 s.int < 4294967296) ∧ R [[U.i (compl IntKind.u32 (bytesI (compl IntKind.u32 s.int) (List.drop (Int.toNat 0)
  b.list)))]]) := by kernel_rfl
noncomputable def gsumC : Ctx := mkC PR eqs0 (fnsCons 52 moreS fnsNil) trsNil noLoops noOut noOut
theorem sum_tree (R : RF) (b : U) : (run gsumC Try.f26 [[b]] R) = (R [[U.i (sumI 0 b.list)]]) := by kernel_rfl
end Go.Mat

namespace Go.Mat
open Go Go.Den Go.Proofs
set_option maxRecDepth 100000
theorem sameI_eq {a b : SV} (h : sameI a b = true) : a = b := by
  unfold sameI at h
  split at h
  · rw [Bool.and_eq_true] at h
    rw [same_eq h.1, of_decide_eq_true h.2]
  · cases h
theorem sameL_eq : ∀ {l m : List SV}, sameL l m = true → l = m
  | [], [], _ => rfl
  | a :: r, b :: s, h => by
    unfold sameL at h
    rw [Bool.and_eq_true] at h
    rw [sameI_eq h.1, sameL_eq h.2]
  | [], _ :: _, h => by cases h
  | _ :: _, [], h => by cases h
theorem wdB_or {l : List SV} (h : wdB l = true) : l = wdL0 ∨ l = wdL1 := by
  unfold wdB at h
  rw [Bool.or_eq_true] at h
  exact h.imp sameL_eq sameL_eq
theorem word_ok : SpecT PR 68 wordF := fun fn hfn => by
  have hf : PR.funcs[(68 : Nat)]? = some Try.f68 := by kernel_rfl
  rw [hf] at hfn; cases hfn
  refine (fnTr_box (l0 := AM.wd0) (l1 := AM.wd1) (res := AM.wdRes) (by kernel_rfl) (by kernel_rfl) AM.W15tb mixed_ok (by decide) (by decide) (by decide) AM.wdr0 AM.wdr1).weakenOk fun vs objs R g1 g2 h => ?_
  clear g1 g2
  unfold wordF at h
  unfold boxF
  split at h
  · rename_i i off u j cells
    obtain ⟨⟨rfl, rfl⟩, h⟩ := h
    cases hw : wdB cells with
    | false => rw [hw] at h; exact h.elim
    | true =>
      rw [hw, cond_true] at h
      exact ⟨⟨rfl, rfl, wdB_or hw⟩, h⟩
  · exact h.elim
theorem wd_tab : ∀ r : Nat, r < 16 → BitVec.ofInt 32 (AM.wdRes r) = crc4 (BitVec.ofNat 32 r) := by decide
theorem steps4 {x : Int} (h0 : 0 ≤ x) (h1 : x < 4294967296) : stepsI 4 x = ((crc4 (BitVec.ofInt 32 x)).toNat : Int) := by
  have e : ∀ c : BitVec 32, stepI (c.toNat : Int) = ((crcStep c).toNat : Int) := fun c => by
    unfold stepI
    rw [BitVec.ofInt_natCast, BitVec.ofNat_toNat, BitVec.setWidth_eq]
  show stepI (stepI (stepI (stepI x))) = _
  rw [show x = ((BitVec.ofInt 32 x).toNat : Int) from (bv_of h0 h1).symm, e, e, e, e]
  rw [BitVec.ofInt_natCast, BitVec.ofNat_toNat, BitVec.setWidth_eq]
  rfl
theorem crcW_eq {x : Int} (h0 : 0 ≤ x) (h1 : x < 4294967296) :
    IntKind.wrap .u32 ((BitVec.ofInt (IntKind.bits .u32) (AM.wdRes (x.toNat % 16)) ^^^ BitVec.ofInt (IntKind.bits .u32) (Int.fdiv x ((2 : Int) ^ min (Int.toNat 4) (IntKind.bits .u32)))).toNat : Int) = stepsI 4 x := by
  rw [show IntKind.bits .u32 = 32 from rfl, u32_bv, show min (Int.toNat 4) 32 = 4 from rfl, bv_shr h0 h1, steps4 h0 h1, wd_tab _ (Nat.mod_lt _ (by decide)), crc4_tab (BitVec.ofInt 32 x)]
  have e : BitVec.ofInt 32 x &&& 15#32 = BitVec.ofNat 32 (x.toNat % 16) := by
    refine BitVec.eq_of_toNat_eq ?_
    have hx : (BitVec.ofInt 32 x).toNat = x.toNat := by
      have := bv_of h0 h1
      omega
    rw [BitVec.toNat_and, hx, show (15#32).toNat = 2 ^ 4 - 1 from rfl, Nat.and_two_pow_sub_one_eq_mod, BitVec.toNat_ofNat]
    omega
  rw [e, BitVec.ofInt_natCast, BitVec.ofNat_toNat, BitVec.setWidth_eq]
theorem more_loop : LoopOk moreC 0 (loopBody Try.f52 0) := by
  refine loopOk_of (F := moreLoop) (ts := [13, 12, 11, 6, 5]) (os := [640]) rfl (fun svs _ => match svs with | .val _ i :: .val _ n :: _ => (n.int - i.int).toNat | _ => 0) ?_
  intro pan svs os k ho1 ho2 h
  unfold moreLoop at h
  split at h
  · rename_i i n b c p o cells
    obtain ⟨⟨rfl, rfl, rfl, hc', h0, hi, hc0, hc1⟩, hk⟩ := h
    have hb : b.list.length ≤ maxLen := ho1.2.2.1.1
    have main : ∀ {p q r : Prop}, (i.int < b.list.length → p) → (¬ i.int < b.list.length → q) → (bif decide (i.int < (b.list.length : Int)) then bif decide ((0 : Int) ≤ i.int ∧ i.int < (b.list.length : Int)) then p else r else q) :=
      fun h1 h2 => bd (fun hlt => dt ⟨h0, hlt⟩ (h1 hlt)) h2
    cases hw : wdB cells with
    | false => rw [hw] at hk; exact hk.elim
    | true =>
      rw [hw, cond_true] at hk
      have hy := byteI_in c.int (U.at b.list i.int.toNat).int
      have hwi : i.int < b.list.length → IntKind.wrap .i64 (i.int + 1) = i.int + 1 := fun hlt => i64_in (by omega) (by unfold maxLen at hb; omega)
      have hcn : (i.int + 1).toNat = i.int.toNat + 1 := by omega
      have e8 : ∀ z : Int, stepsI 4 (stepsI 4 z) = stepsI 8 z := fun z => rfl
      have hk1 : i.int < b.list.length → k (.exit 0) ⟨[(6, vw (.i (bytesI (byteI c.int (U.at b.list i.int.toNat).int) (b.list.drop (i.int.toNat + 1)))))], []⟩ := fun hlt => by
        rw [drop_at (by omega), bytesI] at hk
        exact hk
      have hk2 : ¬ i.int < b.list.length → k (.exit 0) ⟨[(6, vw c)], []⟩ := fun hlt => by
        rw [List.drop_of_length_le (by omega), bytesI, ← hc'] at hk
        exact hk
      rcases wdB_or hw with rfl | rfl
      · refine .eq (more_round0 pan _ _ k i b c) ?_
        refine main (fun hlt => ⟨⟨by trivial, by trivial⟩, ⟨by trivial, by trivial⟩, ?_⟩) hk2
        rw [crcW_eq (w32_in _).1 (w32_in _).2, crcW_eq (w32_in _).1 (w32_in _).2, e8, hwi hlt, hcn]
        exact blt (by simp only [U.int_i]; omega) ⟨⟨by trivial, by trivial, by trivial, by trivial, by omega, by omega, hy.1, hy.2⟩, hk1 hlt⟩
      · refine .eq (more_round1 pan _ _ k i b c) ?_
        refine main (fun hlt => ⟨⟨by trivial, by trivial⟩, ⟨by trivial, by trivial⟩, ?_⟩) hk2
        rw [crcW_eq (w32_in _).1 (w32_in _).2, crcW_eq (w32_in _).1 (w32_in _).2, e8, hwi hlt, hcn]
        exact blt (by simp only [U.int_i]; omega) ⟨⟨by trivial, by trivial, by trivial, by trivial, by omega, by omega, hy.1, hy.2⟩, hk1 hlt⟩
  · exact h.elim
theorem more_ok : SpecF PR 52 moreS := fun fn us hfn => by
  have hf : PR.funcs[(52 : Nat)]? = some Try.f52 := by kernel_rfl
  rw [hf] at hfn; cases hfn
  refine fn_okH (C := moreC) (mkC_ok eqs0_ok mixed_ok .nil (.cons word_ok .nil)) hf (by kernel_rfl) (loops_one (by kernel_rfl) more_loop) fun hok => ?_
  have hp : Try.f52.params.toList = [22, 25] := by kernel_rfl
  rw [hp] at hok
  obtain ⟨s, b, hus⟩ := more_args hok.1
  subst hus
  refine .eq (more_tree _ s b) ?_
  exact ⟨⟨by trivial, by trivial, by trivial, by trivial, by omega, by omega, (compl_in _).1, (compl_in _).2⟩, rfl⟩
theorem sum_ok : SpecF PR 26 sumS := fun fn us hfn => by
  have hf : PR.funcs[(26 : Nat)]? = some Try.f26 := by kernel_rfl
  rw [hf] at hfn; cases hfn
  refine fn_okH (C := gsumC) (mkC_ok eqs0_ok mixed_ok (.cons more_ok .nil) .nil) hf (by kernel_rfl) (loops_none (by kernel_rfl)) fun hok => ?_
  have hp : Try.f26.params.toList = [25] := by kernel_rfl
  rw [hp] at hok
  obtain ⟨b, hus⟩ := bytes_args hok.1
  subst hus
  exact .eq (sum_tree _ b) rfl
end Go.Mat

namespace Go.Mat
open Go Go.Den Go.Proofs
def lOk : List U → Bool
  | [] => false
  | x :: r => bif x.int == 255 then lOk r else true
def lK : List U → Nat
  | [] => 0
  | x :: r => bif x.int == 255 then lK r + 1 else 1
def lN : List U → Int → Int
  | [], n => n
  | x :: r, n => bif x.int == 255 then lN r (n + 255) else n + x.int
def hOk (h : Int) (r : List U) : Bool := bif decide (h < 15) then true else lOk r
def hK (h : Int) (r : List U) : Nat := bif decide (h < 15) then 0 else lK r
def hN (h : Int) (r : List U) : Int := bif decide (h < 15) then h else lN r h
noncomputable def K62 : Ctx := mkC PR eqs0 fnsNil trsNil noLoops noOut noOut
def cloneS : List (List U) → List (List U) := fun us => [[.l (nth (.i 0) (nth [] us 0) 0).list]]
def cloneP : List (List U) → Prop := fun us => (nth (.i 0) (nth [] us 0) 0).list.length ≤ 1073741824
theorem clone_tree (R : RF) (b : U) : (run K62 Try.f24 [[b]] R) = (NilOr (U.list (U.at [b] (0 : Nat)) = []) (R [[U.l []]]) (bif decide ((0 : Nat) + List.length b.list ≤ room) && true then R [[U.l ([] ++ b.list)]] else False)) := by kernel_rfl
abbrev nxObjs (a : Int) (b : U) : Objs := [(2097153, .box [vi (.i a)]), (2097281, .box [vl (.int .u8) b])]
noncomputable def nextF : Tr := fun vs objs k => match vs, objs with
  | [.ptr pa oa, .ptr pb ob], [(ia, .box [.val (.int .i64) a]), (ib, .box [.val (.sl false [.int .u8]) b])] =>
    (pa = 2097153 ∧ oa = 0 ∧ pb = 2097281 ∧ ob = 0 ∧ ia = 2097153 ∧ ib = 2097281 ∧ 0 ≤ a.int ∧ b.list.length ≤ 1099511627776) ∧
    (bif decide (a.int < (b.list.length : Int)) then k (.ret [.val (.int .u8) (U.at b.list a.int.toNat), vb (.b true)]) (nxObjs (a.int + 1) b) else k (.ret [.val (.int .u8) (.i 0), vb (.b false)]) [(2097153, .box [vi a]), (2097281, .box [vl (.int .u8) b])])
  | _, _ => False
theorem next_tree (R : RT) (a b : U) : (runD K62 Try.f50 [.ptr 2097153 0, .ptr 2097281 0] [(2097153, .box [vi a]), (2097281, .box [vl (.int .u8) b])] R) = (bif decide (a.int ≥ (↑(List.length b.list) : Int)) then R (Out.ret [SV.val (.int .u8) (U.i 0), SV.val Ct.bool (U.b false)]) [(2097153, Obj.box [vi a]), (2097281, Obj.box [SV.val (Ct.sl false [.int .u8])
  b])] else bif decide ((0 : Int) ≤ IntKind.wrap IntKind.i64 (IntKind.wrap IntKind.i64 (a.int + 1) - 1) ∧ IntKind.wrap IntKind.i64 (IntKind.wrap IntKind.i64 (a.int + 1) - 1) < (↑(List.length b.list) : Int))
  then R (Out.ret [SV.val (.int .u8) (nth (U.i 0) b.list (Int.toNat (IntKind.wrap IntKind.i64 (IntKind.wrap IntKind.i64 (a.int + 1) - 1)))), SV.val Ct.bool (U.b true)]) [(2097153, Obj.box [vi (U.i (IntKind.wrap
  IntKind.i64 (a.int + 1)))]), (2097281, Obj.box [SV.val (Ct.sl false [.int .u8]) b])] else False) := by kernel_rfl
abbrev nextV (a b : Nat) : SV := .clo 50 [.ptr a 0, .ptr b 0]
abbrev lenObjs (a : Int) (b : U) : Objs := [(2097153, .box [nextV 2097281 2097409]), (2097281, .box [vi (.i a)]), (2097409, .box [vl (.int .u8) b])]
noncomputable def lenF : Tr := fun vs objs k => match vs, objs with
  | [.val (.int .i64) n, .ptr p o], [(i0, .box [.clo f [.ptr pa oa, .ptr pb ob]]), (ia, .box [.val (.int .i64) a]), (ib, .box [.val (.sl false [.int .u8]) b])] =>
    (p = 2097153 ∧ o = 0 ∧ f = 50 ∧ pa = 2097281 ∧ oa = 0 ∧ pb = 2097409 ∧ ob = 0 ∧ i0 = 2097153 ∧ ia = 2097281 ∧ ib = 2097409 ∧ n = .i n.int ∧ a = .i a.int ∧ 0 ≤ a.int ∧ a.int ≤ b.list.length ∧ b.list.length ≤ 1099511627776 ∧ 0 ≤ n.int ∧ n.int ≤ 15) ∧
    (bif hOk n.int (b.list.drop a.int.toNat) then k (.ret [vi (.i (hN n.int (b.list.drop a.int.toNat))), vb (.b true)]) (lenObjs (a.int + hK n.int (b.list.drop a.int.toNat)) b)
      else ∀ x : U, k (.ret [vi (.i 0), vb (.b false)]) [(2097153, .box [nextV 2097281 2097409]), (2097281, .box [vi x]), (2097409, .box [vl (.int .u8) b])])
  | _, _ => False
noncomputable def lenLoop : LoopF := fun _ svs os k => match svs, os with
  | [.val (.int .i64) n, .val (.int .u8) x, .ptr p o], [.box [.clo f [.ptr pa oa, .ptr pb ob]], .box [.val (.int .i64) a], .box [.val (.sl false [.int .u8]) b]] =>
    (p = 2097153 ∧ o = 0 ∧ f = 50 ∧ pa = 2097281 ∧ oa = 0 ∧ pb = 2097409 ∧ ob = 0 ∧ n = .i n.int ∧ 0 ≤ a.int ∧ a = .i a.int ∧ a.int ≤ b.list.length ∧ b.list.length ≤ 1099511627776 ∧ 0 ≤ n.int ∧ n.int ≤ 15 + 255 * a.int) ∧
    (bif decide (n.int < 15) || !(x.int == 255) then k (.exit 0) ⟨[(0, vi n), (1, .ptr 2097153 0)], [(2097153, .box [nextV 2097281 2097409]), (2097281, .box [vi a]), (2097409, .box [vl (.int .u8) b])]⟩
      else bif lOk (b.list.drop a.int.toNat) then k (.exit 0) ⟨[(0, vi (.i (lN (b.list.drop a.int.toNat) n.int))), (1, .ptr 2097153 0)], lenObjs (a.int + lK (b.list.drop a.int.toNat)) b⟩
      else ∀ y : U, k .ret ⟨[(3, vi (.i 0)), (4, vb (.b false))], [(2097153, .box [nextV 2097281 2097409]), (2097281, .box [vi y]), (2097409, .box [vl (.int .u8) b])]⟩)
  | _, _ => False
noncomputable def lenC : Ctx := mkC PR eqs0 fnsNil (trsCons 50 [] nextF trsNil) (loopCons 0 [0, 5, 1] [2097153, 2097281, 2097409] lenLoop noLoops)
  (outCons 1048576 [3, 4] [2097153, 2097281, 2097409] (outCons 0 [0, 1] [2097153, 2097281, 2097409] noOut)) noOut
theorem len_round (pan : KP) (μ : Mu) (N : Nat) (k : KE) (n x a b : U) : (exec (lenC.panics pan) (loopBody Try.f51 0) 0 ⟨[(0, vi n), (5, .val (.int .u8) x), (1, .ptr 2097153 0)], [(2097153, .box [nextV 2097281 2097409]), (2097281, .box [vi a]), (2097409, .box [vl (.int .u8) b])]⟩ (again PR (some ([0, 1], [2097153, 2097281, 2097409])) (some ([3, 4], [2097153, 2097281, 2097409])) pan [0, 5, 1] [2097153, 2097281, 2097409] lenLoop μ N k)) = (bif decide (n.int ≥ 15) then bif x.int == 255 then (2097153 = nat_lit 2097153 ∧ nat_lit 0 = nat_lit 0 ∧ nat_lit 2097281 = nat_lit 2097281 ∧ nat_lit 0 = nat_lit 0 ∧ nat_lit 2097153 = nat_lit 2097153 ∧ nat_lit 2097281 = nat_lit 2097281 ∧ (0:Int) ≤ a.int ∧ b.list.length ≤ (1099511627776:Nat)) ∧ bif decide (a.int < (b.list.length:Int)) then bif Nat.blt (μ [vi (U.i (IntKind.wrap .i64 (n.int + IntKind.wrap .i64 (U.int (nth (U.i 0) b.list (Int.toNat a.int)))))),.val (.int .u8) (nth (U.i 0) b.list (Int.toNat a.int)),.ptr 2097153 0] [.box [.clo 50 [.ptr 2097281 0,.ptr 2097409 0]],.box [vi (U.i (a.int + 1))],.box [.val (.sl false [.int .u8]) b]]) N then (2097153 = nat_lit 2097153 ∧ nat_lit 0 = nat_lit 0 ∧ nat_lit 50 = nat_lit 50 ∧ nat_lit 2097281 = nat_lit 2097281 ∧ nat_lit 0 = nat_lit 0 ∧ nat_lit 2097409 = nat_lit 2097409 ∧ nat_lit 0 = nat_lit 0 ∧ U.i (IntKind.wrap .i64 (n.int + IntKind.wrap .i64 (U.int (nth (U.i 0) b.list (Int.toNat a.int))))) = U.i (IntKind.wrap .i64 (n.int + IntKind.wrap .i64 (U.int (nth (U.i 0) b.list (Int.toNat a.int))))) ∧ (0:Int) ≤ a.int + 1 ∧ U.i (a.int + 1) = U.i (a.int + 1) ∧ a.int + (1:Int) ≤ (b.list.length:Int) ∧ b.list.length ≤ (1099511627776:Nat) ∧ (0:Int) ≤ IntKind.wrap .i64 (n.int + IntKind.wrap .i64 (U.int (nth (U.i 0) b.list (Int.toNat a.int)))) ∧ IntKind.wrap .i64 (n.int + IntKind.wrap .i64 (U.int (nth (U.i 0) b.list (Int.toNat a.int)))) ≤ 15 + 255 * (a.int + 1)) ∧ bif decide (IntKind.wrap .i64 (n.int + IntKind.wrap .i64 (U.int (nth (U.i 0) b.list (Int.toNat a.int)))) < 15) || !U.int (nth (U.i 0) b.list (Int.toNat a.int)) == 255 then k (Ex.exit 0) (St.mk [(0,vi (U.i (IntKind.wrap .i64 (n.int + IntKind.wrap .i64 (U.int (nth (U.i 0) b.list (Int.toNat a.int))))))),(1,.ptr 2097153 0)] [(2097153,.box [.clo 50 [.ptr 2097281 0,.ptr 2097409 0]]),(2097281,.box [vi (U.i (a.int + 1))]),(2097409,.box [.val (.sl false [.int .u8]) b])]) else bif lOk (List.drop (Int.toNat (a.int + 1)) b.list) then k (Ex.exit 0) (St.mk [(0,vi (U.i (lN (List.drop (Int.toNat (a.int + 1)) b.list) (IntKind.wrap .i64 (n.int + IntKind.wrap .i64 (U.int (nth (U.i 0) b.list (Int.toNat a.int)))))))),(1,.ptr 2097153 0)] [(2097153,.box [.clo 50 [.ptr 2097281 0,.ptr 2097409 0]]),(2097281,.box [vi (U.i (a.int + 1 + (↑(lK (List.drop (Int.toNat (a.int + 1)) b.list)):Int)))]),(2097409,.box [.val (.sl false [.int .u8]) b])]) else ∀ (y : U),k Ex.ret (St.mk [(3,vi (U.i 0)),(4,.val .bool (U.b false))] [(2097153,.box [.clo 50 [.ptr 2097281 0,.ptr 2097409 0]]),(2097281,.box [vi y]),(2097409,.box [.val (.sl false [.int .u8]) b])]) else False else k Ex.ret (St.mk [(3,vi (U.i 0)),(4,.val .bool (U.b false))] [(2097153,.box [.clo 50 [.ptr 2097281 0,.ptr 2097409 0]]),(2097281,.box [vi a]),(2097409,.box [.val (.sl false [.int .u8]) b])]) else k (Ex.exit 0) (St.mk [(0,vi n),(1,.ptr 2097153 0)] [(2097153,.box [.clo 50 [.ptr 2097281 0,.ptr 2097409 0]]),(2097281,.box [vi a]),(2097409,.box [.val (.sl false [.int .u8]) b])]) else k (Ex.exit 0) (St.mk [(0,vi n),(1,.ptr 2097153 0)] [(2097153,.box [.clo 50 [.ptr 2097281 0,.ptr 2097409 0]]),(2097281,.box [vi a]),(2097409,.box [.val (.sl false [.int .u8]) b])])) := by kernel_rfl
theorem len_tree (R : RT) (n a b : U) : (runD lenC Try.f51 [vi n, .ptr 2097153 0] [(2097153, .box [nextV 2097281 2097409]), (2097281, .box [vi a]), (2097409, .box [vl (.int .u8) b])] R) = ((2097153 = nat_lit 2097153 ∧ nat_lit 0 = nat_lit 0 ∧ nat_lit 50 = nat_lit 50 ∧ nat_lit 2097281 = nat_lit 2097281 ∧ nat_lit 0 = nat_lit 0 ∧ nat_lit 2097409 = nat_lit 2097409 ∧ nat_lit 0 = nat_lit 0 ∧ n
  = U.i n.int ∧ (0 : Int) ≤ a.int ∧ a = U.i a.int ∧ a.int ≤ (↑(List.length b.list) : Int) ∧ List.length b.list ≤ (1099511627776 : Nat) ∧ (0 : Int) ≤ n.int ∧ n.int ≤ 15 + 255 * a.int) ∧ bif decide (n.int
  < 15) || !(255 : Int) == 255 then R (Out.ret [vi n, SV.val Ct.bool (U.b true)]) [(2097153, Obj.box [SV.clo 50 [SV.ptr 2097281 0, SV.ptr 2097409 0]]), (2097281, Obj.box [vi a]), (2097409, Obj.box [SV.val
  (Ct.sl false [.int .u8]) b])] else bif lOk (List.drop (Int.toNat a.int) b.list) then R (Out.ret [vi (U.i (lN (List.drop (Int.toNat a.int) b.list) n.int)), SV.val Ct.bool (U.b true)]) [(2097153, Obj.box
  [SV.clo 50 [SV.ptr 2097281 0, SV.ptr 2097409 0]]), (2097281, Obj.box [vi (U.i (a.int + (↑(lK (List.drop (Int.toNat a.int) b.list)) : Int)))]), (2097409, Obj.box [SV.val (Ct.sl false [.int .u8]) b])] else
  ∀ (y : U), R (Out.ret [vi (U.i 0), SV.val Ct.bool (U.b false)]) [(2097153, Obj.box [SV.clo 50 [SV.ptr 2097281 0, SV.ptr 2097409 0]]), (2097281, Obj.box [vi y]), (2097409, Obj.box [SV.val (Ct.sl false [.int
  .u8]) b])]) := by kernel_rfl
end Go.Mat

namespace Go.Mat
open Go Go.Den Go.Proofs
set_option maxRecDepth 100000
theorem u8_row {b : U} (h : okC (.sl false [.int .u8]) b) {k : Nat} (hk : k < b.list.length) : 0 ≤ (U.at b.list k).int ∧ (U.at b.list k).int ≤ 255 := (h.2 k hk).1
theorem norP {e : Prop} {x y : Prop} (hx : e → x) (hy : y) : NilOr e x y := ⟨hx, hy⟩
theorem clone_ok : SpecFP PR 24 cloneP cloneS := fun fn us hfn hpre => by
  have hf : PR.funcs[(24 : Nat)]? = some Try.f24 := by kernel_rfl
  rw [hf] at hfn; cases hfn
  refine fn_okH (C := K62) (mkC_ok eqs0_ok mixed_ok .nil .nil) hf (by kernel_rfl) (loops_none (by kernel_rfl)) fun hok => ?_
  have hp : Try.f24.params.toList = [25] := by kernel_rfl
  rw [hp] at hok
  obtain ⟨b, hus⟩ := bytes_args hok.1
  subst hus
  refine .eq (clone_tree _ b) (norP (fun h => ?_) (broom ?_ rfl ?_))
  · have h : b.list = [] := h
    show [[U.l []]] = [[U.l b.list]]
    rw [h]
  · have h : b.list.length ≤ 1073741824 := hpre
    unfold room
    omega
  · rfl
theorem next_ok : SpecT PR 50 nextF := fun fn hfn => by
  have hf : PR.funcs[(50 : Nat)]? = some Try.f50 := by kernel_rfl
  rw [hf] at hfn; cases hfn
  refine fnT_okH (C := K62) (mkC_ok eqs0_ok mixed_ok .nil .nil) hf (by kernel_rfl) (loops_none (by kernel_rfl)) fun vs objs R g1 g2 h => ?_
  clear g1 g2
  unfold nextF at h
  split at h
  · rename_i pa oa pb ob ia a ib b
    obtain ⟨⟨rfl, rfl, rfl, rfl, rfl, rfl, h0, hb⟩, h⟩ := h
    refine .eq (next_tree R a b) ?_
    refine bd (fun hge => ?_) (fun hlt => ?_)
    · rw [decide_eq_false (by omega), cond_false] at h
      exact h
    · rw [decide_eq_true (by omega), cond_true] at h
      rw [i64_in (x := a.int + 1) (by omega) (by omega), show a.int + 1 - 1 = a.int by omega, i64_in (x := a.int) (by omega) (by omega)]
      exact dt ⟨h0, by omega⟩ h
  · exact h.elim
theorem lK_le : ∀ (r : List U), lK r ≤ r.length
  | [] => Nat.le_refl _
  | x :: r => by
    unfold lK
    have := lK_le r
    cases (x.int == 255) <;> simp only [cond_true, cond_false, List.length_cons] <;> omega
theorem lN_bd : ∀ (r : List U) {n : Int}, (∀ k, k < r.length → 0 ≤ (U.at r k).int ∧ (U.at r k).int ≤ 255) → n ≤ lN r n ∧ lN r n ≤ n + 255 * r.length
  | [], n, _ => by simp [lN]
  | x :: r, n, h => by
    unfold lN
    have h0 := h 0 (by simp)
    have h0 : 0 ≤ x.int ∧ x.int ≤ 255 := h0
    have hr := lN_bd r (n := n + 255) (fun k hk => h (k + 1) (by simpa using hk))
    cases (x.int == 255) <;> simp only [cond_true, cond_false, List.length_cons] <;> omega
theorem u8_drop {b : List U} {n : Nat} (h : ∀ k, k < b.length → 0 ≤ (U.at b k).int ∧ (U.at b k).int ≤ 255) : ∀ k, k < (b.drop n).length → 0 ≤ (U.at (b.drop n) k).int ∧ (U.at (b.drop n) k).int ≤ 255 := fun k hk => by
  rw [List.length_drop] at hk
  rw [U.at, nth_drop]
  exact h (n + k) (by omega)
theorem hN_bd {h : Int} {r : List U} (h0 : 0 ≤ h) (hr : ∀ k, k < r.length → 0 ≤ (U.at r k).int ∧ (U.at r k).int ≤ 255) : 0 ≤ hN h r ∧ hN h r ≤ h + 255 * r.length := by
  unfold hN
  have := lN_bd r (n := h) hr
  cases decide (h < 15) <;> simp only [cond_true, cond_false] <;> omega
theorem hK_le (h : Int) (r : List U) : hK h r ≤ r.length := by
  unfold hK
  have := lK_le r
  cases decide (h < 15) <;> simp only [cond_true, cond_false] <;> omega
theorem len_loop : LoopOk lenC 0 (loopBody Try.f51 0) := by
  refine loopOk_of (F := lenLoop) (ts := [0, 5, 1]) (os := [2097153, 2097281, 2097409]) rfl (fun _ os => match os with | [_, .box [.val _ a], .box [.val _ b]] => ((b.list.length : Int) - a.int).toNat | _ => 0) ?_
  intro pan svs os k ho1 ho2 h
  unfold lenLoop at h
  split at h
  · rename_i n x p o f pa oa pb ob a b
    obtain ⟨⟨rfl, rfl, rfl, rfl, rfl, rfl, rfl, hn, ha0, ha, hab, hb, hn0, hn1⟩, hk⟩ := h
    have hbk := fun k hk => u8_row (k := k) ho2.2.2.1.1 hk
    refine .eq (len_round pan _ _ k n x a b) ?_
    refine bd (fun h15 => ?_) (fun h15 => ?_)
    · rw [show decide (n.int < 15) = false from decide_eq_false (by omega), Bool.false_or] at hk
      refine bi (fun hx => ?_) (fun hx => ?_)
      · rw [hx, Bool.not_true, cond_false] at hk
        refine ⟨⟨by trivial, by trivial, by trivial, by trivial, by trivial, by trivial, ha0, hb⟩, bd (fun hlt => ?_) (fun hlt => ?_)⟩
        · have hy := hbk a.int.toNat (by omega)
          have hw : IntKind.wrap .i64 (nth (.i 0) b.list a.int.toNat).int = (nth (.i 0) b.list a.int.toNat).int := i64_in (by have := hy.1; unfold U.at at this; omega) (by have := hy.2; unfold U.at at this; omega)
          have hy : 0 ≤ (nth (.i 0) b.list a.int.toNat).int ∧ (nth (.i 0) b.list a.int.toNat).int ≤ 255 := hy
          rw [hw, i64_in (x := n.int + _) (by omega) (by omega)]
          rw [drop_at (by omega), lOk, lK, lN] at hk
          have hc : (a.int + 1).toNat = a.int.toNat + 1 := by omega
          rw [hc]
          refine blt (by simp only [U.int_i]; omega) ⟨⟨by trivial, by trivial, by trivial, by trivial, by trivial, by trivial, by trivial, by trivial, by omega, by trivial, by omega, hb, by omega, by omega⟩, ?_⟩
          rw [show decide (n.int + (nth (.i 0) b.list a.int.toNat).int < 15) = false from decide_eq_false (by omega), Bool.false_or]
          have hu : U.at b.list a.int.toNat = nth (.i 0) b.list a.int.toNat := rfl
          cases he : ((nth (.i 0) b.list a.int.toNat).int == 255) with
          | true =>
            have hev : (nth (.i 0) b.list a.int.toNat).int = 255 := by simpa using he
            rw [hu, he] at hk
            rw [Bool.not_true, cond_false, hev]
            simp only [cond_true] at hk
            refine bi (fun hl => ?_) (fun hl => ?_)
            · rw [hl, cond_true] at hk
              have e : a.int + ((lK (b.list.drop (a.int.toNat + 1)) + 1 : Nat) : Int) = a.int + 1 + (lK (b.list.drop (a.int.toNat + 1)) : Int) := by omega
              rw [e] at hk
              exact hk
            · rw [hl, cond_false] at hk
              exact hk
          | false =>
            rw [hu, he] at hk
            simp only [cond_false, cond_true] at hk
            exact hk
        · rw [List.drop_of_length_le (by omega), lOk, cond_false] at hk
          exact hk a
      · rw [hx, Bool.not_false, cond_true] at hk
        exact hk
    · rw [show decide (n.int < 15) = true from decide_eq_true (by omega), Bool.true_or, cond_true] at hk
      exact hk
  · exact h.elim
theorem len_ok : SpecT PR 51 lenF := fun fn hfn => by
  have hf : PR.funcs[(51 : Nat)]? = some Try.f51 := by kernel_rfl
  rw [hf] at hfn; cases hfn
  refine fnT_okH (C := lenC) (mkC_ok eqs0_ok mixed_ok .nil (.cons next_ok .nil)) hf (by kernel_rfl) (loops_one (by kernel_rfl) len_loop) fun vs objs R g1 g2 h => ?_
  unfold lenF at h
  split at h
  · rename_i n p o i0 f pa oa pb ob ia a ib b
    obtain ⟨⟨rfl, rfl, rfl, rfl, rfl, rfl, rfl, rfl, rfl, rfl, hn, ha, ha0, hab, hb, hn0, hn1⟩, h⟩ := h
    clear g1 g2
    refine .eq (len_tree R n a b) ?_
    refine ⟨⟨by trivial, by trivial, by trivial, by trivial, by trivial, by trivial, by trivial, hn, ha0, ha, hab, hb, hn0, by omega⟩, ?_⟩
    unfold hOk hK hN at h
    rw [show ((255 : Int) == 255) = true from rfl, Bool.not_true, Bool.or_false]
    refine bd (fun h15 => ?_) (fun h15 => ?_)
    · rw [decide_eq_true h15, cond_true, cond_true, cond_true, cond_true, ← hn, show a.int + ((0 : Nat) : Int) = a.int by omega, ] at h
      rw [lenObjs, ← ha] at h
      exact h
    · rw [decide_eq_false h15] at h
      simp only [cond_false] at h
      exact h
  · exact h.elim
end Go.Mat

namespace Go.Mat
open Go Go.Den Go.Proofs
def litE : Nat → List U → Nat → Int
  | 0, _, _ => 0
  | _ + 1, [], _ => 3
  | n + 1, _ :: r, f => bif decide (f = 0) then 2 else litE n r (f - 1)
def cpL : Nat → Nat → List U → List U
  | 0, _, out => out
  | m + 1, d, out => cpL m d (out ++ [U.at out (out.length - d)])
def uH (b : List U) (a : Int) : Int := (U.at b a.toNat).int / 16
def uL (b : List U) (a : Int) : Int := (U.at b a.toNat).int % 16
def uOk (b : List U) (a : Int) : Bool := hOk (uH b a) (b.drop (a + 1).toNat)
def uN (b : List U) (a : Int) : Int := hN (uH b a) (b.drop (a + 1).toNat)
def uA (b : List U) (a : Int) : Int := a + 1 + hK (uH b a) (b.drop (a + 1).toNat)
def uB (b : List U) (a : Int) : Int := uA b a + uN b a
def uOut (b : List U) (a : Int) (out : List U) : List U := out ++ (b.drop (uA b a).toNat).take (uN b a).toNat
def uD (b : List U) (a : Int) : Int := (U.at b (uB b a).toNat).int + 256 * (U.at b (uB b a + 1).toNat).int
def uBad (b : List U) (a : Int) (out : List U) : Bool := decide ((b.length : Int) < uB b a + 2) || (uD b a == 0) || decide (((uOut b a out).length : Int) < uD b a) || !(hOk (uL b a) (b.drop (uB b a + 2).toNat))
def uM (b : List U) (a : Int) : Int := hN (uL b a) (b.drop (uB b a + 2).toNat)
def uC (b : List U) (a : Int) : Int := uB b a + 2 + hK (uL b a) (b.drop (uB b a + 2).toNat)
def unp (b : List U) (room : Int) : Nat → Int → List U → Int × List U
  | 0, _, _ => (3, [])
  | f + 1, a, out => bif decide (a < (b.length : Int)) && uOk b a then
      bif litE (uN b a).toNat (b.drop (uA b a).toNat) (room - out.length).toNat == 0 then
        bif decide (uB b a = (b.length : Int)) then (0, uOut b a out) else
        bif uBad b a out then (3, []) else
        bif decide (room - (uOut b a out).length < uM b a + 4) then (2, []) else
        bif decide (uC b a = (b.length : Int)) then (0, cpL (uM b a + 4).toNat (uD b a).toNat (uOut b a out)) else unp b room f (uC b a) (cpL (uM b a + 4).toNat (uD b a).toNat (uOut b a out))
      else (litE (uN b a).toNat (b.drop (uA b a).toNat) (room - out.length).toNat, [])
    else (3, [])
def unpX (b : List U) (room : Int) : Int × List U := bif decide (room < 0) || decide (1048576 < room) then (1, []) else unp b room (b.length + 1) 0 []
def unpP : List (List U) → Prop := fun us => (nth (.i 0) (nth [] us 0) 0).list.length ≤ 1073741824
def unpS : List (List U) → List (List U) := fun us => [[.l (bif (unpX (nth (.i 0) (nth [] us 0) 0).list (nth (.i 0) (nth [] us 1) 0).int).1 == 0 then (unpX (nth (.i 0) (nth [] us 0) 0).list (nth (.i 0) (nth [] us 1) 0).int).2 else [])], [.i (unpX (nth (.i 0) (nth [] us 0) 0).list (nth (.i 0) (nth [] us 1) 0).int).1]]
abbrev lenV : SV := .clo 51 [.ptr 896 0]
abbrev uObjs (b : U) (a : Int) (xs : List U) : Objs := [(256, .box [vl (.int .u8) b]), (768, .box [vi (.i a)]), (896, .box [nextV 768 256]), (1276, .arr u8T xs)]
noncomputable def unpLoop0 : LoopF := fun _ svs os k => match svs, os with
  | [.ptr p7 o7, .clo g [.ptr pg og], .own o, .val (.int .i64) m, .ptr p6 o6, .ptr p2 o2], [.box [.val (.sl false [.int .u8]) b], .box [.val (.int .i64) a], .box [.clo f [.ptr pa oa, .ptr pb ob]], .arr e xs] =>
    (p7 = 896 ∧ o7 = 0 ∧ g = 51 ∧ pg = 896 ∧ og = 0 ∧ o = 1276 ∧ p6 = 768 ∧ o6 = 0 ∧ p2 = 256 ∧ o2 = 0 ∧ f = 50 ∧ pa = 768 ∧ oa = 0 ∧ pb = 256 ∧ ob = 0 ∧ e = u8T ∧ a = .i a.int ∧
      0 ≤ a.int ∧ a.int ≤ b.list.length ∧ b.list.length ≤ 1073741824 ∧ 0 ≤ m.int ∧ m.int ≤ 1048576 ∧ (xs.length : Int) ≤ m.int) ∧
    (bif (unp b.list m.int (b.list.length + 1 - a.int.toNat) a.int xs).1 == 0 then k .ret ⟨[(4, .own 1276), (5, vi (.i 0))], [(1276, .arr u8T (unp b.list m.int (b.list.length + 1 - a.int.toNat) a.int xs).2)]⟩
      else ∀ x : U, k .ret ⟨[(4, .own 636), (5, vi (.i (unp b.list m.int (b.list.length + 1 - a.int.toNat) a.int xs).1))], [(636, .arr u8T []), (1276, .arr u8T x.list)]⟩)
  | _, _ => False
noncomputable def unpLoop2 : LoopF := fun _ svs os k => match svs, os with
  | [.val (.int .i64) i, .val (.int .i64) n, .ptr p7 o7, .clo g [.ptr pg og], .own o, .val (.int .i64) m, .ptr p6 o6, .ptr p2 o2, .val (.int .u8) t], [.box [.val (.sl false [.int .u8]) b], .box [.val (.int .i64) a], .box [.clo f [.ptr pa oa, .ptr pb ob]], .arr e xs] =>
    (p7 = 896 ∧ o7 = 0 ∧ g = 51 ∧ pg = 896 ∧ og = 0 ∧ o = 1276 ∧ p6 = 768 ∧ o6 = 0 ∧ p2 = 256 ∧ o2 = 0 ∧ f = 50 ∧ pa = 768 ∧ oa = 0 ∧ pb = 256 ∧ ob = 0 ∧ e = u8T ∧ a = .i a.int ∧
      0 ≤ a.int ∧ a.int ≤ b.list.length ∧ b.list.length ≤ 1073741824 ∧ 0 ≤ m.int ∧ m.int ≤ 1048576 ∧ (xs.length : Int) ≤ m.int ∧ 0 ≤ i.int ∧ i.int ≤ n.int ∧ n.int ≤ 1099511627776) ∧
    (bif litE (n.int - i.int).toNat (b.list.drop a.int.toNat) (m.int - xs.length).toNat == 0 then
        k (.exit 2) ⟨[(7, .ptr 896 0), (8, lenV), (9, .own 1276), (1, vi m), (6, .ptr 768 0), (2, .ptr 256 0), (10, .val (.int .u8) t)], uObjs b (a.int + (n.int - i.int)) (xs ++ (b.list.drop a.int.toNat).take (n.int - i.int).toNat)⟩
      else ∀ x : U, k .ret ⟨[(4, .own 636), (5, vi (.i (litE (n.int - i.int).toNat (b.list.drop a.int.toNat) (m.int - xs.length).toNat)))], [(636, .arr u8T []), (1276, .arr u8T x.list)]⟩)
  | _, _ => False
noncomputable def unpLoop5 : LoopF := fun _ svs os k => match svs, os with
  | [.val (.int .i64) i, .val (.int .i64) n, .ptr p7 o7, .clo g [.ptr pg og], .own o, .val (.int .i64) m, .ptr p6 o6, .ptr p2 o2, .val (.int .i64) d], [.box [.val (.sl false [.int .u8]) b], .box [.val (.int .i64) a], .box [.clo f [.ptr pa oa, .ptr pb ob]], .arr e xs] =>
    (p7 = 896 ∧ o7 = 0 ∧ g = 51 ∧ pg = 896 ∧ og = 0 ∧ o = 1276 ∧ p6 = 768 ∧ o6 = 0 ∧ p2 = 256 ∧ o2 = 0 ∧ f = 50 ∧ pa = 768 ∧ oa = 0 ∧ pb = 256 ∧ ob = 0 ∧ e = u8T ∧ a = .i a.int ∧
      0 ≤ a.int ∧ a.int ≤ b.list.length ∧ b.list.length ≤ 1073741824 ∧ 0 ≤ m.int ∧ m.int ≤ 1048576 ∧ (xs.length : Int) ≤ m.int ∧ 0 ≤ i.int ∧ i.int ≤ n.int ∧ n.int ≤ 1099511627776 ∧ 1 ≤ d.int ∧ d.int ≤ (xs.length : Int)) ∧
    (bif decide (m.int - xs.length < n.int - i.int) then ∀ x : U, k .ret ⟨[(4, .own 636), (5, vi (.i 2))], [(636, .arr u8T []), (1276, .arr u8T x.list)]⟩
      else k (.exit 5) ⟨[(7, .ptr 896 0), (8, lenV), (9, .own 1276), (1, vi m), (6, .ptr 768 0), (2, .ptr 256 0)], uObjs b a.int (cpL (n.int - i.int).toNat d.int.toNat xs)⟩)
  | _, _ => False
noncomputable def unpC : Ctx := mkC PR eqs0 fnsNil (trsCons 50 [] nextF (trsCons 51 [] lenF trsNil))
  (loopCons 0 [7, 8, 9, 1, 6, 2] [256, 768, 896, 1276] unpLoop0 (loopCons 2 [45, 44, 7, 8, 9, 1, 6, 2, 10] [256, 768, 896, 1276] unpLoop2 (loopCons 5 [110, 109, 7, 8, 9, 1, 6, 2, 18] [256, 768, 896, 1276] unpLoop5 noLoops)))
  (outCons 1048576 [4, 5] [636, 1276] (outCons 1048578 [4, 5] [636, 1276] (outCons 1048581 [4, 5] [636, 1276] (outCons 2 [7, 8, 9, 1, 6, 2, 10] [256, 768, 896, 1276] (outCons 5 [7, 8, 9, 1, 6, 2] [256, 768, 896, 1276] noOut))))) noOut
def tH (b a : U) : Int := IntKind.wrap IntKind.i64 (Int.fdiv (U.int (nth (U.i 0) b.list (Int.toNat a.int))) ((2 : Int) ^ min (Int.toNat 4) (IntKind.bits IntKind.u8)))
def tA (b a : U) : Int := a.int + 1 + ((hK (tH b a) (List.drop (Int.toNat (a.int + 1)) b.list) : Nat) : Int)
def tN (b a : U) : Int := hN (tH b a) (List.drop (Int.toNat (a.int + 1)) b.list)
def tB (b a : U) : Int := tA b a + (tN b a - 0)
def tO (b a : U) (xs : List U) : List U := xs ++ List.take (Int.toNat (tN b a - 0)) (List.drop (Int.toNat (tA b a)) b.list)
def tL (b a : U) : Int := IntKind.wrap IntKind.i64 (IntKind.wrap IntKind.u8 ((BitVec.toNat (BitVec.ofInt (IntKind.bits IntKind.u8) (U.int (nth (U.i 0) b.list (Int.toNat a.int))) &&& BitVec.ofInt (IntKind.bits IntKind.u8) 15) : Nat) : Int))
def tD (b a : U) : Int := IntKind.wrap IntKind.i64 ((BitVec.toNat (BitVec.ofInt (IntKind.bits IntKind.i64) (IntKind.wrap IntKind.i64 (U.int (nth (U.i 0) b.list (Int.toNat (tB b a))))) ||| BitVec.ofInt (IntKind.bits IntKind.i64) (IntKind.wrap IntKind.i64 (IntKind.wrap IntKind.i64 (U.int (nth (U.i 0) b.list (Int.toNat (tB b a + 1)))) * 2 ^ min (Int.toNat 8) (IntKind.bits IntKind.i64)))) : Nat) : Int)
def tC (b a : U) : Int := tB b a + 1 + 1 + ((hK (tL b a) (List.drop (Int.toNat (tB b a + 1 + 1)) b.list) : Nat) : Int)
def tM (b a : U) : Int := IntKind.wrap IntKind.i64 (hN (tL b a) (List.drop (Int.toNat (tB b a + 1 + 1)) b.list) + 4)
def tP (b a : U) (xs : List U) : List U := cpL (Int.toNat (tM b a - 0)) (Int.toNat (tD b a)) (tO b a xs)
theorem unp_round2 (pan : KP) (μ : Mu) (N : Nat) (k : KE) (i n m t b a : U) (xs : List U) : (exec (unpC.panics pan) (loopBody Try.f25 1) 2 ⟨[(45, vi i), (44, vi n), (7, .ptr 896 0), (8, lenV), (9, .own 1276), (1, vi m), (6, .ptr 768 0), (2, .ptr 256 0), (10, .val (.int .u8) t)], [(256, .box [vl (.int .u8) b]), (768, .box [vi a]), (896, .box [nextV 768 256]), (1276, .arr u8T xs)]⟩ (again PR (some ([7, 8, 9, 1, 6, 2, 10], [256, 768, 896, 1276])) (some ([4, 5], [636, 1276])) pan [45, 44, 7, 8, 9, 1, 6, 2, 10] [256, 768, 896, 1276] unpLoop2 μ N k)) = (bif decide (i.int < n.int) then (2097153 = nat_lit 2097153 ∧ nat_lit 0 = nat_lit 0 ∧ nat_lit 2097281 = nat_lit 2097281 ∧ nat_lit 0 = nat_lit 0 ∧ nat_lit 2097153 = nat_lit 2097153 ∧ nat_lit 2097281 = nat_lit 2097281 ∧ (0:Int) ≤ a.int ∧ b.list.length ≤ (1099511627776:Nat)) ∧ bif decide (a.int < (b.list.length:Int)) then bif (xs.length:Int) == m.int then k Ex.ret (St.mk [(4,.own 636),(5,vi (U.i 2))] [(636,.arr 5 []),(1276,.arr 5 xs)]) else bif decide (List.length xs + 1 ≤ room) && true then bif Nat.blt (μ [vi (U.i (IntKind.wrap .i64 (i.int + 1))),vi n,.ptr 896 0,.clo 51 [.ptr 896 0],.own 1276,vi m,.ptr 768 0,.ptr 256 0,.val (.int .u8) t] [.box [.val (.sl false [.int .u8]) b],.box [vi (U.i (a.int + 1))],.box [.clo 50 [.ptr 768 0,.ptr 256 0]],.arr 5 (xs ++ [nth (U.i 0) b.list (Int.toNat a.int)])]) N then (896 = nat_lit 896 ∧ nat_lit 0 = nat_lit 0 ∧ nat_lit 51 = nat_lit 51 ∧ nat_lit 896 = nat_lit 896 ∧ nat_lit 0 = nat_lit 0 ∧ nat_lit 1276 = nat_lit 1276 ∧ nat_lit 768 = nat_lit 768 ∧ nat_lit 0 = nat_lit 0 ∧ nat_lit 256 = nat_lit 256 ∧ nat_lit 0 = nat_lit 0 ∧ nat_lit 50 = nat_lit 50 ∧ nat_lit 768 = nat_lit 768 ∧ nat_lit 0 = nat_lit 0 ∧ nat_lit 256 = nat_lit 256 ∧ nat_lit 0 = nat_lit 0 ∧ nat_lit 5 = nat_lit 5 ∧ U.i (a.int + 1) = U.i (a.int + 1) ∧ (0:Int) ≤ a.int + 1 ∧ a.int + (1:Int) ≤ (b.list.length:Int) ∧ b.list.length ≤ (1073741824:Nat) ∧ (0:Int) ≤ m.int ∧ m.int ≤ 1048576 ∧ (↑(List.length (xs ++ [nth (U.i 0) b.list (Int.toNat a.int)])):Int) ≤ m.int ∧ (0:Int) ≤ IntKind.wrap .i64 (i.int + 1) ∧ IntKind.wrap .i64 (i.int + 1) ≤ n.int ∧ n.int ≤ 1099511627776) ∧ bif litE (Int.toNat (n.int - IntKind.wrap .i64 (i.int + 1))) (List.drop (Int.toNat (a.int + 1)) b.list) (Int.toNat (m.int - (↑(List.length (xs ++ [nth (U.i 0) b.list (Int.toNat a.int)])):Int))) == 0 then k (Ex.exit 2) (St.mk [(7,.ptr 896 0),(8,.clo 51 [.ptr 896 0]),(9,.own 1276),(1,vi m),(6,.ptr 768 0),(2,.ptr 256 0),(10,.val (.int .u8) t)] [(256,.box [.val (.sl false [.int .u8]) b]),(768,.box [vi (U.i (a.int + 1 + (n.int - IntKind.wrap .i64 (i.int + 1))))]),(896,.box [.clo 50 [.ptr 768 0,.ptr 256 0]]),(1276,.arr 5 (xs ++ [nth (U.i 0) b.list (Int.toNat a.int)] ++ List.take (Int.toNat (n.int - IntKind.wrap .i64 (i.int + 1))) (List.drop (Int.toNat (a.int + 1)) b.list)))]) else ∀ (x : U),k Ex.ret (St.mk [(4,.own 636),(5,vi (U.i (litE (Int.toNat (n.int - IntKind.wrap .i64 (i.int + 1))) (List.drop (Int.toNat (a.int + 1)) b.list) (Int.toNat (m.int - (↑(List.length (xs ++ [nth (U.i 0) b.list (Int.toNat a.int)])):Int))))))] [(636,.arr 5 []),(1276,.arr 5 x.list)]) else False else False else k Ex.ret (St.mk [(4,.own 636),(5,vi (U.i 3))] [(636,.arr 5 []),(1276,.arr 5 xs)]) else k (Ex.exit 2) (St.mk [(7,.ptr 896 0),(8,.clo 51 [.ptr 896 0]),(9,.own 1276),(1,vi m),(6,.ptr 768 0),(2,.ptr 256 0),(10,.val (.int .u8) t)] [(256,.box [.val (.sl false [.int .u8]) b]),(768,.box [vi a]),(896,.box [.clo 50 [.ptr 768 0,.ptr 256 0]]),(1276,.arr 5 xs)])) := by kernel_rfl
theorem unp_round5 (pan : KP) (μ : Mu) (N : Nat) (k : KE) (i n m d b a : U) (xs : List U) : (exec (unpC.panics pan) (loopBody Try.f25 2) 5 ⟨[(110, vi i), (109, vi n), (7, .ptr 896 0), (8, lenV), (9, .own 1276), (1, vi m), (6, .ptr 768 0), (2, .ptr 256 0), (18, vi d)], [(256, .box [vl (.int .u8) b]), (768, .box [vi a]), (896, .box [nextV 768 256]), (1276, .arr u8T xs)]⟩ (again PR (some ([7, 8, 9, 1, 6, 2], [256, 768, 896, 1276])) (some ([4, 5], [636, 1276])) pan [110, 109, 7, 8, 9, 1, 6, 2, 18] [256, 768, 896, 1276] unpLoop5 μ N k)) = (bif decide (i.int < n.int) then bif (xs.length:Int) == m.int then k Ex.ret (St.mk [(4,.own 636),(5,vi (U.i 2))] [(636,.arr 5 []),(1276,.arr 5 xs)]) else bif decide ((0:Int) ≤ IntKind.wrap .i64 ((xs.length:Int) - d.int) ∧ IntKind.wrap .i64 ((xs.length:Int) - d.int) < (xs.length:Int)) then bif Nat.blt (Int.toNat (IntKind.wrap .i64 ((xs.length:Int) - d.int))) (List.length xs) then bif decide (List.length xs + 1 ≤ room) && true then bif Nat.blt (μ [vi (U.i (IntKind.wrap .i64 (i.int + 1))),vi n,.ptr 896 0,.clo 51 [.ptr 896 0],.own 1276,vi m,.ptr 768 0,.ptr 256 0,vi d] [.box [.val (.sl false [.int .u8]) b],.box [vi a],.box [.clo 50 [.ptr 768 0,.ptr 256 0]],.arr 5 (xs ++ [nth (U.i 0) xs (Int.toNat (IntKind.wrap .i64 ((xs.length:Int) - d.int)))])]) N then (896 = nat_lit 896 ∧ nat_lit 0 = nat_lit 0 ∧ nat_lit 51 = nat_lit 51 ∧ nat_lit 896 = nat_lit 896 ∧ nat_lit 0 = nat_lit 0 ∧ nat_lit 1276 = nat_lit 1276 ∧ nat_lit 768 = nat_lit 768 ∧ nat_lit 0 = nat_lit 0 ∧ nat_lit 256 = nat_lit 256 ∧ nat_lit 0 = nat_lit 0 ∧ nat_lit 50 = nat_lit 50 ∧ nat_lit 768 = nat_lit 768 ∧ nat_lit 0 = nat_lit 0 ∧ nat_lit 256 = nat_lit 256 ∧ nat_lit 0 = nat_lit 0 ∧ nat_lit 5 = nat_lit 5 ∧ a = U.i a.int ∧ (0:Int) ≤ a.int ∧ a.int ≤ (b.list.length:Int) ∧ b.list.length ≤ (1073741824:Nat) ∧ (0:Int) ≤ m.int ∧ m.int ≤ 1048576 ∧ (↑(List.length (xs ++ [nth (U.i 0) xs (Int.toNat (IntKind.wrap .i64 ((xs.length:Int) - d.int)))])):Int) ≤ m.int ∧ (0:Int) ≤ IntKind.wrap .i64 (i.int + 1) ∧ IntKind.wrap .i64 (i.int + 1) ≤ n.int ∧ n.int ≤ 1099511627776 ∧ (1:Int) ≤ d.int ∧ d.int ≤ (↑(List.length (xs ++ [nth (U.i 0) xs (Int.toNat (IntKind.wrap .i64 ((xs.length:Int) - d.int)))])):Int)) ∧ bif decide (m.int - (↑(List.length (xs ++ [nth (U.i 0) xs (Int.toNat (IntKind.wrap .i64 ((xs.length:Int) - d.int)))])):Int) < n.int - IntKind.wrap .i64 (i.int + 1)) then ∀ (x : U),k Ex.ret (St.mk [(4,.own 636),(5,vi (U.i 2))] [(636,.arr 5 []),(1276,.arr 5 x.list)]) else k (Ex.exit 5) (St.mk [(7,.ptr 896 0),(8,.clo 51 [.ptr 896 0]),(9,.own 1276),(1,vi m),(6,.ptr 768 0),(2,.ptr 256 0)] [(256,.box [.val (.sl false [.int .u8]) b]),(768,.box [vi (U.i a.int)]),(896,.box [.clo 50 [.ptr 768 0,.ptr 256 0]]),(1276,.arr 5 (cpL (Int.toNat (n.int - IntKind.wrap .i64 (i.int + 1))) (Int.toNat d.int) (xs ++ [nth (U.i 0) xs (Int.toNat (IntKind.wrap .i64 ((xs.length:Int) - d.int)))])))]) else False else False else False else False else k (Ex.exit 5) (St.mk [(7,.ptr 896 0),(8,.clo 51 [.ptr 896 0]),(9,.own 1276),(1,vi m),(6,.ptr 768 0),(2,.ptr 256 0)] [(256,.box [.val (.sl false [.int .u8]) b]),(768,.box [vi a]),(896,.box [.clo 50 [.ptr 768 0,.ptr 256 0]]),(1276,.arr 5 xs)])) := by kernel_rfl
theorem unp_round0 (pan : KP) (μ : Mu) (N : Nat) (k : KE) (m b a : U) (xs : List U) : (exec (unpC.panics pan) (loopBody Try.f25 0) 0 ⟨[(7, .ptr 896 0), (8, lenV), (9, .own 1276), (1, vi m), (6, .ptr 768 0), (2, .ptr 256 0)], [(256, .box [vl (.int .u8) b]), (768, .box [vi a]), (896, .box [nextV 768 256]), (1276, .arr u8T xs)]⟩ (again PR none (some ([4, 5], [636, 1276])) pan [7, 8, 9, 1, 6, 2] [256, 768, 896, 1276] unpLoop0 μ N k)) = ((2097153 = nat_lit 2097153 ∧ nat_lit 0 = nat_lit 0 ∧ nat_lit 2097281 = nat_lit 2097281 ∧ nat_lit 0 = nat_lit 0 ∧ nat_lit 2097153 = nat_lit 2097153 ∧ nat_lit 2097281 = nat_lit 2097281 ∧ (0:Int) ≤ a.int ∧ b.list.length ≤ (1099511627776:Nat)) ∧ bif decide (a.int < (b.list.length:Int)) then (2097153 = nat_lit 2097153 ∧ nat_lit 0 = nat_lit 0 ∧ nat_lit 50 = nat_lit 50 ∧ nat_lit 2097281 = nat_lit 2097281 ∧ nat_lit 0 = nat_lit 0 ∧ nat_lit 2097409 = nat_lit 2097409 ∧ nat_lit 0 = nat_lit 0 ∧ nat_lit 2097153 = nat_lit 2097153 ∧ nat_lit 2097281 = nat_lit 2097281 ∧ nat_lit 2097409 = nat_lit 2097409 ∧ U.i (tH b a) = U.i (tH b a) ∧ U.i (a.int + 1) = U.i (a.int + 1) ∧ (0:Int) ≤ a.int + 1 ∧ a.int + (1:Int) ≤ (b.list.length:Int) ∧ b.list.length ≤ (1099511627776:Nat) ∧ (0:Int) ≤ tH b a ∧ tH b a ≤ 15) ∧ bif hOk (tH b a) (List.drop (Int.toNat (a.int + 1)) b.list) then (896 = nat_lit 896 ∧ nat_lit 0 = nat_lit 0 ∧ nat_lit 51 = nat_lit 51 ∧ nat_lit 896 = nat_lit 896 ∧ nat_lit 0 = nat_lit 0 ∧ nat_lit 1276 = nat_lit 1276 ∧ nat_lit 768 = nat_lit 768 ∧ nat_lit 0 = nat_lit 0 ∧ nat_lit 256 = nat_lit 256 ∧ nat_lit 0 = nat_lit 0 ∧ nat_lit 50 = nat_lit 50 ∧ nat_lit 768 = nat_lit 768 ∧ nat_lit 0 = nat_lit 0 ∧ nat_lit 256 = nat_lit 256 ∧ nat_lit 0 = nat_lit 0 ∧ nat_lit 5 = nat_lit 5 ∧ U.i (tA b a) = U.i (tA b a) ∧ (0:Int) ≤ tA b a ∧ tA b a ≤ (b.list.length:Int) ∧ b.list.length ≤ (1073741824:Nat) ∧ (0:Int) ≤ m.int ∧ m.int ≤ 1048576 ∧ (xs.length:Int) ≤ m.int ∧ (0:Int) ≤ 0 ∧ (0:Int) ≤ tN b a ∧ tN b a ≤ 1099511627776) ∧ bif litE (Int.toNat (tN b a - 0)) (List.drop (Int.toNat (tA b a)) b.list) (Int.toNat (m.int - (xs.length:Int))) == 0 then bif tB b a == (b.list.length:Int) then k Ex.ret (St.mk [(4,.own 1276),(5,vi (U.i 0))] [(1276,.arr 5 (tO b a xs))]) else (2097153 = nat_lit 2097153 ∧ nat_lit 0 = nat_lit 0 ∧ nat_lit 2097281 = nat_lit 2097281 ∧ nat_lit 0 = nat_lit 0 ∧ nat_lit 2097153 = nat_lit 2097153 ∧ nat_lit 2097281 = nat_lit 2097281 ∧ (0:Int) ≤ tB b a ∧ b.list.length ≤ (1099511627776:Nat)) ∧ bif decide (tB b a < (b.list.length:Int)) then (2097153 = nat_lit 2097153 ∧ nat_lit 0 = nat_lit 0 ∧ nat_lit 2097281 = nat_lit 2097281 ∧ nat_lit 0 = nat_lit 0 ∧ nat_lit 2097153 = nat_lit 2097153 ∧ nat_lit 2097281 = nat_lit 2097281 ∧ (0:Int) ≤ tB b a + 1 ∧ b.list.length ≤ (1099511627776:Nat)) ∧ bif decide (tB b a + (1:Int) < (b.list.length:Int)) then bif tD b a == 0 then k Ex.ret (St.mk [(4,.own 636),(5,vi (U.i 3))] [(636,.arr 5 []),(1276,.arr 5 (tO b a xs))]) else bif decide (tD b a > (↑(List.length (tO b a xs)):Int)) then k Ex.ret (St.mk [(4,.own 636),(5,vi (U.i 3))] [(636,.arr 5 []),(1276,.arr 5 (tO b a xs))]) else (2097153 = nat_lit 2097153 ∧ nat_lit 0 = nat_lit 0 ∧ nat_lit 50 = nat_lit 50 ∧ nat_lit 2097281 = nat_lit 2097281 ∧ nat_lit 0 = nat_lit 0 ∧ nat_lit 2097409 = nat_lit 2097409 ∧ nat_lit 0 = nat_lit 0 ∧ nat_lit 2097153 = nat_lit 2097153 ∧ nat_lit 2097281 = nat_lit 2097281 ∧ nat_lit 2097409 = nat_lit 2097409 ∧ U.i (tL b a) = U.i (tL b a) ∧ U.i (tB b a + 1 + 1) = U.i (tB b a + 1 + 1) ∧ (0:Int) ≤ tB b a + 1 + 1 ∧ tB b a + 1 + (1:Int) ≤ (b.list.length:Int) ∧ b.list.length ≤ (1099511627776:Nat) ∧ (0:Int) ≤ tL b a ∧ tL b a ≤ 15) ∧ bif hOk (tL b a) (List.drop (Int.toNat (tB b a + 1 + 1)) b.list) then (896 = nat_lit 896 ∧ nat_lit 0 = nat_lit 0 ∧ nat_lit 51 = nat_lit 51 ∧ nat_lit 896 = nat_lit 896 ∧ nat_lit 0 = nat_lit 0 ∧ nat_lit 1276 = nat_lit 1276 ∧ nat_lit 768 = nat_lit 768 ∧ nat_lit 0 = nat_lit 0 ∧ nat_lit 256 = nat_lit 256 ∧ nat_lit 0 = nat_lit 0 ∧ nat_lit 50 = nat_lit 50 ∧ nat_lit 768 = nat_lit 768 ∧ nat_lit 0 = nat_lit 0 ∧ nat_lit 256 = nat_lit 256 ∧ nat_lit 0 = nat_lit 0 ∧ nat_lit 5 = nat_lit 5 ∧ U.i (tC b a) = U.i (tC b a) ∧ (0:Int) ≤ tC b a ∧ tC b a ≤ (b.list.length:Int) ∧ b.list.length ≤ (1073741824:Nat) ∧ (0:Int) ≤ m.int ∧ m.int ≤ 1048576 ∧ (↑(List.length (tO b a xs)):Int) ≤ m.int ∧ (0:Int) ≤ 0 ∧ (0:Int) ≤ tM b a ∧ tM b a ≤ 1099511627776 ∧ (1:Int) ≤ tD b a ∧ tD b a ≤ (↑(List.length (tO b a xs)):Int)) ∧ bif decide (m.int - (↑(List.length (tO b a xs)):Int) < tM b a - 0) then ∀ (x : U),k Ex.ret (St.mk [(4,.own 636),(5,vi (U.i 2))] [(636,.arr 5 []),(1276,.arr 5 x.list)]) else bif tC b a == (b.list.length:Int) then k Ex.ret (St.mk [(4,.own 1276),(5,vi (U.i 0))] [(1276,.arr 5 (tP b a xs))]) else bif Nat.blt (μ [.ptr 896 0,.clo 51 [.ptr 896 0],.own 1276,vi m,.ptr 768 0,.ptr 256 0] [.box [.val (.sl false [.int .u8]) b],.box [vi (U.i (tC b a))],.box [.clo 50 [.ptr 768 0,.ptr 256 0]],.arr 5 (tP b a xs)]) N then (896 = nat_lit 896 ∧ nat_lit 0 = nat_lit 0 ∧ nat_lit 51 = nat_lit 51 ∧ nat_lit 896 = nat_lit 896 ∧ nat_lit 0 = nat_lit 0 ∧ nat_lit 1276 = nat_lit 1276 ∧ nat_lit 768 = nat_lit 768 ∧ nat_lit 0 = nat_lit 0 ∧ nat_lit 256 = nat_lit 256 ∧ nat_lit 0 = nat_lit 0 ∧ nat_lit 50 = nat_lit 50 ∧ nat_lit 768 = nat_lit 768 ∧ nat_lit 0 = nat_lit 0 ∧ nat_lit 256 = nat_lit 256 ∧ nat_lit 0 = nat_lit 0 ∧ nat_lit 5 = nat_lit 5 ∧ U.i (tC b a) = U.i (tC b a) ∧ (0:Int) ≤ tC b a ∧ tC b a ≤ (b.list.length:Int) ∧ b.list.length ≤ (1073741824:Nat) ∧ (0:Int) ≤ m.int ∧ m.int ≤ 1048576 ∧ (↑(List.length (tP b a xs)):Int) ≤ m.int) ∧ bif Prod.fst (unp b.list m.int (b.list.length + (1:Nat) - Int.toNat (tC b a)) (tC b a) (tP b a xs)) == 0 then k Ex.ret (St.mk [(4,.own 1276),(5,vi (U.i 0))] [(1276,.arr 5 (Prod.snd (unp b.list m.int (b.list.length + (1:Nat) - Int.toNat (tC b a)) (tC b a) (tP b a xs))))]) else ∀ (x : U),k Ex.ret (St.mk [(4,.own 636),(5,vi (U.i (Prod.fst (unp b.list m.int (b.list.length + (1:Nat) - Int.toNat (tC b a)) (tC b a) (tP b a xs)))))] [(636,.arr 5 []),(1276,.arr 5 x.list)]) else False else ∀ (x : U),k Ex.ret (St.mk [(4,.own 636),(5,vi (U.i 3))] [(636,.arr 5 []),(1276,.arr 5 (tO b a xs))]) else k Ex.ret (St.mk [(4,.own 636),(5,vi (U.i 3))] [(636,.arr 5 []),(1276,.arr 5 (tO b a xs))]) else (2097153 = nat_lit 2097153 ∧ nat_lit 0 = nat_lit 0 ∧ nat_lit 2097281 = nat_lit 2097281 ∧ nat_lit 0 = nat_lit 0 ∧ nat_lit 2097153 = nat_lit 2097153 ∧ nat_lit 2097281 = nat_lit 2097281 ∧ (0:Int) ≤ tB b a ∧ b.list.length ≤ (1099511627776:Nat)) ∧ bif decide (tB b a < (b.list.length:Int)) then bif IntKind.wrap .i64 (↑(BitVec.toNat (BitVec.ofInt (IntKind.bits IntKind.i64) (IntKind.wrap .i64 0) ||| BitVec.ofInt (IntKind.bits IntKind.i64) (IntKind.wrap .i64 (IntKind.wrap .i64 (U.int (nth (U.i 0) b.list (Int.toNat (tB b a)))) * 2 ^ min (Int.toNat 8) (IntKind.bits IntKind.i64))))):Int) == 0 then k Ex.ret (St.mk [(4,.own 636),(5,vi (U.i 3))] [(636,.arr 5 []),(1276,.arr 5 (tO b a xs))]) else bif decide (IntKind.wrap .i64 (↑(BitVec.toNat (BitVec.ofInt (IntKind.bits IntKind.i64) (IntKind.wrap .i64 0) ||| BitVec.ofInt (IntKind.bits IntKind.i64) (IntKind.wrap .i64 (IntKind.wrap .i64 (U.int (nth (U.i 0) b.list (Int.toNat (tB b a)))) * 2 ^ min (Int.toNat 8) (IntKind.bits IntKind.i64))))):Int) > (↑(List.length (tO b a xs)):Int)) then k Ex.ret (St.mk [(4,.own 636),(5,vi (U.i 3))] [(636,.arr 5 []),(1276,.arr 5 (tO b a xs))]) else (2097153 = nat_lit 2097153 ∧ nat_lit 0 = nat_lit 0 ∧ nat_lit 50 = nat_lit 50 ∧ nat_lit 2097281 = nat_lit 2097281 ∧ nat_lit 0 = nat_lit 0 ∧ nat_lit 2097409 = nat_lit 2097409 ∧ nat_lit 0 = nat_lit 0 ∧ nat_lit 2097153 = nat_lit 2097153 ∧ nat_lit 2097281 = nat_lit 2097281 ∧ nat_lit 2097409 = nat_lit 2097409 ∧ U.i (tL b a) = U.i (tL b a) ∧ U.i (tB b a + 1) = U.i (tB b a + 1) ∧ (0:Int) ≤ tB b a + 1 ∧ tB b a + (1:Int) ≤ (b.list.length:Int) ∧ b.list.length ≤ (1099511627776:Nat) ∧ (0:Int) ≤ tL b a ∧ tL b a ≤ 15) ∧ bif hOk (tL b a) (List.drop (Int.toNat (tB b a + 1)) b.list) then (896 = nat_lit 896 ∧ nat_lit 0 = nat_lit 0 ∧ nat_lit 51 = nat_lit 51 ∧ nat_lit 896 = nat_lit 896 ∧ nat_lit 0 = nat_lit 0 ∧ nat_lit 1276 = nat_lit 1276 ∧ nat_lit 768 = nat_lit 768 ∧ nat_lit 0 = nat_lit 0 ∧ nat_lit 256 = nat_lit 256 ∧ nat_lit 0 = nat_lit 0 ∧ nat_lit 50 = nat_lit 50 ∧ nat_lit 768 = nat_lit 768 ∧ nat_lit 0 = nat_lit 0 ∧ nat_lit 256 = nat_lit 256 ∧ nat_lit 0 = nat_lit 0 ∧ nat_lit 5 = nat_lit 5 ∧ U.i (tB b a + 1 + (↑(hK (tL b a) (List.drop (Int.toNat (tB b a + 1)) b.list)):Int)) = U.i (tB b a + 1 + (↑(hK (tL b a) (List.drop (Int.toNat (tB b a + 1)) b.list)):Int)) ∧ (0:Int) ≤ tB b a + 1 + (↑(hK (tL b a) (List.drop (Int.toNat (tB b a + 1)) b.list)):Int) ∧ tB b a + 1 + (↑(hK (tL b a) (List.drop (Int.toNat (tB b a + 1)) b.list)):Int) ≤ (b.list.length:Int) ∧ b.list.length ≤ (1073741824:Nat) ∧ (0:Int) ≤ m.int ∧ m.int ≤ 1048576 ∧ (↑(List.length (tO b a xs)):Int) ≤ m.int ∧ (0:Int) ≤ 0 ∧ (0:Int) ≤ IntKind.wrap .i64 (hN (tL b a) (List.drop (Int.toNat (tB b a + 1)) b.list) + 4) ∧ IntKind.wrap .i64 (hN (tL b a) (List.drop (Int.toNat (tB b a + 1)) b.list) + 4) ≤ 1099511627776 ∧ (1:Int) ≤ IntKind.wrap .i64 (↑(BitVec.toNat (BitVec.ofInt (IntKind.bits IntKind.i64) (IntKind.wrap .i64 0) ||| BitVec.ofInt (IntKind.bits IntKind.i64) (IntKind.wrap .i64 (IntKind.wrap .i64 (U.int (nth (U.i 0) b.list (Int.toNat (tB b a)))) * 2 ^ min (Int.toNat 8) (IntKind.bits IntKind.i64))))):Int) ∧ IntKind.wrap .i64 (↑(BitVec.toNat (BitVec.ofInt (IntKind.bits IntKind.i64) (IntKind.wrap .i64 0) ||| BitVec.ofInt (IntKind.bits IntKind.i64) (IntKind.wrap .i64 (IntKind.wrap .i64 (U.int (nth (U.i 0) b.list (Int.toNat (tB b a)))) * 2 ^ min (Int.toNat 8) (IntKind.bits IntKind.i64))))):Int) ≤ (↑(List.length (tO b a xs)):Int)) ∧ bif decide (m.int - (↑(List.length (tO b a xs)):Int) < IntKind.wrap .i64 (hN (tL b a) (List.drop (Int.toNat (tB b a + 1)) b.list) + 4) - 0) then ∀ (x : U),k Ex.ret (St.mk [(4,.own 636),(5,vi (U.i 2))] [(636,.arr 5 []),(1276,.arr 5 x.list)]) else bif tB b a + 1 + (↑(hK (tL b a) (List.drop (Int.toNat (tB b a + 1)) b.list)):Int) == (b.list.length:Int) then k Ex.ret (St.mk [(4,.own 1276),(5,vi (U.i 0))] [(1276,.arr 5 (cpL (Int.toNat (IntKind.wrap .i64 (hN (tL b a) (List.drop (Int.toNat (tB b a + 1)) b.list) + 4) - 0)) (Int.toNat (IntKind.wrap .i64 (↑(BitVec.toNat (BitVec.ofInt (IntKind.bits IntKind.i64) (IntKind.wrap .i64 0) ||| BitVec.ofInt (IntKind.bits IntKind.i64) (IntKind.wrap .i64 (IntKind.wrap .i64 (U.int (nth (U.i 0) b.list (Int.toNat (tB b a)))) * 2 ^ min (Int.toNat 8) (IntKind.bits IntKind.i64))))):Int))) (tO b a xs)))]) else bif Nat.blt (μ [.ptr 896 0,.clo 51 [.ptr 896 0],.own 1276,vi m,.ptr 768 0,.ptr 256 0] [.box [.val (.sl false [.int .u8]) b],.box [vi (U.i (tB b a + 1 + (↑(hK (tL b a) (List.drop (Int.toNat (tB b a + 1)) b.list)):Int)))],.box [.clo 50 [.ptr 768 0,.ptr 256 0]],.arr 5 (cpL (Int.toNat (IntKind.wrap .i64 (hN (tL b a) (List.drop (Int.toNat (tB b a + 1)) b.list) + 4) - 0)) (Int.toNat (IntKind.wrap .i64 (↑(BitVec.toNat (BitVec.ofInt (IntKind.bits IntKind.i64) (IntKind.wrap .i64 0) ||| BitVec.ofInt (IntKind.bits IntKind.i64) (IntKind.wrap .i64 (IntKind.wrap .i64 (U.int (nth (U.i 0) b.list (Int.toNat (tB b a)))) * 2 ^ min (Int.toNat 8) (IntKind.bits IntKind.i64))))):Int))) (tO b a xs))]) N then (896 = nat_lit 896 ∧ nat_lit 0 = nat_lit 0 ∧ nat_lit 51 = nat_lit 51 ∧ nat_lit 896 = nat_lit 896 ∧ nat_lit 0 = nat_lit 0 ∧ nat_lit 1276 = nat_lit 1276 ∧ nat_lit 768 = nat_lit 768 ∧ nat_lit 0 = nat_lit 0 ∧ nat_lit 256 = nat_lit 256 ∧ nat_lit 0 = nat_lit 0 ∧ nat_lit 50 = nat_lit 50 ∧ nat_lit 768 = nat_lit 768 ∧ nat_lit 0 = nat_lit 0 ∧ nat_lit 256 = nat_lit 256 ∧ nat_lit 0 = nat_lit 0 ∧ nat_lit 5 = nat_lit 5 ∧ U.i (tB b a + 1 + (↑(hK (tL b a) (List.drop (Int.toNat (tB b a + 1)) b.list)):Int)) = U.i (tB b a + 1 + (↑(hK (tL b a) (List.drop (Int.toNat (tB b a + 1)) b.list)):Int)) ∧ (0:Int) ≤ tB b a + 1 + (↑(hK (tL b a) (List.drop (Int.toNat (tB b a + 1)) b.list)):Int) ∧ tB b a + 1 + (↑(hK (tL b a) (List.drop (Int.toNat (tB b a + 1)) b.list)):Int) ≤ (b.list.length:Int) ∧ b.list.length ≤ (1073741824:Nat) ∧ (0:Int) ≤ m.int ∧ m.int ≤ 1048576 ∧ (↑(List.length (cpL (Int.toNat (IntKind.wrap .i64 (hN (tL b a) (List.drop (Int.toNat (tB b a + 1)) b.list) + 4) - 0)) (Int.toNat (IntKind.wrap .i64 (↑(BitVec.toNat (BitVec.ofInt (IntKind.bits IntKind.i64) (IntKind.wrap .i64 0) ||| BitVec.ofInt (IntKind.bits IntKind.i64) (IntKind.wrap .i64 (IntKind.wrap .i64 (U.int (nth (U.i 0) b.list (Int.toNat (tB b a)))) * 2 ^ min (Int.toNat 8) (IntKind.bits IntKind.i64))))):Int))) (tO b a xs))):Int) ≤ m.int) ∧ bif Prod.fst (unp b.list m.int (b.list.length + (1:Nat) - Int.toNat (tB b a + 1 + (↑(hK (tL b a) (List.drop (Int.toNat (tB b a + 1)) b.list)):Int))) (tB b a + 1 + (↑(hK (tL b a) (List.drop (Int.toNat (tB b a + 1)) b.list)):Int)) (cpL (Int.toNat (IntKind.wrap .i64 (hN (tL b a) (List.drop (Int.toNat (tB b a + 1)) b.list) + 4) - 0)) (Int.toNat (IntKind.wrap .i64 (↑(BitVec.toNat (BitVec.ofInt (IntKind.bits IntKind.i64) (IntKind.wrap .i64 0) ||| BitVec.ofInt (IntKind.bits IntKind.i64) (IntKind.wrap .i64 (IntKind.wrap .i64 (U.int (nth (U.i 0) b.list (Int.toNat (tB b a)))) * 2 ^ min (Int.toNat 8) (IntKind.bits IntKind.i64))))):Int))) (tO b a xs))) == 0 then k Ex.ret (St.mk [(4,.own 1276),(5,vi (U.i 0))] [(1276,.arr 5 (Prod.snd (unp b.list m.int (b.list.length + (1:Nat) - Int.toNat (tB b a + 1 + (↑(hK (tL b a) (List.drop (Int.toNat (tB b a + 1)) b.list)):Int))) (tB b a + 1 + (↑(hK (tL b a) (List.drop (Int.toNat (tB b a + 1)) b.list)):Int)) (cpL (Int.toNat (IntKind.wrap .i64 (hN (tL b a) (List.drop (Int.toNat (tB b a + 1)) b.list) + 4) - 0)) (Int.toNat (IntKind.wrap .i64 (↑(BitVec.toNat (BitVec.ofInt (IntKind.bits IntKind.i64) (IntKind.wrap .i64 0) ||| BitVec.ofInt (IntKind.bits IntKind.i64) (IntKind.wrap .i64 (IntKind.wrap .i64 (U.int (nth (U.i 0) b.list (Int.toNat (tB b a)))) * 2 ^ min (Int.toNat 8) (IntKind.bits IntKind.i64))))):Int))) (tO b a xs)))))]) else ∀ (x : U),k Ex.ret (St.mk [(4,.own 636),(5,vi (U.i (Prod.fst (unp b.list m.int (b.list.length + (1:Nat) - Int.toNat (tB b a + 1 + (↑(hK (tL b a) (List.drop (Int.toNat (tB b a + 1)) b.list)):Int))) (tB b a + 1 + (↑(hK (tL b a) (List.drop (Int.toNat (tB b a + 1)) b.list)):Int)) (cpL (Int.toNat (IntKind.wrap .i64 (hN (tL b a) (List.drop (Int.toNat (tB b a + 1)) b.list) + 4) - 0)) (Int.toNat (IntKind.wrap .i64 (↑(BitVec.toNat (BitVec.ofInt (IntKind.bits IntKind.i64) (IntKind.wrap .i64 0) ||| BitVec.ofInt (IntKind.bits IntKind.i64) (IntKind.wrap .i64 (IntKind.wrap .i64 (U.int (nth (U.i 0) b.list (Int.toNat (tB b a)))) * 2 ^ min (Int.toNat 8) (IntKind.bits IntKind.i64))))):Int))) (tO b a xs))))))] [(636,.arr 5 []),(1276,.arr 5 x.list)]) else False else ∀ (x : U),k Ex.ret (St.mk [(4,.own 636),(5,vi (U.i 3))] [(636,.arr 5 []),(1276,.arr 5 (tO b a xs))]) else k Ex.ret (St.mk [(4,.own 636),(5,vi (U.i 3))] [(636,.arr 5 []),(1276,.arr 5 (tO b a xs))]) else ∀ (x : U),k Ex.ret (St.mk [(4,.own 636),(5,vi (U.i (litE (Int.toNat (tN b a - 0)) (List.drop (Int.toNat (tA b a)) b.list) (Int.toNat (m.int - (xs.length:Int))))))] [(636,.arr 5 []),(1276,.arr 5 x.list)]) else ∀ (x : U),k Ex.ret (St.mk [(4,.own 636),(5,vi (U.i 3))] [(636,.arr 5 []),(1276,.arr 5 xs)]) else k Ex.ret (St.mk [(4,.own 636),(5,vi (U.i 3))] [(636,.arr 5 []),(1276,.arr 5 xs)])) := by kernel_rfl
theorem unp_tree (R : RF) (b m : U) : (run unpC Try.f25 [[b], [m]] R) = (bif decide (m.int < 0) then R [[U.l []], [U.i 1]] else bif decide (m.int > 1048576) then R [[U.l []], [U.i 1]] else (896 = nat_lit 896 ∧ nat_lit 0 = nat_lit 0 ∧ nat_lit 51 = nat_lit 51 ∧ nat_lit 896 =
  nat_lit 896 ∧ nat_lit 0 = nat_lit 0 ∧ nat_lit 1276 = nat_lit 1276 ∧ nat_lit 768 = nat_lit 768 ∧ nat_lit 0 = nat_lit 0 ∧ nat_lit 256 = nat_lit 256 ∧ nat_lit 0 = nat_lit 0 ∧ nat_lit 50 = nat_lit 50 ∧ nat_lit
  768 = nat_lit 768 ∧ nat_lit 0 = nat_lit 0 ∧ nat_lit 256 = nat_lit 256 ∧ nat_lit 0 = nat_lit 0 ∧ nat_lit 5 = nat_lit 5 ∧ U.i (0 : Int) = U.i 0 ∧ (0 : Int) ≤ 0 ∧ (0 : Int) ≤ (↑(List.length b.list) : Int)
  ∧ List.length b.list ≤ (1073741824 : Nat) ∧ (0 : Int) ≤ m.int ∧ m.int ≤ 1048576 ∧ (↑(0 : Nat) : Int) ≤ m.int) ∧ bif Prod.fst (unp b.list m.int (List.length b.list + (1 : Nat) - Int.toNat 0) 0 []) == 0
  then R [[U.l (Prod.snd (unp b.list m.int (List.length b.list + (1 : Nat) - Int.toNat 0) 0 []))], [U.i 0]] else ∀ (x : U), R [[U.l []], [U.i (Prod.fst (unp b.list m.int (List.length b.list + (1 : Nat) -
  Int.toNat 0) 0 []))]]) := by kernel_rfl
end Go.Mat

namespace Go.Mat
open Go Go.Den Go.Proofs
set_option maxRecDepth 100000
abbrev Bytes8 (b : List U) : Prop := ∀ k, k < b.length → 0 ≤ (U.at b k).int ∧ (U.at b k).int ≤ 255
theorem nibble_hi {t : Int} (h0 : 0 ≤ t) (h1 : t ≤ 255) : IntKind.wrap .i64 (Int.fdiv t ((2 : Int) ^ min (Int.toNat 4) (IntKind.bits .u8))) = t / 16 := by
  rw [show min (Int.toNat 4) (IntKind.bits .u8) = 4 from rfl, Int.fdiv_eq_ediv_of_nonneg _ (by decide), show (2 : Int) ^ 4 = 16 from rfl]
  exact i64_in (by omega) (by omega)
theorem and15 {n : Nat} (hn : 4 ≤ n) {t : Int} (h0 : 0 ≤ t) (h1 : t ≤ 255) (h8 : 8 ≤ n) : ((BitVec.ofInt n t &&& BitVec.ofInt n 15).toNat : Int) = t % 16 := by
  have hp : 256 ≤ 2 ^ n := Nat.pow_le_pow_right (n := 2) (by decide) h8
  have e1 : (BitVec.ofInt n t).toNat = t.toNat := by
    rw [BitVec.toNat_ofInt]
    have : t % ((2 ^ n : Nat) : Int) = t := Int.emod_eq_of_lt h0 (by omega)
    rw [this]
  have e2 : (BitVec.ofInt n 15).toNat = 2 ^ 4 - 1 := by
    rw [BitVec.toNat_ofInt]
    have : (15 : Int) % ((2 ^ n : Nat) : Int) = 15 := Int.emod_eq_of_lt (by decide) (by omega)
    rw [this]
    rfl
  rw [BitVec.toNat_and, e1, e2, Nat.and_two_pow_sub_one_eq_mod]
  omega
theorem nibble_lo {t : Int} (h0 : 0 ≤ t) (h1 : t ≤ 255) : IntKind.wrap .i64 (IntKind.wrap .u8 ((BitVec.ofInt (IntKind.bits .u8) t &&& BitVec.ofInt (IntKind.bits .u8) 15).toNat : Int)) = t % 16 := by
  have e : ((BitVec.ofInt (IntKind.bits .u8) t &&& BitVec.ofInt (IntKind.bits .u8) 15).toNat : Int) = t % 16 := and15 (n := 8) (by decide) h0 h1 (by decide)
  rw [e]
  have e8 : IntKind.wrap .u8 (t % 16) = t % 16 := by
    simp only [IntKind.wrap, IntKind.bits, IntKind.signed]
    simp
    omega
  rw [e8]
  exact i64_in (by omega) (by omega)
theorem two_bytes {x y : Int} (hx0 : 0 ≤ x) (hx1 : x ≤ 255) (hy0 : 0 ≤ y) (hy1 : y ≤ 255) :
    IntKind.wrap .i64 ((BitVec.ofInt (IntKind.bits .i64) (IntKind.wrap .i64 x) ||| BitVec.ofInt (IntKind.bits .i64) (IntKind.wrap .i64 (IntKind.wrap .i64 y * 2 ^ min (Int.toNat 8) (IntKind.bits .i64)))).toNat : Int) = x + 256 * y := by
  have hm : min (Int.toNat 8) (IntKind.bits .i64) = 8 := rfl
  rw [i64_in (x := x) (by omega) (by omega), i64_in (x := y) (by omega) (by omega), hm, show (2 : Int) ^ 8 = 256 from rfl, i64_in (x := y * 256) (by omega) (by omega)]
  have e1 : (BitVec.ofInt (IntKind.bits .i64) x).toNat = x.toNat := by
    rw [BitVec.toNat_ofInt, Int.emod_eq_of_lt hx0 (by simp [IntKind.bits]; omega)]
  have e2 : (BitVec.ofInt (IntKind.bits .i64) (y * 256)).toNat = y.toNat <<< 8 := by
    rw [BitVec.toNat_ofInt, Int.emod_eq_of_lt (by omega) (by simp [IntKind.bits]; omega), Nat.shiftLeft_eq]
    omega
  have e3 : x.toNat ||| y.toNat <<< 8 = x.toNat + 256 * y.toNat := by
    rw [Nat.or_comm, ← Nat.shiftLeft_add_eq_or_of_lt (show x.toNat < 2 ^ 8 by omega), Nat.shiftLeft_eq]
    omega
  rw [BitVec.toNat_or, e1, e2, e3, i64_in (by omega) (by omega)]
  omega
theorem cpL_len : ∀ (n d : Nat) (l : List U), (cpL n d l).length = l.length + n
  | 0, _, _ => rfl
  | n + 1, d, l => by rw [cpL, cpL_len n d]; simp; omega
theorem litE_zero : ∀ {n : Nat} {r : List U} {f : Nat}, litE n r f = 0 → n ≤ r.length ∧ n ≤ f
  | 0, _, _, _ => ⟨Nat.zero_le _, Nat.zero_le _⟩
  | n + 1, [], f, h => by simp [litE] at h
  | n + 1, x :: r, f, h => by
    rw [litE] at h
    cases hf : decide (f = 0) with
    | true => rw [hf] at h; simp at h
    | false =>
      rw [hf, cond_false] at h
      have := litE_zero h
      have hf : f ≠ 0 := of_decide_eq_false hf
      simp only [List.length_cons]
      omega
theorem unp_loop2 : LoopOk unpC 2 (loopBody Try.f25 1) := by
  refine loopOk_of (F := unpLoop2) (ts := [45, 44, 7, 8, 9, 1, 6, 2, 10]) (os := [256, 768, 896, 1276]) rfl (fun svs _ => match svs with | .val _ i :: .val _ n :: _ => (n.int - i.int).toNat | _ => 0) ?_
  intro pan svs os k ho1 ho2 h
  unfold unpLoop2 at h
  split at h
  · rename_i i n p7 o7 g pg og o m p6 o6 p2 o2 t b a f pa oa pb ob e xs
    obtain ⟨⟨rfl, rfl, rfl, rfl, rfl, rfl, rfl, rfl, rfl, rfl, rfl, rfl, rfl, rfl, rfl, rfl, ha, ha0, hab, hb, hm0, hm1, hx, hi0, hin, hn⟩, hk⟩ := h
    refine .eq (unp_round2 pan _ _ k i n m t b a xs) ?_
    refine bd (fun hlt => ⟨⟨by trivial, by trivial, by trivial, by trivial, by trivial, by trivial, ha0, by omega⟩, bd (fun hal => ?_) (fun hal => ?_)⟩) (fun hlt => ?_)
    · rw [show (n.int - i.int).toNat = (n.int - (i.int + 1)).toNat + 1 by omega, drop_at (by omega), litE] at hk
      refine bi (fun hf => ?_) (fun hf => ?_)
      · have hf : (xs.length : Int) = m.int := by simpa using hf
        rw [decide_eq_true (show (m.int - (xs.length : Int)).toNat = 0 by omega), cond_true] at hk
        exact hk (.l xs)
      · have hf : ¬ (xs.length : Int) = m.int := by simpa using hf
        rw [decide_eq_false (show ¬ (m.int - (xs.length : Int)).toNat = 0 by omega), cond_false] at hk
        rw [i64_in (x := i.int + 1) (by omega) (by omega)]
        have hl : (xs ++ [nth (U.i 0) b.list a.int.toNat]).length = xs.length + 1 := by simp
        refine broom (by unfold room; omega) rfl (blt (by simp only [U.int_i]; omega) ⟨⟨by trivial, by trivial, by trivial, by trivial, by trivial, by trivial, by trivial, by trivial, by trivial, by trivial, by trivial, by trivial, by trivial, by trivial, by trivial, by trivial, by trivial, by omega, by omega, hb, hm0, hm1, by rw [hl]; omega, by omega, by omega, hn⟩, ?_⟩)
        rw [hl, show (m.int - ((xs.length + 1 : Nat) : Int)).toNat = (m.int - (xs.length : Int)).toNat - 1 by omega, show (a.int + 1).toNat = a.int.toNat + 1 by omega, show a.int + 1 + (n.int - (i.int + 1)) = a.int + (n.int - i.int) by omega]
        rw [List.take_succ_cons, List.append_cons] at hk
        exact hk
    · rw [show (n.int - i.int).toNat = (n.int - (i.int + 1)).toNat + 1 by omega, List.drop_of_length_le (by omega), litE] at hk
      exact hk (.l xs)
    · rw [show (n.int - i.int).toNat = 0 by omega, litE, List.take_zero, List.append_nil, show a.int + (n.int - i.int) = a.int by omega, uObjs, ← ha] at hk
      exact hk
  · exact h.elim
theorem unp_loop5 : LoopOk unpC 5 (loopBody Try.f25 2) := by
  refine loopOk_of (F := unpLoop5) (ts := [110, 109, 7, 8, 9, 1, 6, 2, 18]) (os := [256, 768, 896, 1276]) rfl (fun svs _ => match svs with | .val _ i :: .val _ n :: _ => (n.int - i.int).toNat | _ => 0) ?_
  intro pan svs os k ho1 ho2 h
  unfold unpLoop5 at h
  split at h
  · rename_i i n p7 o7 g pg og o m p6 o6 p2 o2 d b a f pa oa pb ob e xs
    obtain ⟨⟨rfl, rfl, rfl, rfl, rfl, rfl, rfl, rfl, rfl, rfl, rfl, rfl, rfl, rfl, rfl, rfl, ha, ha0, hab, hb, hm0, hm1, hx, hi0, hin, hn, hd1, hd2⟩, hk⟩ := h
    refine .eq (unp_round5 pan _ _ k i n m d b a xs) ?_
    refine bd (fun hlt => ?_) (fun hlt => ?_)
    · refine bi (fun hf => ?_) (fun hf => ?_)
      · have hf : (xs.length : Int) = m.int := by simpa using hf
        rw [decide_eq_true (show m.int - (xs.length : Int) < n.int - i.int by omega), cond_true] at hk
        exact hk (.l xs)
      · have hf : ¬ (xs.length : Int) = m.int := by simpa using hf
        rw [i64_in (x := i.int + 1) (by omega) (by omega), i64_in (x := (xs.length : Int) - d.int) (by omega) (by omega)]
        generalize hy : nth (U.i 0) xs ((xs.length : Int) - d.int).toNat = y
        have hl : (xs ++ [y]).length = xs.length + 1 := by simp
        refine dt ⟨by omega, by omega⟩ (blt (by omega) (broom (by unfold room; omega) rfl (blt (by simp only [U.int_i]; omega) ⟨⟨by trivial, by trivial, by trivial, by trivial, by trivial, by trivial, by trivial, by trivial, by trivial, by trivial, by trivial, by trivial, by trivial, by trivial, by trivial, by trivial, ha, by omega, by omega, hb, hm0, hm1, by rw [hl]; omega, by omega, by omega, hn, hd1, by rw [hl]; omega⟩, ?_⟩)))
        rw [show (n.int - i.int).toNat = (n.int - (i.int + 1)).toNat + 1 by omega, cpL, show U.at xs (xs.length - d.int.toNat) = y by rw [← hy]; congr 1; omega] at hk
        rw [hl]
        refine bd (fun h1 => ?_) (fun h1 => ?_)
        · rw [decide_eq_true (show m.int - (xs.length : Int) < n.int - i.int by omega), cond_true] at hk
          exact hk
        · rw [decide_eq_false (show ¬ m.int - (xs.length : Int) < n.int - i.int by omega), cond_false] at hk
          exact hk
    · rw [decide_eq_false (by omega), cond_false, show (n.int - i.int).toNat = 0 by omega, cpL, uObjs, ← ha] at hk
      exact hk
  · exact h.elim
theorem uN_in {b : List U} (hb : Bytes8 b) {a : Int} (ha0 : 0 ≤ a) (hal : a < b.length) : 0 ≤ uH b a ∧ uH b a ≤ 15 ∧ 0 ≤ uL b a ∧ uL b a ≤ 15 ∧ 0 ≤ uN b a ∧ uN b a ≤ 15 + 255 * b.length ∧ a + 1 ≤ uA b a ∧ uA b a ≤ b.length := by
  have h0 := hb a.toNat (by omega)
  have h1 : 0 ≤ uH b a ∧ uH b a ≤ 15 := by unfold uH; omega
  have h2 : 0 ≤ uL b a ∧ uL b a ≤ 15 := by unfold uL; omega
  have h3 := hN_bd (h := uH b a) (r := b.drop (a + 1).toNat) h1.1 (u8_drop hb)
  have h4 := hK_le (uH b a) (b.drop (a + 1).toNat)
  rw [List.length_drop] at h3 h4
  refine ⟨h1.1, h1.2, h2.1, h2.2, ?_, ?_, ?_, ?_⟩
  · unfold uN; omega
  · unfold uN; omega
  · unfold uA; omega
  · unfold uA; omega
theorem uM_in {b : List U} (hb : Bytes8 b) {a : Int} (ha0 : 0 ≤ a) (hal : a < b.length) (h2 : uB b a + 2 ≤ b.length) : 0 ≤ uM b a ∧ uM b a ≤ 15 + 255 * b.length ∧ uB b a + 2 ≤ uC b a ∧ uC b a ≤ b.length := by
  obtain ⟨_, _, h1, h1', h3, _, h5, _⟩ := uN_in hb ha0 hal
  have hB : 0 ≤ uB b a := by unfold uB; omega
  have h3 := hN_bd (h := uL b a) (r := b.drop (uB b a + 2).toNat) h1 (u8_drop hb)
  have h4 := hK_le (uL b a) (b.drop (uB b a + 2).toNat)
  rw [List.length_drop] at h3 h4
  refine ⟨?_, ?_, ?_, ?_⟩
  · unfold uM; omega
  · unfold uM; omega
  · unfold uC; omega
  · unfold uC; omega
theorem unp_fuel {b : List U} (hb : Bytes8 b) {m : Int} : ∀ (f g : Nat) {a : Int} {out : List U}, 0 ≤ a → b.length + 1 - a.toNat ≤ f → b.length + 1 - a.toNat ≤ g → unp b m f a out = unp b m g a out
  | 0, 0, _, _, _, _, _ => rfl
  | 0, g + 1, a, out, h0, h1, _ => by
    rw [unp, unp, decide_eq_false (by omega), Bool.false_and, cond_false]
  | f + 1, 0, a, out, h0, _, h2 => by
    rw [unp, unp, decide_eq_false (by omega), Bool.false_and, cond_false]
  | f + 1, g + 1, a, out, h0, h1, h2 => by
    rw [unp, unp]
    by_cases hal : a < (b.length : Int)
    · by_cases hB : uB b a + 2 ≤ b.length
      · obtain ⟨_, _, _, _, _, _, h5, _⟩ := uN_in hb h0 hal
        have h6 := uM_in hb h0 hal hB
        have h7 : a + 1 ≤ uB b a := by
          have := (uN_in hb h0 hal).2.2.2.2.1
          unfold uB; omega
        rw [unp_fuel hb f g (by omega) (by omega) (by omega)]
      · have : uBad b a out = true := by unfold uBad; rw [decide_eq_true (by omega)]; simp
        rw [this, cond_true, cond_true]
    · rw [decide_eq_false hal, Bool.false_and, cond_false, cond_false]
theorem tH_eq {b a : U} (hb : Bytes8 b.list) (ha0 : 0 ≤ a.int) (hal : a.int < b.list.length) : tH b a = uH b.list a.int := nibble_hi (hb _ (by omega)).1 (hb _ (by omega)).2
theorem tL_eq {b a : U} (hb : Bytes8 b.list) (ha0 : 0 ≤ a.int) (hal : a.int < b.list.length) : tL b a = uL b.list a.int := nibble_lo (hb _ (by omega)).1 (hb _ (by omega)).2
theorem unp_loop0 : LoopOk unpC 0 (loopBody Try.f25 0) := by
  refine loopOk_of (F := unpLoop0) (ts := [7, 8, 9, 1, 6, 2]) (os := [256, 768, 896, 1276]) rfl (fun _ os => match os with | [.box [.val _ b], .box [.val _ a], _, _] => ((b.list.length : Int) - a.int).toNat | _ => 0) ?_
  intro pan svs os k ho1 ho2 h
  unfold unpLoop0 at h
  split at h
  · rename_i p7 o7 g pg og o m p6 o6 p2 o2 b a f pa oa pb ob e xs
    obtain ⟨⟨rfl, rfl, rfl, rfl, rfl, rfl, rfl, rfl, rfl, rfl, rfl, rfl, rfl, rfl, rfl, rfl, ha, ha0, hab, hb, hm0, hm1, hx⟩, hk⟩ := h
    have hbk : Bytes8 b.list := fun k hk => u8_row (k := k) ho2.1.1 hk
    refine .eq (unp_round0 pan _ _ k m b a xs) ?_
    obtain ⟨f, hf⟩ : ∃ f, b.list.length + 1 - a.int.toNat = f + 1 := ⟨b.list.length - a.int.toNat, by omega⟩
    rw [hf, unp] at hk
    refine ⟨⟨by trivial, by trivial, by trivial, by trivial, by trivial, by trivial, ha0, by omega⟩, bd (fun hal => ?_) (fun hal => ?_)⟩
    · obtain ⟨hH0, hH1, hL0, hL1, hN0, hN1, hA0, hA1⟩ := uN_in hbk ha0 hal
      have eH := tH_eq hbk ha0 hal
      have eL := tL_eq hbk ha0 hal
      have eN : tN b a = uN b.list a.int := by unfold tN uN; rw [eH]
      have eA : tA b a = uA b.list a.int := by unfold tA uA; rw [eH]
      have eB : tB b a = uB b.list a.int := by unfold tB uB; rw [eA, eN]; omega
      have eO : tO b a xs = uOut b.list a.int xs := by unfold tO uOut; rw [eA, eN, show uN b.list a.int - 0 = uN b.list a.int by omega]
      have e2 : uB b.list a.int + 1 + 1 = uB b.list a.int + 2 := by omega
      have eC : tC b a = uC b.list a.int := by unfold tC uC; rw [eL, eB, e2]
      have hB0 : a.int + 1 ≤ uB b.list a.int := by unfold uB; omega
      rw [decide_eq_true hal, Bool.true_and] at hk
      rw [eH, eN, eA, eB, eO, eC, eL]
      rw [show uN b.list a.int - 0 = uN b.list a.int by omega]
      refine ⟨⟨by trivial, by trivial, by trivial, by trivial, by trivial, by trivial, by trivial, by trivial, by trivial, by trivial, by trivial, by trivial, by omega, by omega, by omega, by omega, by omega⟩, bi (fun hok => ?_) (fun hok => ?_)⟩
      · rw [show uOk b.list a.int = true from hok, cond_true] at hk
        refine ⟨⟨by trivial, by trivial, by trivial, by trivial, by trivial, by trivial, by trivial, by trivial, by trivial, by trivial, by trivial, by trivial, by trivial, by trivial, by trivial, by trivial, by trivial, by omega, by omega, hb, hm0, hm1, hx, by omega, by omega, by omega⟩, bi (fun hl => ?_) (fun hl => ?_)⟩
        · rw [hl, cond_true] at hk
          have hl' := litE_zero (by simpa using hl)
          rw [List.length_drop] at hl'
          have hBl : uB b.list a.int ≤ b.list.length := by unfold uB; omega
          have hOl : (uOut b.list a.int xs).length = xs.length + (uN b.list a.int).toNat := by
            unfold uOut
            rw [List.length_append, List.length_take, List.length_drop]
            omega
          refine bi (fun hbe => ?_) (fun hbe => ?_)
          · have hbe : uB b.list a.int = (b.list.length : Int) := by simpa using hbe
            rw [decide_eq_true hbe, cond_true] at hk
            exact hk
          · have hbe : ¬ uB b.list a.int = (b.list.length : Int) := by simpa using hbe
            rw [decide_eq_false hbe, cond_false] at hk
            refine ⟨⟨by trivial, by trivial, by trivial, by trivial, by trivial, by trivial, by omega, by omega⟩, dt (by omega) ⟨⟨by trivial, by trivial, by trivial, by trivial, by trivial, by trivial, by omega, by omega⟩, bd (fun h1 => ?_) (fun h1 => ?_)⟩⟩
            · have hy0 := hbk (uB b.list a.int).toNat (by omega)
              have hy1 := hbk (uB b.list a.int + 1).toNat (by omega)
              have eD : tD b a = uD b.list a.int := by
                unfold tD uD
                rw [eB]
                exact two_bytes hy0.1 hy0.2 hy1.1 hy1.2
              obtain ⟨hM0, hM1, hC0, hC1⟩ := uM_in hbk ha0 hal (by omega)
              have eM : tM b a = uM b.list a.int + 4 := by
                unfold tM
                rw [eL, eB, e2]
                exact i64_in (by unfold uM at hM0; omega) (by unfold uM at hM1; omega)
              have hD0 : 0 ≤ uD b.list a.int := by unfold uD; omega
              have eP : tP b a xs = cpL (uM b.list a.int + 4).toNat (uD b.list a.int).toNat (uOut b.list a.int xs) := by
                unfold tP
                rw [eM, eD, eO, show uM b.list a.int + 4 - 0 = uM b.list a.int + 4 by omega]
              rw [eD, eM, eP, e2, show uM b.list a.int + 4 - 0 = uM b.list a.int + 4 by omega]
              have hbad : uBad b.list a.int xs = ((uD b.list a.int == 0) || decide (((uOut b.list a.int xs).length : Int) < uD b.list a.int) || !(hOk (uL b.list a.int) (b.list.drop (uB b.list a.int + 2).toNat))) := by
                unfold uBad
                rw [decide_eq_false (by omega), Bool.false_or]
              rw [hbad] at hk
              refine bi (fun h2 => ?_) (fun h2 => bd (fun h3 => ?_) (fun h3 => ⟨⟨by trivial, by trivial, by trivial, by trivial, by trivial, by trivial, by trivial, by trivial, by trivial, by trivial, by trivial, by trivial, by omega, by omega, by omega, by omega, by omega⟩, bi (fun h4 => ?_) (fun h4 => ?_)⟩))
              · rw [h2, Bool.true_or, Bool.true_or, cond_true] at hk
                exact hk (.l _)
              · rw [decide_eq_true (by omega), Bool.or_true, Bool.true_or, cond_true] at hk
                exact hk (.l _)
              · have h2' : ¬ uD b.list a.int = 0 := by simpa using h2
                rw [h2, h4, decide_eq_false (by omega), Bool.not_true, Bool.or_false, Bool.or_false, cond_false] at hk
                refine ⟨⟨by trivial, by trivial, by trivial, by trivial, by trivial, by trivial, by trivial, by trivial, by trivial, by trivial, by trivial, by trivial, by trivial, by trivial, by trivial, by trivial, by trivial, by omega, by omega, hb, hm0, hm1, by omega, by omega, by omega, by omega, by omega, by omega⟩, bd (fun h5 => ?_) (fun h5 => ?_)⟩
                · rw [decide_eq_true h5, cond_true] at hk
                  exact hk
                · rw [decide_eq_false h5, cond_false] at hk
                  refine bi (fun h6 => ?_) (fun h6 => ?_)
                  · have h6 : uC b.list a.int = (b.list.length : Int) := by simpa using h6
                    rw [decide_eq_true h6, cond_true] at hk
                    exact hk
                  · have h6 : ¬ uC b.list a.int = (b.list.length : Int) := by simpa using h6
                    rw [decide_eq_false h6, cond_false] at hk
                    rw [unp_fuel hbk f (b.list.length + 1 - (uC b.list a.int).toNat) (by omega) (by omega) (by omega)] at hk
                    refine blt (by simp only [U.int_i]; omega) ⟨⟨by trivial, by trivial, by trivial, by trivial, by trivial, by trivial, by trivial, by trivial, by trivial, by trivial, by trivial, by trivial, by trivial, by trivial, by trivial, by trivial, by trivial, by omega, by omega, hb, hm0, hm1, by rw [cpL_len]; omega⟩, hk⟩
              · rw [h4, Bool.not_false, Bool.or_true, cond_true] at hk
                exact fun _ => hk (.l _)
            · have hbad : uBad b.list a.int xs = true := by unfold uBad; rw [decide_eq_true (by omega)]; simp
              rw [hbad, cond_true] at hk
              exact hk (.l _)
        · rw [hl, cond_false] at hk
          have hne : ¬ ((litE (uN b.list a.int).toNat (List.drop (uA b.list a.int).toNat b.list) (m.int - (xs.length : Int)).toNat == 0) = true) := by rw [hl]; simp
          rw [show (litE (uN b.list a.int).toNat (List.drop (uA b.list a.int).toNat b.list) (m.int - (xs.length : Int)).toNat, ([] : List U)).1 = litE (uN b.list a.int).toNat (List.drop (uA b.list a.int).toNat b.list) (m.int - (xs.length : Int)).toNat from rfl, hl, cond_false] at hk
          exact hk
      · rw [show uOk b.list a.int = false from hok, cond_false] at hk
        exact fun _ => hk (.l _)
    · rw [decide_eq_false hal, Bool.false_and, cond_false] at hk
      exact hk (.l _)
  · exact h.elim
theorem unp_args {us : List (List U)} (h : shapeOk PR [25, 3] us) : ∃ b m, us = [[b], [m]] := by
  obtain ⟨u, u2, rfl, h1, h2⟩ := shape2 (by kernel_rfl : Cs PR 25 = some (false, [.sl false [.int .u8]])) (by kernel_rfl : Cs PR 3 = some (false, [.int .i64])) h
  obtain ⟨a, rfl⟩ := len1 h1
  obtain ⟨b, rfl⟩ := len1 h2
  exact ⟨a, b, rfl⟩
theorem unp_ok : SpecFP PR 25 unpP unpS := fun fn us hfn hpre => by
  have hf : PR.funcs[(25 : Nat)]? = some Try.f25 := by kernel_rfl
  rw [hf] at hfn; cases hfn
  refine fn_okH (C := unpC) (mkC_ok eqs0_ok mixed_ok .nil (.cons next_ok (.cons len_ok .nil))) hf (by kernel_rfl) (loops_three (by kernel_rfl) unp_loop0 unp_loop2 unp_loop5) fun hok => ?_
  have hp : Try.f25.params.toList = [25, 3] := by kernel_rfl
  rw [hp] at hok
  obtain ⟨b, m, hus⟩ := unp_args hok.1
  subst hus
  have hb : b.list.length ≤ 1073741824 := hpre
  refine .eq (unp_tree _ b m) ?_
  rw [show unpS [[b], [m]] = [[.l (bif (unpX b.list m.int).1 == 0 then (unpX b.list m.int).2 else [])], [.i (unpX b.list m.int).1]] from rfl]
  unfold unpX
  refine bd (fun h1 => ?_) (fun h1 => bd (fun h2 => ?_) (fun h2 => ?_))
  · rw [decide_eq_true h1]; rfl
  · rw [decide_eq_true (show 1048576 < m.int by omega), Bool.or_true]; rfl
  · rw [decide_eq_false h1, decide_eq_false (show ¬ 1048576 < m.int by omega), Bool.or_false, cond_false]
    refine ⟨⟨by trivial, by trivial, by trivial, by trivial, by trivial, by trivial, by trivial, by trivial, by trivial, by trivial, by trivial, by trivial, by trivial, by trivial, by trivial, by trivial, by trivial, by omega, by omega, hb, by omega, by omega, by omega⟩, bi (fun h3 => ?_) (fun h3 => ?_)⟩
    · have h3 : ((unp b.list m.int (b.list.length + 1) 0 []).1 == 0) = true := h3
      have h4 : (unp b.list m.int (b.list.length + 1) 0 []).1 = 0 := by simpa using h3
      rw [h3, cond_true, h4]
      rfl
    · have h3 : ((unp b.list m.int (b.list.length + 1) 0 []).1 == 0) = false := h3
      rw [h3, cond_false]
      exact fun _ => rfl
end Go.Mat

namespace Go.Mat
open Go Go.Den Go.Proofs
def cbN (g : U) : Int := IntKind.wrap IntKind.i64 ((16 : Int) * 2 ^ min (Int.toNat g.int) (IntKind.bits IntKind.i64))
def cbB (s c f : U) : List U := List.drop (Int.toNat (IntKind.wrap IntKind.i64 (s.int * 16))) (List.take (Int.toNat (IntKind.wrap IntKind.i64 (IntKind.wrap IntKind.i64 (s.int + c.int) * 16))) f.list)
def cbU (s c z f g : U) : Int × List U := unpX (List.drop (Int.toNat 0) (List.take (Int.toNat z.int) (cbB s c f))) (cbN g)
def cbV (s c z f g : U) : List U := bif Prod.fst (cbU s c z f g) == 0 then Prod.snd (cbU s c z f g) else []
def cbFin (b : List U) (m g : Int) : Int × List U := bif ((b.length : Int) == 16 * 2 ^ g.toNat) && (sumI 0 b == m) then (0, b) else (13, [])
def cbX (k s c z m g : Int) (f : List U) : Int × List U :=
  bif mayR k s c z m g then
    bif (k == 0) || (k == 1) then (0, List.replicate (16 * 2 ^ g.toNat) (.i 0)) else
    bif decide (((f.length / 16 : Nat) : Int) < s + c) then (6, []) else
    bif k == 3 then (bif (unpX (((f.take ((s + c) * 16).toNat).drop (s * 16).toNat).take z.toNat) (16 * 2 ^ g.toNat)).1 == 0 then cbFin (unpX (((f.take ((s + c) * 16).toNat).drop (s * 16).toNat).take z.toNat) (16 * 2 ^ g.toNat)).2 m g else (13, []))
    else cbFin ((f.take ((s + c) * 16).toNat).drop (s * 16).toNat) m g
  else (1, [])
def bytesX (us : List (List U)) : Int × List U := cbX (nth (.i 0) (nth [] us 0) 0).int (nth (.i 0) (nth [] us 0) 1).int (nth (.i 0) (nth [] us 0) 2).int (nth (.i 0) (nth [] us 0) 3).int (nth (.i 0) (nth [] us 0) 4).int (nth (.i 0) (nth [] us 2) 0).int (nth (.i 0) (nth [] us 1) 0).list
def bytesS : List (List U) → List (List U) := fun us => [[.l (bytesX us).2], [.i (bytesX us).1]]
noncomputable def cbC : Ctx := mkC PR eqs0 (fnsCons 23 mayS (fnsConsP 24 cloneP cloneS (fnsConsP 25 unpP unpS (fnsCons 26 sumS fnsNil)))) trsNil noLoops noOut noOut
theorem bytes_tree (R : RF) (k s c z m f g : U) : (run cbC Try.f10 [[k, s, c, z, m], [f], [g]] R) = (bif !mayR k.int s.int c.int z.int m.int g.int then R [[U.l []],[U.i 1]] else bif decide (g.int < 0) then False else bif k.int == 0 then bif decide ((0:Int) ≤ cbN g ∧ cbN g ≤ cbN g ∧ cbN g ≤ (↑room:Int)) then R [[U.l (List.replicate (Int.toNat (cbN g)) (U.i 0))],[U.i 0]] else False else bif k.int == 1 then bif decide ((0:Int) ≤ cbN g ∧ cbN g ≤ cbN g ∧ cbN g ≤ (↑room:Int)) then R [[U.l (List.replicate (Int.toNat (cbN g)) (U.i 0))],[U.i 0]] else False else bif decide (IntKind.wrap .i64 (s.int + c.int) > IntKind.wrap .i64 (Int.tdiv (f.list.length:Int) 16)) then R [[U.l []],[U.i 6]] else bif decide ((0:Int) ≤ IntKind.wrap .i64 (s.int * 16) ∧ IntKind.wrap .i64 (s.int * 16) ≤ IntKind.wrap .i64 (IntKind.wrap .i64 (s.int + c.int) * 16) ∧ IntKind.wrap .i64 (IntKind.wrap .i64 (s.int + c.int) * 16) ≤ IntKind.wrap .i64 (IntKind.wrap .i64 (s.int + c.int) * 16) ∧ IntKind.wrap .i64 (IntKind.wrap .i64 (s.int + c.int) * 16) ≤ (f.list.length:Int)) && true then cloneP [[U.l (cbB s c f)]] ∧ bif k.int == 3 then bif decide ((0:Int) ≤ 0 ∧ (0:Int) ≤ z.int ∧ z.int ≤ z.int ∧ z.int ≤ (↑(List.length (cbB s c f)):Int)) && true then unpP [[U.l (List.drop (Int.toNat 0) (List.take (Int.toNat z.int) (cbB s c f)))],[U.i (cbN g)]] ∧ bif Prod.fst (cbU s c z f g) != 0 then R [[U.l []],[U.i 13]] else bif (↑(List.length (cbV s c z f g)):Int) != cbN g then R [[U.l []],[U.i 13]] else bif sumI 0 (cbV s c z f g) != m.int then R [[U.l []],[U.i 13]] else R [[U.l (cbV s c z f g)],[U.i 0]] else False else bif (↑(List.length (cbB s c f)):Int) != cbN g then R [[U.l []],[U.i 13]] else bif sumI 0 (cbB s c f) != m.int then R [[U.l []],[U.i 13]] else R [[U.l (cbB s c f)],[U.i 0]] else False) := by kernel_rfl
end Go.Mat

namespace Go.Mat
open Go Go.Den Go.Proofs
set_option maxRecDepth 100000
theorem may_facts {k s c z m g : Int} (h : mayR k s c z m g = true) : 0 ≤ g ∧ g ≤ 6 ∧ (k = 0 ∨ k = 1 ∨ (k = 2 ∨ k = 3) ∧ 2 ≤ s ∧ 0 ≤ c ∧ c ≤ 64 ∧ s + c ≤ 65536 ∧ (k = 2 → c = 2 ^ g.toNat) ∧ (k = 3 → 1 ≤ z ∧ z ≤ c * 16)) := by
  unfold mayR at h
  split at h
  · cases h
  rename_i hg
  have h64 : (2 : Int) ^ g.toNat ≤ 64 := by
    have h1 : g.toNat ≤ 6 := by omega
    have : (2 : Nat) ^ g.toNat ≤ 2 ^ 6 := Nat.pow_le_pow_right (by decide) h1
    have e : ((2 ^ g.toNat : Nat) : Int) = (2 : Int) ^ g.toNat := by norm_cast
    omega
  refine ⟨by omega, by omega, ?_⟩
  split at h
  · rename_i hk
    rcases hk with hk | hk
    · exact .inl hk
    · exact .inr (.inl hk)
  split at h
  · rename_i hk
    rw [Bool.and_eq_true] at h
    have h1 := of_decide_eq_true h.1
    have h2 := h.2
    unfold placeR at h2
    simp only [Bool.and_eq_true, decide_eq_true_eq] at h2
    exact .inr (.inr ⟨.inl hk, by omega, by omega, by omega, by omega, fun _ => h1.1, by omega⟩)
  split at h
  · rename_i hk
    rw [Bool.and_eq_true] at h
    have h1 := of_decide_eq_true h.1
    have h2 := h.2
    unfold placeR at h2
    simp only [Bool.and_eq_true, decide_eq_true_eq] at h2
    exact .inr (.inr ⟨.inr hk, by omega, by omega, by omega, by omega, by omega, by omega⟩)
  · cases h
theorem cbN_eq {g : U} (h0 : 0 ≤ g.int) (h6 : g.int ≤ 6) : cbN g = 16 * 2 ^ g.int.toNat ∧ 16 ≤ (16 : Int) * 2 ^ g.int.toNat ∧ (16 : Int) * 2 ^ g.int.toNat ≤ 1024 := by
  have h64 : (2 : Int) ^ g.int.toNat ≤ 64 ∧ 1 ≤ (2 : Int) ^ g.int.toNat := by
    have h1 : g.int.toNat ≤ 6 := by omega
    have : (2 : Nat) ^ g.int.toNat ≤ 2 ^ 6 := Nat.pow_le_pow_right (by decide) h1
    have h2 : 1 ≤ (2 : Nat) ^ g.int.toNat := Nat.one_le_two_pow
    have e : ((2 ^ g.int.toNat : Nat) : Int) = (2 : Int) ^ g.int.toNat := by norm_cast
    omega
  refine ⟨?_, by omega, by omega⟩
  unfold cbN
  rw [Nat.min_eq_left (by simp [IntKind.bits]; omega)]
  exact i64_in (by omega) (by omega)
theorem ent3_args {us : List (List U)} (h : shapeOk PR [24, 25, 3] us) : ∃ k s c z m f g, us = [[k, s, c, z, m], [f], [g]] := by
  obtain ⟨u, u2, u3, rfl, h1, h2, h3⟩ := shape3 (by kernel_rfl : Cs PR 24 = some (true, [.int .i64, .int .i64, .int .i64, .int .i64, .int .u32])) (by kernel_rfl : Cs PR 25 = some (false, [.sl false [.int .u8]])) (by kernel_rfl : Cs PR 3 = some (false, [.int .i64])) h
  obtain ⟨k, s, c, z, m, rfl⟩ := len5 h1
  obtain ⟨f, rfl⟩ := len1 h2
  obtain ⟨g, rfl⟩ := len1 h3
  exact ⟨k, s, c, z, m, f, g, rfl⟩
theorem cbFin_eq {b : List U} {m g : Int} {R : RF} (hR : ∀ e l, cbFin b m g = (e, l) → R [[.l l], [.i e]]) : bif (b.length : Int) != 16 * 2 ^ g.toNat then R [[U.l []], [U.i 13]] else bif sumI 0 b != m then R [[U.l []], [U.i 13]] else R [[U.l b], [U.i 0]] := by
  unfold cbFin at hR
  refine bi (fun h => ?_) (fun h => bi (fun h2 => ?_) (fun h2 => ?_))
  · have h : ((b.length : Int) == 16 * 2 ^ g.toNat) = false := by simpa using h
    rw [h, Bool.false_and, cond_false] at hR
    exact hR _ _ rfl
  · have h2 : (sumI 0 b == m) = false := by simpa using h2
    rw [h2, Bool.and_false, cond_false] at hR
    exact hR _ _ rfl
  · have h : ((b.length : Int) == 16 * 2 ^ g.toNat) = true := by simpa using h
    have h2 : (sumI 0 b == m) = true := by simpa using h2
    rw [h, h2, Bool.and_true, cond_true] at hR
    exact hR _ _ rfl
theorem bytes_ok15 : SpecF PR 10 bytesS := fun fn us hfn => by
  have hf : PR.funcs[(10 : Nat)]? = some Try.f10 := by kernel_rfl
  rw [hf] at hfn; cases hfn
  refine fn_okH (C := cbC) (mkC_ok eqs0_ok mixed_ok (.cons may_ok (.consP clone_ok (.consP unp_ok (.cons sum_ok .nil)))) .nil) hf (by kernel_rfl) (loops_none (by kernel_rfl)) fun hok => ?_
  have hp : Try.f10.params.toList = [24, 25, 3] := by kernel_rfl
  rw [hp] at hok
  obtain ⟨k, s, c, z, m, f, g, hus⟩ := ent3_args hok.1
  have hl : f.list.length ≤ maxLen := by
    subst hus
    exact (hok.2 [.agg [vi k, vi s, vi c, vi z, vw m], vl (.int .u8) f, vi g] (by kernel_rfl)).2.1.1
  subst hus
  unfold maxLen at hl
  refine .eq (bytes_tree _ k s c z m f g) ?_
  rw [show bytesS [[k, s, c, z, m], [f], [g]] = [[.l (cbX k.int s.int c.int z.int m.int g.int f.list).2], [.i (cbX k.int s.int c.int z.int m.int g.int f.list).1]] from rfl]
  refine bi (fun h => ?_) (fun h => df (fun hg => ?_) ?_)
  · unfold cbX
    rw [nt h]; rfl
  · have := may_facts (nf h)
    omega
  · obtain ⟨hg0, hg6, hcases⟩ := may_facts (nf h)
    obtain ⟨hN, hN0, hN1⟩ := cbN_eq hg0 hg6
    unfold cbX
    rw [nf h, cond_true, hN]
    refine bi (fun h0 => ?_) (fun h0 => bi (fun h1 => ?_) (fun h1 => ?_))
    · rw [h0, Bool.true_or, cond_true]
      exact dt ⟨by omega, by omega, by unfold room; omega⟩ (by rw [show ((16 : Int) * 2 ^ g.int.toNat).toNat = 16 * 2 ^ g.int.toNat by norm_cast])
    · rw [h1, Bool.or_true, cond_true]
      exact dt ⟨by omega, by omega, by unfold room; omega⟩ (by rw [show ((16 : Int) * 2 ^ g.int.toNat).toNat = 16 * 2 ^ g.int.toNat by norm_cast])
    · have k0 : ¬ k.int = 0 := by simpa using h0
      have k1 : ¬ k.int = 1 := by simpa using h1
      obtain ⟨hk, hs, hc0, hc1, hsc, hk2, hk3⟩ := (hcases.resolve_left k0).resolve_left k1
      have e1 : IntKind.wrap .i64 (Int.tdiv (f.list.length : Int) 16) = ((f.list.length / 16 : Nat) : Int) := by
        rw [Int.tdiv_eq_ediv_of_nonneg (by omega)]
        exact i64_in (by omega) (by omega)
      have hB : cbB s c f = (f.list.take ((s.int + c.int) * 16).toNat).drop (s.int * 16).toNat := by
        unfold cbB
        rw [i64_in (x := s.int + c.int) (by omega) (by omega), i64_in (x := s.int * 16) (by omega) (by omega), i64_in (x := (s.int + c.int) * 16) (by omega) (by omega)]
      rw [h0, h1, Bool.or_false, cond_false, e1, i64_in (x := s.int + c.int) (by omega) (by omega), i64_in (x := s.int * 16) (by omega) (by omega), i64_in (x := (s.int + c.int) * 16) (by omega) (by omega)]
      refine bd (fun h2 => ?_) (fun h2 => ?_)
      · rw [show decide (((f.list.length / 16 : Nat) : Int) < s.int + c.int) = true from decide_eq_true (by omega), cond_true]
      · rw [show decide (((f.list.length / 16 : Nat) : Int) < s.int + c.int) = false from decide_eq_false (by omega), cond_false]
        have hBl : (cbB s c f).length = (c.int * 16).toNat := by
          rw [hB, List.length_drop, List.length_take]
          omega
        refine broom (by omega) rfl ⟨show (cbB s c f).length ≤ 1073741824 by omega, bi (fun h3 => ?_) (fun h3 => ?_)⟩
        · have hk3 := hk3 (by simpa using h3)
          have hz : z.int ≤ ((cbB s c f).length : Int) := by omega
          have hU : cbU s c z f g = unpX (((f.list.take ((s.int + c.int) * 16).toNat).drop (s.int * 16).toNat).take z.int.toNat) (16 * 2 ^ g.int.toNat) := by
            unfold cbU
            rw [hB, hN]
            rfl
          have hV : (cbU s c z f g).1 = 0 → cbV s c z f g = (cbU s c z f g).2 := fun h => by
            unfold cbV
            rw [h]; rfl
          rw [h3, cond_true, ← hU]
          refine broom (by omega) rfl ⟨show ((cbB s c f).take z.int.toNat).length ≤ 1073741824 by rw [List.length_take]; omega, bi (fun h4 => ?_) (fun h4 => ?_)⟩
          · have h4 : ((cbU s c z f g).1 == 0) = false := by simpa using h4
            rw [h4]; rfl
          · have h4 : (cbU s c z f g).1 = 0 := by simpa using h4
            rw [hV h4, h4]
            exact cbFin_eq (R := fun v => v = _) fun e l he => by rw [he]; rfl
        · rw [h3, cond_false, hB]
          exact cbFin_eq (R := fun v => v = _) fun e l he => by rw [he]
end Go.Mat

namespace Go.Mat
open Go Go.Den Go.Proofs
def tS15 : List (List U) → List (List U) := fun _ => [[.b true]]
def nS15 : List (List U) → List (List U) := fun us => [[nth (.i 0) (nth [] us 0) 0]]
theorem num_tree (R : RF) (n : U) : (run K0 Try.f12 [[n]] R) = (R [[n]]) := by kernel_rfl
noncomputable def lcmLoop : LoopF := fun _ svs os k => match svs, os with
  | [.val (.int .i64) i, .val (.int .i64) n, .own o, .val (.sl false [.int .u8]) b, .val (.int .i64) c, .val (.int .i64) s, .val (.int .u32) x], [.arr e xs] =>
    (o = 4350 ∧ e = u8T ∧ n = .i xs.length ∧ 0 ≤ i.int ∧ i.int ≤ xs.length ∧ xs.length ≤ 1024) ∧
    k (.exit 0) ⟨[(12, .own 4350), (9, vi c), (11, vi s), (3, vw x)], [(4350, .arr u8T (overU xs i.int.toNat (b.list.drop i.int.toNat)))]⟩
  | _, _ => False
noncomputable def lcmC : Ctx := mkC PR eqs0 (fnsCons 9 tS15 (fnsCons 10 bytesS (fnsCons 19 sumS (fnsCons 12 nS15 fnsNil)))) trsNil
  (loopCons 0 [13, 10, 12, 0, 9, 11, 3] [4350] lcmLoop noLoops) (outCons 0 [12, 9, 11, 3] [4350] noOut) noOut
theorem lcm_round (pan : KP) (μ : Mu) (N : Nat) (k : KE) (i b c s x : U) (xs : List U) : (exec (lcmC.panics pan) (loopBody Try.f5 0) 0 ⟨[(13, vi i), (10, vi (.i xs.length)), (12, .own 4350), (0, vl (.int .u8) b), (9, vi c), (11, vi s), (3, vw x)], [(4350, .arr u8T xs)]⟩ (again PR (some ([12, 9, 11, 3], [4350])) none pan [13, 10, 12, 0, 9, 11, 3] [4350] lcmLoop μ N k)) = (bif decide (i.int < (xs.length:Int)) then bif decide (i.int < (b.list.length:Int)) then bif decide ((0:Int) ≤ i.int ∧ i.int < (b.list.length:Int)) then bif decide ((0:Int) ≤ i.int ∧ i.int < (xs.length:Int)) then bif Nat.blt (Int.toNat i.int) (List.length xs) then bif Nat.blt (μ [vi (U.i (IntKind.wrap .i64 (i.int + 1))),vi (U.i (xs.length:Int)),.own 4350,.val (.sl false [.int .u8]) b,vi c,vi s,.val (.int .u32) x] [.arr 5 (List.set xs (Int.toNat i.int) (nth (U.i 0) (patchU [nth (U.i 0) xs (Int.toNat i.int)] (0:Nat) [nth (U.i 0) b.list (Int.toNat i.int)]) (0:Nat)))]) N then (4350 = nat_lit 4350 ∧ nat_lit 5 = nat_lit 5 ∧ U.i (xs.length:Int) = U.i (↑(List.length (List.set xs (Int.toNat i.int) (nth (U.i 0) (patchU [nth (U.i 0) xs (Int.toNat i.int)] (0:Nat) [nth (U.i 0) b.list (Int.toNat i.int)]) (0:Nat)))):Int) ∧ (0:Int) ≤ IntKind.wrap .i64 (i.int + 1) ∧ IntKind.wrap .i64 (i.int + 1) ≤ (↑(List.length (List.set xs (Int.toNat i.int) (nth (U.i 0) (patchU [nth (U.i 0) xs (Int.toNat i.int)] (0:Nat) [nth (U.i 0) b.list (Int.toNat i.int)]) (0:Nat)))):Int) ∧ List.length (List.set xs (Int.toNat i.int) (nth (U.i 0) (patchU [nth (U.i 0) xs (Int.toNat i.int)] (0:Nat) [nth (U.i 0) b.list (Int.toNat i.int)]) (0:Nat))) ≤ (1024:Nat)) ∧ k (Ex.exit 0) (St.mk [(12,.own 4350),(9,vi c),(11,vi s),(3,.val (.int .u32) x)] [(4350,.arr 5 (overU (List.set xs (Int.toNat i.int) (nth (U.i 0) (patchU [nth (U.i 0) xs (Int.toNat i.int)] (0:Nat) [nth (U.i 0) b.list (Int.toNat i.int)]) (0:Nat))) (Int.toNat (IntKind.wrap .i64 (i.int + 1))) (List.drop (Int.toNat (IntKind.wrap .i64 (i.int + 1))) b.list)))]) else False else False else False else False else k (Ex.exit 0) (St.mk [(12,.own 4350),(9,vi c),(11,vi s),(3,.val (.int .u32) x)] [(4350,.arr 5 xs)]) else k (Ex.exit 0) (St.mk [(12,.own 4350),(9,vi c),(11,vi s),(3,.val (.int .u32) x)] [(4350,.arr 5 xs)])) := by kernel_rfl
def mdN (c : U) : Int := IntKind.wrap IntKind.i64 ((16 : Int) * 2 ^ min (Int.toNat (IntKind.wrap IntKind.u64 (Int.tmod (IntKind.wrap IntKind.i64 c.int) 7))) (IntKind.bits IntKind.i64))
def mdS (s : U) : Int := IntKind.wrap IntKind.i64 ((2 : Int) + Int.tmod (IntKind.wrap IntKind.i64 s.int) 20)
def mdK (b c : U) : List U := overU (List.replicate (Int.toNat (mdN c)) (U.i 0)) (Int.toNat 0) (List.drop (Int.toNat 0) b.list)
def mdF (b c s : U) : List U := List.replicate (Int.toNat (IntKind.wrap IntKind.i64 (mdS s * 16))) (U.i 0) ++ mdK b c
def mdC (c : U) : Int := IntKind.wrap IntKind.i64 ((1 : Int) * 2 ^ min (Int.toNat (IntKind.wrap IntKind.u64 (Int.tmod (IntKind.wrap IntKind.i64 c.int) 7))) (IntKind.bits IntKind.i64))
theorem lcm_tree (R : RF) (b c s x : U) : (run lcmC Try.f5 [[b], [c], [s], [x]] R) = (bif decide (IntKind.wrap .u64 (Int.tmod (IntKind.wrap .i64 c.int) 7) < 0) then False else bif decide ((0:Int) ≤ mdN c ∧ mdN c ≤ mdN c ∧ mdN c ≤ (↑room:Int)) then (4350 = nat_lit 4350 ∧ nat_lit 5 = nat_lit 5 ∧ U.i (mdN c) = U.i (↑(List.length (List.replicate (Int.toNat (mdN c)) (U.i 0))):Int) ∧ (0:Int) ≤ 0 ∧ (0:Int) ≤ (↑(List.length (List.replicate (Int.toNat (mdN c)) (U.i 0))):Int) ∧ List.length (List.replicate (Int.toNat (mdN c)) (U.i 0)) ≤ (1024:Nat)) ∧ bif decide ((0:Int) ≤ IntKind.wrap .i64 (mdS s * 16) ∧ IntKind.wrap .i64 (mdS s * 16) ≤ IntKind.wrap .i64 (mdS s * 16) ∧ IntKind.wrap .i64 (mdS s * 16) ≤ (↑room:Int)) then bif decide (List.length (List.replicate (Int.toNat (IntKind.wrap .i64 (mdS s * 16))) (U.i 0)) + List.length (mdK b c) ≤ room) && true then bif decide (IntKind.wrap .u64 (Int.tmod (IntKind.wrap .i64 c.int) 7) < 0) then False else bif decide ((0:Int) ≤ 0 ∧ (0:Int) ≤ IntKind.wrap .i64 ((↑(List.length (mdF b c s)):Int) - 1) ∧ IntKind.wrap .i64 ((↑(List.length (mdF b c s)):Int) - 1) ≤ IntKind.wrap .i64 ((↑(List.length (mdF b c s)):Int) - 1) ∧ IntKind.wrap .i64 ((↑(List.length (mdF b c s)):Int) - 1) ≤ (↑(List.length (mdF b c s)):Int)) && true then bif Prod.fst (bytesX [[U.i 2,U.i (mdS s),U.i (mdC c),U.i 0,U.i (sumI 0 (mdK b c))],[U.l (mdF b c s)],[U.i (Int.tmod (IntKind.wrap .i64 c.int) 7)]]) == 0 then bif ByteArray.toList (ByteArray.mk (List.toArray (List.map (fun x => UInt8.ofNat (Int.toNat x.int)) (Prod.snd (bytesX [[U.i 2,U.i (mdS s),U.i (mdC c),U.i 0,U.i (sumI 0 (mdK b c))],[U.l (mdF b c s)],[U.i (Int.tmod (IntKind.wrap .i64 c.int) 7)]]))))) == ByteArray.toList (ByteArray.mk (List.toArray (List.map (fun x => UInt8.ofNat (Int.toNat x.int)) (mdK b c)))) then bif Prod.fst (bytesX [[U.i 2,U.i (mdS s),U.i (mdC c),U.i 0,U.i (sumI 0 (mdK b c))],[U.l (List.drop (Int.toNat 0) (List.take (Int.toNat (IntKind.wrap .i64 ((↑(List.length (mdF b c s)):Int) - 1))) (mdF b c s)))],[U.i (Int.tmod (IntKind.wrap .i64 c.int) 7)]]) == 6 then bif Prod.fst (bytesX [[U.i 2,U.i (mdS s),U.i (mdC c),U.i 0,U.i (IntKind.wrap .u32 (↑(BitVec.toNat (BitVec.ofInt (IntKind.bits IntKind.u32) (sumI 0 (mdK b c)) ^^^ BitVec.ofInt (IntKind.bits IntKind.u32) (IntKind.wrap .u32 (↑(BitVec.toNat (BitVec.ofInt (IntKind.bits IntKind.u32) x.int ||| BitVec.ofInt (IntKind.bits IntKind.u32) 1)):Int)))):Int))],[U.l (mdF b c s)],[U.i (Int.tmod (IntKind.wrap .i64 c.int) 7)]]) == 13 then R [[U.b true]] else R [[U.b false]] else R [[U.b false]] else R [[U.b false]] else R [[U.b false]] else False else False else False else False) := by kernel_rfl
end Go.Mat
