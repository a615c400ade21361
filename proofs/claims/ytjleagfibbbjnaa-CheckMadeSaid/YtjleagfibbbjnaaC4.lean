/- A part of the proof of this: the law CheckMade. Conditions: none. Joined of DenB, DenC, DenD, DenE, DenF, DenG, DenH, DenI, DenJ, DenK, DenR, DenN, DenL, DenO. -/
import Derived.Test.YtjleagfibbbjnaaC3
import Derived.WalkKit
import Derived.Maps.AppendAt
import Derived.Deep.AppendSrc
import Derived.Laws.Tables
import Derived.Laws.MakeOwn
import Derived.Great.BuildSlice
import Derived.Laws.Small
import Derived.OrdersHeld
namespace Go.Den
open Go Go.RowKit
section
variable (w : World) (Z : Nat → Prop)
mutual
def RepC : Ct → Value → U → Prop
  | .int k, v, u => v = .int k u.int ∧ k.min ≤ u.int ∧ u.int ≤ k.max
  | .bool, v, u => v = .bool u.bool
  | .str, v, u => v = .string u.str ∧ u.str.size ≤ maxLen
  | .sl m cs, v, u => ∃ A c, v = .slice A u.list.length c ∧ u.list.length ≤ c ∧ c ≤ maxLen ∧ ∀ k, k < u.list.length → ∃ b o, A = some ⟨b, o, none⟩ ∧ Z b ∧ RepCs cs b (o + k * cs.length) (elemU m (U.at u.list k))
  | .oth, _, _ => False
def RepCs : List Ct → Nat → Nat → List U → Prop
  | [], _, _, _ => True
  | c :: cs, b, o, us => (∃ v, w.cell? ⟨b, o, none⟩ = some v ∧ RepC c v (U.at us 0)) ∧ RepCs cs b (o + 1) us.tail
end
def RepL : List Ct → List Value → List U → Prop
  | [], vs, _ => vs = []
  | c :: cs, vs, us => ∃ v t, vs = v :: t ∧ RepC w Z c v (U.at us 0) ∧ RepL cs t us.tail
def RepK (m : Bool) (cs : List Ct) (v : Value) (u : U) : Prop := match m with
  | true => ∃ vs, v = .agg vs ∧ RepL w Z cs vs.toList u.list
  | false => ∃ c, cs = [c] ∧ RepC w Z c v u
def RepEnts (km : Bool) (kcs : List Ct) (vm : Bool) (vcs : List Ct) : Nat → List (U × U) → List MapEntry → Prop
  | _, [], es => es = []
  | n, (k, x) :: r, es => ∃ e t, es = e :: t ∧ e.born = n ∧ RepK w Z km kcs e.key k ∧ RepK w Z vm vcs e.val x ∧ RepEnts km kcs vm vcs (n + 1) r t
def RepElems (m : Bool) (cs : List Ct) : List U → List Value → Prop
  | [], vs => vs = []
  | u :: us, vs => ∃ p q, vs = p ++ q ∧ RepL w Z cs p (elemU m u) ∧ RepElems m cs us q
def slFrom (j z : Nat) : Value → Value
  | .slice A n c => .slice (if c = j then A else A.map (·.add (j * z))) (n - j) (c - j)
  | v => v
variable (G : Nat → Value)
mutual
def RepSV : SV → Value → Prop
  | .val c u, v => RepC w Z c v u
  | .agg cs, v => ∃ vs, v = .agg vs ∧ RepSVs cs vs.toList
  | .nil, v => v = .slice none 0 0
  | .own id, v => v = G id
  | .ptr id off, v => ∃ b, G id = .pointer (some ⟨b, 0, none⟩) ∧ v = .pointer (some ⟨b, off, none⟩)
  | .aptr id sz j off, v => ∃ b n c, G id = .slice (some ⟨b, 0, none⟩) n c ∧ v = .pointer (some ⟨b, j * sz + off, none⟩)
  | .osl id j z, v => v = slFrom j z (G id)
  | .rptr cs us, v => ∃ b o, v = .pointer (some ⟨b, o, none⟩) ∧ Z b ∧ RepCs w Z cs b o us
  | .nilp, v => v = .pointer none
  | .tup l, v => ∃ vs, v = .tuple vs ∧ RepSVs l vs.toList
  | .clo f cs, v => ∃ vs, v = .func (.func f) #[] vs ∧ RepSVs cs vs.toList
  | .mp id, v => ∃ b, G id = .pointer (some ⟨b, 0, none⟩) ∧ v = .map (some b)
  | .ifc t s, v => ∃ x, v = .iface t x ∧ RepSV s x
  | .nili, v => v = .nilIface
  | .und, v => v = undef
  | .unk, _ => True
def RepSVs : List SV → List Value → Prop
  | [], vs => vs = []
  | s :: r, vs => ∃ v t, vs = v :: t ∧ RepSV s v ∧ RepSVs r t
end
def RepO (P : Program) (id : Nat) : Obj → Prop
  | .box cells => ∃ b ty c, G id = .pointer (some ⟨b, 0, none⟩) ∧ w.heap[b]? = some (.cells c ty (0, 0)) ∧ RepSVs w Z G cells c.toList
  | .arr e xs => ∃ m cs vs, Cs P e = some (m, cs) ∧ w.ownsRow 0 e cs.length (G id) xs.length vs ∧ RepElems w Z m cs xs vs
  | .map t es => ∃ b ents kt vt km kcs vm vcs, G id = .pointer (some ⟨b, 0, none⟩) ∧ w.heap[b]? = some (.map ents es.length) ∧ P.underlying t = some (.map kt vt) ∧ Cs P kt = some (km, kcs) ∧ Cs P vt = some (vm, vcs) ∧
      RepEnts w Z km kcs vm vcs 0 es ents.toList
end
def blk : Value → Option Nat
  | .pointer (some a) => some a.block
  | .slice (some a) _ _ => some a.block
  | _ => none
structure Fut (M : Nat → Prop) (w0 w : World) : Prop where
  os : w.os = w0.os
  tape : w.tape = w0.tape
  output : w.output = w0.output
  size : w0.heap.size ≤ w.heap.size
  block : ∀ k, k < w0.heap.size → ¬ M k → w.heap[k]? = w0.heap[k]?
theorem Fut.refl (M : Nat → Prop) (w : World) : Fut M w w := ⟨rfl, rfl, rfl, Nat.le_refl _, fun _ _ _ => rfl⟩
theorem Fut.trans {M M' N : Nat → Prop} {a b c : World} (h : Fut M a b) (k : Fut M' b c) (hM : ∀ i, M i → N i) (hM' : ∀ i, i < a.heap.size → M' i → N i) : Fut N a c :=
  ⟨k.os.trans h.os, k.tape.trans h.tape, k.output.trans h.output, Nat.le_trans h.size k.size,
    fun i hi hn => (k.block i (Nat.lt_of_lt_of_le hi h.size) (fun hm => hn (hM' i hi hm))).trans (h.block i hi (fun hm => hn (hM i hm)))⟩
def Plain (w : World) (b : Nat) : Prop := ∃ c ty, w.heap[b]? = some (.cells c ty (0, 0))
theorem Plain.of {w w' : World} {b : Nat} (h : Plain w b) (e : w'.heap[b]? = w.heap[b]?) : Plain w' b := by
  obtain ⟨c, ty, h⟩ := h
  exact ⟨c, ty, e.trans h⟩
structure Stays (w w' : World) (Z Z' : Nat → Prop) : Prop where
  sub : ∀ b, Z b → Z' b
  same : ∀ b, Z b → w'.heap[b]? = w.heap[b]?
theorem Stays.refl (w : World) (Z : Nat → Prop) : Stays w w Z Z := ⟨fun _ h => h, fun _ _ => rfl⟩
mutual
theorem RepC.mono {w w' : World} {Z Z' : Nat → Prop} (S : Stays w w' Z Z') : ∀ (c : Ct) (v : Value) (u : U), RepC w Z c v u → RepC w' Z' c v u
  | .int _, _, _, h => h
  | .bool, _, _, h => h
  | .str, _, _, h => h
  | .oth, _, _, h => h
  | .sl m cs, v, u, h => by
    obtain ⟨A, c, hv, hc, hcm, hk⟩ := h
    refine ⟨A, c, hv, hc, hcm, fun k hl => ?_⟩
    obtain ⟨b, o, hA, hb, hr⟩ := hk k hl
    exact ⟨b, o, hA, S.sub b hb, RepCs.mono S cs b _ _ (S.same b hb) hr⟩
theorem RepCs.mono {w w' : World} {Z Z' : Nat → Prop} (S : Stays w w' Z Z') : ∀ (cs : List Ct) (b o : Nat) (us : List U), w'.heap[b]? = w.heap[b]? → RepCs w Z cs b o us → RepCs w' Z' cs b o us
  | [], _, _, _, _, _ => trivial
  | c :: cs, b, o, us, hb, h => by
    obtain ⟨⟨v, hc, hr⟩, ht⟩ := h
    exact ⟨⟨v, (World.cell?_of_block (w := w) (a := ⟨b, o, none⟩) hb).trans hc, RepC.mono S c v _ hr⟩, RepCs.mono S cs b (o + 1) us.tail hb ht⟩
end
mutual

theorem RepC.ok {w : World} {Z : Nat → Prop} : ∀ {c : Ct} {v : Value} {u : U}, RepC w Z c v u → okC c u
  | .int _, _, _, h => h.2
  | .bool, _, _, _ => trivial
  | .str, _, _, h => h.2
  | .oth, _, _, _ => trivial
  | .sl m cs, v, u, h => by
    obtain ⟨A, c, hv, hc, hcm, hk⟩ := h
    refine ⟨Nat.le_trans hc hcm, fun k hl => ?_⟩
    obtain ⟨b, o, hA, hb, hr⟩ := hk k hl
    exact RepCs.ok hr
theorem RepCs.ok {w : World} {Z : Nat → Prop} : ∀ {cs : List Ct} {b o : Nat} {us : List U}, RepCs w Z cs b o us → okCs cs us
  | [], _, _, _, _ => trivial
  | _ :: _, _, _, _, h => by
    obtain ⟨⟨v, _, hr⟩, ht⟩ := h
    exact ⟨RepC.ok hr, RepCs.ok ht⟩
end
theorem RepL.ok {w : World} {Z : Nat → Prop} : ∀ {cs : List Ct} {vs : List Value} {us : List U}, RepL w Z cs vs us → okCs cs us
  | [], _, _, _ => trivial
  | _ :: _, _, _, h => by
    obtain ⟨v, t, _, hr, ht⟩ := h
    exact ⟨hr.ok, RepL.ok ht⟩
theorem wrap_within (k : IntKind) (n : Int) : k.min ≤ k.wrap n ∧ k.wrap n ≤ k.max := by
  cases k <;> simp only [IntKind.wrap, IntKind.min, IntKind.max, IntKind.bits, IntKind.signed] <;> simp <;> (try split) <;> omega
theorem kind_zero (k : IntKind) : k.min ≤ 0 ∧ 0 ≤ k.max := by cases k <;> simp [IntKind.min, IntKind.max, IntKind.bits, IntKind.signed]
theorem rep_wrap {w : World} {Z : Nat → Prop} (k : IntKind) (n : Int) : RepC w Z (.int k) (.int k (k.wrap n)) (.i (k.wrap n)) := ⟨rfl, wrap_within k n⟩
theorem rep_len {w : World} {Z : Nat → Prop} {n : Nat} (h : n ≤ maxLen) : RepC w Z (.int .i64) (.int .i64 (n : Int)) (.i (n : Int)) :=
  ⟨rfl, by show -(2 ^ 63 : Int) ≤ (n : Int); omega, by show (n : Int) ≤ 2 ^ 63 - 1; unfold maxLen at h; omega⟩
theorem rep_u8 {w : World} {Z : Nat → Prop} (b : UInt8) : RepC w Z (.int .u8) (.int .u8 (b.toNat : Int)) (.i (b.toNat : Int)) :=
  ⟨rfl, by show (0 : Int) ≤ _; exact Int.natCast_nonneg _, by show ((b.toNat : Nat) : Int) ≤ 2 ^ 8 - 1; have := b.toNat_lt; omega⟩
theorem rep_div {w : World} {Z : Nat → Prop} {k : IntKind} {m : Int} (h : k.min ≤ m ∧ m ≤ k.max) (j : Nat) : RepC w Z (.int k) (.int k (m.fdiv (2 ^ j))) (.i (m.fdiv (2 ^ j))) := by
  have hp : (1 : Int) ≤ 2 ^ j := by have := Int.pow_pos (n := 2) (m := j) (by omega); omega
  have h0 := kind_zero k
  rw [Int.fdiv_eq_ediv_of_nonneg _ (by omega)]
  refine ⟨rfl, ?_, ?_⟩
  · show k.min ≤ m / 2 ^ j
    by_cases hm : 0 ≤ m
    · have := Int.ediv_nonneg hm (show (0 : Int) ≤ 2 ^ j by omega); omega
    · have : m ≤ m / 2 ^ j := by
        rw [Int.le_ediv_iff_mul_le (by omega)]
        have := Int.mul_le_mul_of_nonpos_left (a := m) (by omega) hp
        omega
      omega
  · show m / 2 ^ j ≤ k.max
    by_cases hm : 0 ≤ m
    · have := Int.ediv_le_self (2 ^ j) hm; omega
    · have : m / 2 ^ j < 0 := Int.ediv_neg_of_neg_of_pos (by omega) (by omega)
      omega
theorem rep_mod {w : World} {Z : Nat → Prop} {k : IntKind} {m : Int} (h : k.min ≤ m ∧ m ≤ k.max) (n : Int) : RepC w Z (.int k) (.int k (m.tmod n)) (.i (m.tmod n)) := by
  have h0 := kind_zero k
  have ha : (m.tmod n).natAbs ≤ m.natAbs := by rw [Int.natAbs_tmod]; exact Nat.mod_le _ _
  refine ⟨rfl, ?_, ?_⟩
  · show k.min ≤ m.tmod n
    by_cases hm : 0 ≤ m
    · have := Int.tmod_nonneg n hm; omega
    · omega
  · show m.tmod n ≤ k.max
    by_cases hm : 0 ≤ m
    · omega
    · have : m.tmod n ≤ 0 := by
        have := Int.tmod_nonneg n (show 0 ≤ -m by omega)
        rw [Int.neg_tmod] at this; omega
      omega
theorem RepL.mono {w w' : World} {Z Z' : Nat → Prop} (S : Stays w w' Z Z') : ∀ {cs : List Ct} {vs : List Value} {us : List U}, RepL w Z cs vs us → RepL w' Z' cs vs us
  | [], _, _, h => h
  | _ :: _, _, _, h => by
    obtain ⟨v, t, hv, hr, ht⟩ := h
    exact ⟨v, t, hv, RepC.mono S _ v _ hr, RepL.mono S ht⟩
theorem RepK.mono {w w' : World} {Z Z' : Nat → Prop} (S : Stays w w' Z Z') {m : Bool} {cs : List Ct} {v : Value} {u : U} (h : RepK w Z m cs v u) : RepK w' Z' m cs v u := by
  cases m with
  | true => obtain ⟨vs, hv, hr⟩ := h; exact ⟨vs, hv, RepL.mono S hr⟩
  | false => obtain ⟨c, hc, hr⟩ := h; exact ⟨c, hc, RepC.mono S c v u hr⟩
theorem RepEnts.mono {w w' : World} {Z Z' : Nat → Prop} (S : Stays w w' Z Z') {km vm : Bool} {kcs vcs : List Ct} : ∀ {es : List (U × U)} {n : Nat} {l : List MapEntry}, RepEnts w Z km kcs vm vcs n es l → RepEnts w' Z' km kcs vm vcs n es l
  | [], _, _, h => h
  | (_, _) :: _, _, _, h => by
    obtain ⟨e, t, hl, hb, hk, hx, ht⟩ := h
    exact ⟨e, t, hl, hb, RepK.mono S hk, RepK.mono S hx, RepEnts.mono S ht⟩
theorem RepElems.mono {w w' : World} {Z Z' : Nat → Prop} (S : Stays w w' Z Z') {m : Bool} {cs : List Ct} : ∀ {us : List U} {vs : List Value}, RepElems w Z m cs us vs → RepElems w' Z' m cs us vs
  | [], _, h => h
  | _ :: _, _, h => by
    obtain ⟨p, q, hv, hr, ht⟩ := h
    exact ⟨p, q, hv, RepL.mono S hr, RepElems.mono S ht⟩
theorem RepL.length {w : World} {Z : Nat → Prop} : ∀ {cs : List Ct} {vs : List Value} {us : List U}, RepL w Z cs vs us → vs.length = cs.length
  | [], _, _, h => by have h : _ = [] := h; subst h; rfl
  | _ :: _, _, _, h => by
    obtain ⟨v, t, rfl, _, ht⟩ := h
    simp [RepL.length ht]
theorem RepElems.length {w : World} {Z : Nat → Prop} {m : Bool} {cs : List Ct} : ∀ {us : List U} {vs : List Value}, RepElems w Z m cs us vs → vs.length = us.length * cs.length
  | [], _, h => by have h : _ = [] := h; subst h; simp
  | _ :: us, _, h => by
    obtain ⟨p, q, rfl, hp, hq⟩ := h
    simp [RepL.length hp, RepElems.length hq, Nat.add_mul]; omega
theorem RepElems.app {w : World} {Z : Nat → Prop} {m : Bool} {cs : List Ct} : ∀ {us ys : List U} {vs ws : List Value}, RepElems w Z m cs us vs → RepElems w Z m cs ys ws → RepElems w Z m cs (us ++ ys) (vs ++ ws)
  | [], _, _, _, h, k => by have h : _ = [] := h; subst h; exact k
  | _ :: _, _, _, _, h, k => by
    obtain ⟨p, q, rfl, hp, hq⟩ := h
    exact ⟨p, q ++ _, by rw [List.append_assoc], hp, RepElems.app hq k⟩
theorem RepElems.at_ {w : World} {Z : Nat → Prop} {m : Bool} {cs : List Ct} : ∀ {us : List U} {vs : List Value} (_ : RepElems w Z m cs us vs) (k : Nat), k < us.length →
    ∃ p q r, vs = p ++ q ++ r ∧ p.length = k * cs.length ∧ RepL w Z cs q (elemU m (U.at us k))
  | [], _, _, _, hk => absurd hk (by simp)
  | u :: us, _, h, 0, _ => by
    obtain ⟨p, q, rfl, hp, _⟩ := h
    exact ⟨[], p, q, rfl, by simp, hp⟩
  | u :: us, _, h, k + 1, hk => by
    obtain ⟨p, q, rfl, hp, hq⟩ := h
    obtain ⟨p', q', r', rfl, hl, hr⟩ := RepElems.at_ hq k (by simpa using hk)
    exact ⟨p ++ p', q', r', by simp [List.append_assoc], by simp [RepL.length hp, hl, Nat.add_mul]; omega, hr⟩
theorem RepElems.set_ {w : World} {Z : Nat → Prop} {m : Bool} {cs : List Ct} : ∀ {us : List U} {p q r : List Value} {k : Nat} {x : U} {q' : List Value}, RepElems w Z m cs us (p ++ q ++ r) → k < us.length → p.length = k * cs.length → q.length = cs.length →
    RepL w Z cs q' (elemU m x) → RepElems w Z m cs (us.set k x) (p ++ q' ++ r)
  | [], _, _, _, _, _, _, _, hk, _, _, _ => absurd hk (by simp)
  | u :: us, p, q, r, 0, x, q', h, _, hp, hq, hr => by
    have : p = [] := List.eq_nil_of_length_eq_zero (by simpa using hp)
    subst this
    obtain ⟨p1, q1, he, h1, h2⟩ := h
    have he : q ++ r = p1 ++ q1 := by simpa using he
    obtain ⟨rfl, rfl⟩ := List.append_inj he (by rw [hq, RepL.length h1])
    exact ⟨q', r, by simp, hr, h2⟩
  | u :: us, p, q, r, k + 1, x, q', h, hk, hp, hq, hr => by
    obtain ⟨p1, q1, he, h1, h2⟩ := h
    have hl1 := RepL.length h1
    have hle : p1.length ≤ p.length := by rw [hl1, hp, Nat.add_mul]; omega
    have hpp : p = p1 ++ p.drop p1.length := by
      have := congrArg (List.take p1.length) he
      simp only [List.append_assoc] at this
      rw [List.take_append_of_le_length hle, List.take_left] at this
      have ht := List.take_append_drop p1.length p
      rw [this] at ht
      exact ht.symm
    refine ⟨p1, p.drop p1.length ++ q' ++ r, by rw [← List.append_assoc, ← List.append_assoc, ← hpp], h1, RepElems.set_ (q := q) ?_ (by simpa using hk) ?_ hq hr⟩
    · have : p1 ++ (p.drop p1.length ++ q ++ r) = p1 ++ q1 := by rw [← he, ← List.append_assoc, ← List.append_assoc, ← hpp]
      rw [List.append_cancel_left this]; exact h2
    · simp [hp, hl1, Nat.add_mul]
theorem RepElems.replicate {w : World} {Z : Nat → Prop} {m : Bool} {cs : List Ct} {x : U} {q : List Value} (h : RepL w Z cs q (elemU m x)) : ∀ n : Nat, RepElems w Z m cs (List.replicate n x) (List.replicate n q).flatten
  | 0 => rfl
  | n + 1 => ⟨q, (List.replicate n q).flatten, by simp [List.replicate_succ], h, RepElems.replicate h n⟩
structure Turns (w w' : World) (Z Z' : Nat → Prop) (G G' : Nat → Value) (id : Nat) (x : SV) : Prop extends Stays w w' Z Z' where
  other : ∀ i, i ≠ id → G' i = G i
  its : RepSV w' Z' G' x (G id)
mutual
theorem RepSV.sub {w w' : World} {Z Z' : Nat → Prop} {G G' : Nat → Value} {id : Nat} {x : SV} (T : Turns w w' Z Z' G G' id x) : ∀ (s : SV) (v : Value), RepSV w Z G s v → RepSV w' Z' G' (SV.sub id x s) v
  | .val c u, v, h => RepC.mono T.toStays c v u h
  | .agg cs, v, h => by
    obtain ⟨vs, hv, hr⟩ := h
    exact ⟨vs, hv, RepSVs.sub T cs _ hr⟩
  | .nil, _, h => h
  | .own i, v, h => by
    unfold SV.sub
    have h : v = G i := h
    cases hb : Nat.beq i id with
    | true =>
      have : i = id := Nat.eq_of_beq_eq_true hb
      subst this; subst h
      exact T.its
    | false =>
      show v = G' i
      rw [T.other i (Nat.ne_of_beq_eq_false hb)]; exact h
  | .ptr i off, v, h => by
    unfold SV.sub
    cases hb : Nat.beq i id with
    | true => trivial
    | false =>
      obtain ⟨b, h1, h2⟩ := h
      exact ⟨b, (T.other i (Nat.ne_of_beq_eq_false hb)).trans h1, h2⟩
  | .osl i j z, v, h => by
    unfold SV.sub
    cases hb : Nat.beq i id with
    | true => trivial
    | false =>
      show v = slFrom j z (G' i)
      rw [T.other i (Nat.ne_of_beq_eq_false hb)]; exact h
  | .aptr i sz j off, v, h => by
    unfold SV.sub
    cases hb : Nat.beq i id with
    | true => trivial
    | false =>
      obtain ⟨b, n, c, h1, h2⟩ := h
      exact ⟨b, n, c, (T.other i (Nat.ne_of_beq_eq_false hb)).trans h1, h2⟩
  | .rptr cs us, v, h => by
    obtain ⟨b, o, hv, hb, hr⟩ := h
    exact ⟨b, o, hv, T.sub b hb, RepCs.mono T.toStays cs b o us (T.same b hb) hr⟩
  | .nilp, _, h => h
  | .tup l, v, h => by
    obtain ⟨vs, hv, hr⟩ := h
    exact ⟨vs, hv, RepSVs.sub T l _ hr⟩
  | .clo _ l, v, h => by
    obtain ⟨vs, hv, hr⟩ := h
    exact ⟨vs, hv, RepSVs.sub T l _ hr⟩
  | .mp i, v, h => by
    unfold SV.sub
    cases hb : Nat.beq i id with
    | true => trivial
    | false =>
      obtain ⟨b, h1, h2⟩ := h
      exact ⟨b, (T.other i (Nat.ne_of_beq_eq_false hb)).trans h1, h2⟩
  | .ifc _ s, v, h => by
    obtain ⟨x, hv, hr⟩ := h
    exact ⟨x, hv, RepSV.sub T s x hr⟩
  | .nili, _, h => h
  | .und, _, h => h
  | .unk, _, _ => trivial
theorem RepSVs.sub {w w' : World} {Z Z' : Nat → Prop} {G G' : Nat → Value} {id : Nat} {x : SV} (T : Turns w w' Z Z' G G' id x) : ∀ (l : List SV) (vs : List Value), RepSVs w Z G l vs → RepSVs w' Z' G' (SV.sub.subs id x l) vs
  | [], _, h => h
  | s :: r, vs, h => by
    obtain ⟨v, t, hv, hs, hr⟩ := h
    exact ⟨v, t, hv, RepSV.sub T s v hs, RepSVs.sub T r t hr⟩
end
mutual
theorem RepSV.mono {w w' : World} {Z Z' : Nat → Prop} {G : Nat → Value} (S : Stays w w' Z Z') : ∀ (s : SV) (v : Value), RepSV w Z G s v → RepSV w' Z' G s v
  | .val c u, v, h => RepC.mono S c v u h
  | .agg cs, v, h => by
    obtain ⟨vs, hv, hr⟩ := h
    exact ⟨vs, hv, RepSVs.mono S cs _ hr⟩
  | .nil, _, h => h
  | .own _, _, h => h
  | .ptr _ _, _, h => h
  | .aptr _ _ _ _, _, h => h
  | .osl _ _ _, _, h => h
  | .rptr cs us, v, h => by
    obtain ⟨b, o, hv, hb, hr⟩ := h
    exact ⟨b, o, hv, S.sub b hb, RepCs.mono S cs b o us (S.same b hb) hr⟩
  | .nilp, _, h => h
  | .tup l, v, h => by
    obtain ⟨vs, hv, hr⟩ := h
    exact ⟨vs, hv, RepSVs.mono S l _ hr⟩
  | .clo _ l, v, h => by
    obtain ⟨vs, hv, hr⟩ := h
    exact ⟨vs, hv, RepSVs.mono S l _ hr⟩
  | .mp _, _, h => h
  | .ifc _ s, v, h => by
    obtain ⟨x, hv, hr⟩ := h
    exact ⟨x, hv, RepSV.mono S s x hr⟩
  | .nili, _, h => h
  | .und, _, h => h
  | .unk, _, _ => trivial
theorem RepSVs.mono {w w' : World} {Z Z' : Nat → Prop} {G : Nat → Value} (S : Stays w w' Z Z') : ∀ (l : List SV) (vs : List Value), RepSVs w Z G l vs → RepSVs w' Z' G l vs
  | [], _, h => h
  | s :: r, vs, h => by
    obtain ⟨v, t, hv, hs, hr⟩ := h
    exact ⟨v, t, hv, RepSV.mono S s v hs, RepSVs.mono S r t hr⟩
end
theorem RepSVs.length {w : World} {Z : Nat → Prop} {G : Nat → Value} : ∀ {l : List SV} {vs : List Value}, RepSVs w Z G l vs → l.length = vs.length
  | [], vs, h => by have h : vs = [] := h; subst h; rfl
  | s :: r, vs, h => by
    obtain ⟨v, t, rfl, _, hr⟩ := h
    simp [RepSVs.length hr]
theorem RepSVs.nth {w : World} {Z : Nat → Prop} {G : Nat → Value} : ∀ {l : List SV} {vs : List Value} (_ : RepSVs w Z G l vs) (i : Nat) (v : Value), vs[i]? = some v → RepSV w Z G (nth .unk l i) v
  | [], vs, h, i, v, hv => by have h : vs = [] := h; simp [h] at hv
  | s :: r, vs, h, i, v, hv => by
    obtain ⟨v', t, rfl, hs, hr⟩ := h
    cases i with
    | zero => simp at hv; subst hv; exact hs
    | succ i => exact RepSVs.nth hr i v (by simpa using hv)
theorem RepSVs.drop {w : World} {Z : Nat → Prop} {G : Nat → Value} : ∀ {l : List SV} {vs : List Value} (_ : RepSVs w Z G l vs) (n : Nat), RepSVs w Z G (l.drop n) (vs.drop n)
  | _, _, h, 0 => h
  | [], vs, h, _ + 1 => by have h : vs = [] := h; subst h; exact rfl
  | s :: r, vs, h, n + 1 => by
    obtain ⟨v, t, rfl, _, hr⟩ := h
    exact RepSVs.drop hr n
theorem RepSVs.take {w : World} {Z : Nat → Prop} {G : Nat → Value} : ∀ {l : List SV} {vs : List Value} (_ : RepSVs w Z G l vs) (n : Nat), RepSVs w Z G (l.take n) (vs.take n)
  | _, _, _, 0 => by simp only [List.take_zero]; exact rfl
  | [], vs, h, _ + 1 => by have h : vs = [] := h; subst h; exact rfl
  | s :: r, vs, h, n + 1 => by
    obtain ⟨v, t, rfl, hs, hr⟩ := h
    exact ⟨v, t.take n, rfl, hs, RepSVs.take hr n⟩
theorem RepSVs.app {w : World} {Z : Nat → Prop} {G : Nat → Value} : ∀ {l m : List SV} {vs us : List Value} (_ : RepSVs w Z G l vs) (_ : RepSVs w Z G m us), RepSVs w Z G (l ++ m) (vs ++ us)
  | [], m, vs, us, h, k => by have h : vs = [] := h; subst h; exact k
  | s :: r, m, vs, us, h, k => by
    obtain ⟨v, t, rfl, hs, hr⟩ := h
    exact ⟨v, t ++ us, rfl, hs, RepSVs.app hr k⟩
mutual
theorem RepSV.ok {w : World} {Z : Nat → Prop} {G : Nat → Value} : ∀ {s : SV} {v : Value}, RepSV w Z G s v → okS s
  | .val _ _, _, h => RepC.ok h
  | .agg _, _, h => by obtain ⟨vs, _, hr⟩ := h; exact RepSVs.ok hr
  | .tup _, _, h => by obtain ⟨vs, _, hr⟩ := h; exact RepSVs.ok hr
  | .clo _ _, _, h => by obtain ⟨vs, _, hr⟩ := h; exact RepSVs.ok hr
  | .ifc _ s, _, h => by obtain ⟨x, _, hr⟩ := h; exact RepSV.ok (s := s) (v := x) hr
  | .rptr _ _, _, h => by obtain ⟨b, o, _, _, hr⟩ := h; exact RepCs.ok hr
  | .nil, _, _ => trivial
  | .own _, _, _ => trivial
  | .ptr _ _, _, _ => trivial
  | .aptr _ _ _ _, _, _ => trivial
  | .osl _ _ _, _, _ => trivial
  | .nilp, _, _ => trivial
  | .mp _, _, _ => trivial
  | .nili, _, _ => trivial
  | .und, _, _ => trivial
  | .unk, _, _ => trivial
theorem RepSVs.ok {w : World} {Z : Nat → Prop} {G : Nat → Value} : ∀ {l : List SV} {vs : List Value}, RepSVs w Z G l vs → okS.okSs l
  | [], _, _ => trivial
  | _ :: _, _, h => by obtain ⟨v, t, _, hs, hr⟩ := h; exact ⟨RepSV.ok hs, RepSVs.ok hr⟩
end
theorem RepO.ok {w : World} {Z : Nat → Prop} {G : Nat → Value} {P : Program} {id : Nat} {o : Obj} (h : RepO w Z G P id o) : okO P o := by
  cases o with
  | box cells => obtain ⟨b, ty, c, _, _, hr⟩ := h; exact RepSVs.ok hr
  | arr e xs =>
    obtain ⟨m, cs, vs, hcs, hown, hr⟩ := h
    refine ⟨?_, fun m' cs' hcs' k hk => ?_⟩
    · rcases hown.2 with ⟨_, h0⟩ | ⟨g, cap, cur, _, _, _, h1, h2, _⟩
      · rw [h0]; exact Nat.zero_le _
      · exact Nat.le_trans h1 h2
    · rw [hcs] at hcs'
      cases hcs'
      obtain ⟨p, q, r, _, _, hq⟩ := hr.at_ k hk
      exact hq.ok
  | map t es => trivial
end Go.Den

namespace Go.Den
open Go Go.RowKit
theorem nbeq_ne {k t : Nat} (h : k ≠ t) : Nat.beq k t = false := by
  cases hb : Nat.beq k t with
  | false => rfl
  | true => exact absurd (Nat.eq_of_beq_eq_true hb) h
theorem nbeq_self (k : Nat) : Nat.beq k k = true := Nat.beq_refl k
theorem get_cons (k t : Nat) (v : SV) (r : List (Nat × SV)) : get ((k, v) :: r) t = if k = t then v else get r t := by
  show (bif Nat.beq k t then v else get r t) = _
  by_cases h : k = t
  · subst h; simp
  · simp [h, nbeq_ne h]
theorem getO_cons (k t : Nat) (v : Obj) (r : List (Nat × Obj)) : getO ((k, v) :: r) t = if k = t then some v else getO r t := by
  show (bif Nat.beq k t then some v else getO r t) = _
  by_cases h : k = t
  · subst h; simp
  · simp [h, nbeq_ne h]
theorem getO_dropO_same (r : List (Nat × Obj)) (t : Nat) : getO (dropO r t) t = none := by
  induction r with
  | nil => rfl
  | cons x r ih =>
    obtain ⟨k, v⟩ := x
    show getO (bif Nat.beq k t then dropO r t else (k, v) :: dropO r t) t = none
    by_cases h : k = t
    · subst h; rw [nbeq_self]; exact ih
    · rw [nbeq_ne h, cond_false, getO_cons, if_neg h]; exact ih
theorem getO_dropO_other (r : List (Nat × Obj)) {t s : Nat} (hs : s ≠ t) : getO (dropO r t) s = getO r s := by
  induction r with
  | nil => rfl
  | cons x r ih =>
    obtain ⟨k, v⟩ := x
    show getO (bif Nat.beq k t then dropO r t else (k, v) :: dropO r t) s = getO ((k, v) :: r) s
    by_cases h : k = t
    · subst h; rw [nbeq_self, cond_true, ih, getO_cons, if_neg (Ne.symm hs)]
    · rw [nbeq_ne h, cond_false, getO_cons, getO_cons, ih]
theorem get_subE (id : Nat) (x : SV) (r : List (Nat × SV)) (t : Nat) : get (subE id x r) t = SV.sub id x (get r t) := by
  induction r with
  | nil => rfl
  | cons y r ih =>
    obtain ⟨k, v⟩ := y
    unfold subE
    rw [get_cons, get_cons]
    split
    · rfl
    · exact ih
def Obj.sub (id : Nat) (x : SV) : Obj → Obj
  | .box cs => .box (SV.sub.subs id x cs)
  | o => o
theorem getO_subO (id : Nat) (x : SV) (r : List (Nat × Obj)) (t : Nat) : getO (subO id x r) t = (getO r t).map (Obj.sub id x) := by
  induction r with
  | nil => rfl
  | cons y r ih =>
    obtain ⟨k, v⟩ := y
    cases v <;> (unfold subO; rw [getO_cons, getO_cons]; split; rfl; exact ih)
structure Anc where
  w : World
  M : Nat → Prop
  N : Nat → Prop
  Z0 : Nat → Prop
  kb : Bool
  ka : Bool
  G0 : Nat → Value
  ds : List Deferred
def Anc.keeps (Θ : Anc) : Obj → Bool
  | .arr _ _ => Θ.ka
  | _ => Θ.kb
def Anc.lets (C : Ctx) (Θ : Anc) (o : Oper) : Bool := (!touchB C o || !Θ.kb) && (!touchA C o || !Θ.ka)
structure Sim (P : Program) (Θ : Anc) (n : Nat) (σ : St) (a : Act) (w : World) (Z : Nat → Prop) (G : Nat → Value) : Prop where
  size : a.tmps.size = n
  calm : a.defers = Θ.ds
  slot : ∀ t, RepSV w Z G (get σ.env t) (a.tmps.getD t undef)
  obj : ∀ id o, getO σ.objs id = some o → RepO w Z G P id o
  sep : ∀ id id' o o' b, getO σ.objs id = some o → getO σ.objs id' = some o' → blk (G id) = some b → blk (G id') = some b → id = id'
  free : ∀ id o b, getO σ.objs id = some o → blk (G id) = some b → ¬ Z b ∧ (Θ.M b ∨ Θ.N b ∨ Θ.w.heap.size ≤ b)
  keep : ∀ id o b, getO σ.objs id = some o → blk (G id) = some b → Θ.N b → Θ.keeps o = true
  nlt : ∀ b, Θ.N b → b < Θ.w.heap.size
  lt : ∀ b, Z b → b < w.heap.size
  fut : Fut Θ.M Θ.w w
  new : ∀ b, Z b → Θ.Z0 b ∨ Θ.M b ∨ Θ.N b ∨ Θ.w.heap.size ≤ b
  sub : ∀ b, Θ.Z0 b → Z b
  flat : ∀ id, (G id).oneCell' = true
  odd : ∀ id, id % 2 = 1 → G id = Θ.G0 id
  row : ∀ b, Z b → Θ.Z0 b ∨ Plain w b
section
variable {P : Program} {Θ : Anc} {n : Nat} {σ : St} {a : Act} {w : World} {Z : Nat → Prop} {G : Nat → Value}
theorem cond_sv {b : Bool} {s : SV} {v : Value} (h : b = true → RepSV w Z G s v) : RepSV w Z G (bif b then s else .unk) v := by
  cases b
  · trivial
  · exact h rfl
theorem ofConst_rep (v : Value) : RepSV w Z G (ofConst v) v := by
  unfold ofConst
  split <;> first | exact rfl | trivial | skip
  · refine cond_sv fun hb => ?_
    simp only [inK, Bool.and_eq_true, decide_eq_true_eq] at hb
    exact ⟨rfl, hb⟩
  · exact cond_sv fun hb => ⟨rfl, Nat.le_of_ble_eq_true hb⟩
theorem Sim.ev (S : Sim P Θ n σ a w Z G) (x : Operand) : RepSV w Z G (σ.ev x) (a.eval x) := by
  cases x with
  | tmp t => exact S.slot t
  | const v =>
    show RepSV w Z G (ofConst v) v
    exact ofConst_rep v
  | global g => exact trivial
  | func f => exact ⟨#[], rfl, rfl⟩
theorem Sim.set (S : Sim P Θ n σ a w Z G) {t : Nat} {s : SV} {v : Value} (h : RepSV w Z G s v) (ht : t < n) :
    Sim P Θ n (σ.set t s) { a with tmps := a.tmps.setIfInBounds t v } w Z G :=
  { S with
    size := by simpa using S.size
    slot := fun u => by
      show RepSV w Z G (get ((t, s) :: σ.env) u) _
      rw [get_cons]
      by_cases hu : t = u
      · subst hu
        rw [if_pos rfl, Array.getD_eq_getD_getElem?, Array.getElem?_setIfInBounds_self_of_lt (by rw [S.size]; exact ht)]
        exact h
      · rw [if_neg hu]
        have := S.slot u
        rw [Array.getD_eq_getD_getElem?, Array.getElem?_setIfInBounds_ne hu, ← Array.getD_eq_getD_getElem?]
        exact this }
theorem Sim.put (S : Sim P Θ n σ a w Z G) {d : Option Nat} {s : SV} {v : Value} (h : RepSV w Z G s v) (hd : ∀ t, d = some t → t < n) :
    Sim P Θ n (setD σ d s) (a.put d v) w Z G := by
  cases d with
  | none => exact S
  | some t => exact S.set h (hd t rfl)
theorem Sim.know (S : Sim P Θ n σ a w Z G) {t : Nat} {s : SV} (h : RepSV w Z G s (a.tmps.getD t undef)) : Sim P Θ n (σ.set t s) a w Z G :=
  { S with
    slot := fun u => by
      show RepSV w Z G (get ((t, s) :: σ.env) u) _
      rw [get_cons]
      by_cases hu : t = u
      · subst hu; rw [if_pos rfl]; exact h
      · rw [if_neg hu]; exact S.slot u }
theorem Sim.drew (S : Sim P Θ n σ a w Z G) (d : Nat) : Sim P Θ n σ a { w with drawn := d } Z G := by
  have K : Stays w { w with drawn := d } Z Z := ⟨fun _ h => h, fun _ _ => rfl⟩
  exact { S with
    slot := fun t => RepSV.mono K _ _ (S.slot t)
    obj := fun id o ho => by
      have h := S.obj id o ho
      cases o with
      | box cells =>
        obtain ⟨b, ty, c, h1, h2, h3⟩ := h
        exact ⟨b, ty, c, h1, h2, RepSVs.mono K _ _ h3⟩
      | arr e xs =>
        obtain ⟨m, cs, vs, h1, h2, h3⟩ := h
        exact ⟨m, cs, vs, h1, h2, RepElems.mono K h3⟩
      | map t es =>
        obtain ⟨b, ents, kt, vt, km, kcs, vm, vcs, h1, h2, h3, h4, h5, h6⟩ := h
        exact ⟨b, ents, kt, vt, km, kcs, vm, vcs, h1, h2, h3, h4, h5, RepEnts.mono K h6⟩
    fut := ⟨S.fut.os, S.fut.tape, S.fut.output, S.fut.size, S.fut.block⟩ }
end
theorem blk_ownBlock (v : Value) (b : Nat) (h : v.ownBlock = some b) : blk v = some b := by
  unfold Value.ownBlock at h
  split at h
  · exact h
  · cases h
theorem RepO.mono {P : Program} {w w' : World} {Z Z' : Nat → Prop} {G : Nat → Value} {id : Nat} {o : Obj} (K : Stays w w' Z Z') (hb : ∀ b, blk (G id) = some b → w'.heap[b]? = w.heap[b]?) (h : RepO w Z G P id o) : RepO w' Z' G P id o := by
  cases o with
  | box cells =>
    obtain ⟨b, ty, c, h1, h2, h3⟩ := h
    exact ⟨b, ty, c, h1, (hb b (by rw [h1]; rfl)).trans h2, RepSVs.mono K _ _ h3⟩
  | arr e xs =>
    obtain ⟨m, cs, vs, h1, ⟨h2, h2'⟩, h3⟩ := h
    refine ⟨m, cs, vs, h1, ⟨h2, ?_⟩, RepElems.mono K h3⟩
    rcases h2' with h2' | ⟨g, cap, cur, hv, hg, hh, r⟩
    · exact .inl h2'
    · exact .inr ⟨g, cap, cur, hv, hg, (hb g (by rw [hv]; rfl)).trans hh, r⟩
  | map t es =>
    obtain ⟨b, ents, kt, vt, km, kcs, vm, vcs, h1, h2, h3, h4, h5, h6⟩ := h
    exact ⟨b, ents, kt, vt, km, kcs, vm, vcs, h1, (hb b (by rw [h1]; rfl)).trans h2, h3, h4, h5, RepEnts.mono K h6⟩
theorem RepO.sub {P : Program} {w w' : World} {Z Z' : Nat → Prop} {G G' : Nat → Value} {id j : Nat} {x : SV} {o : Obj} (T : Turns w w' Z Z' G G' id x) (hj : j ≠ id) (hb : ∀ b, blk (G j) = some b → w'.heap[b]? = w.heap[b]?)
    (h : RepO w Z G P j o) : RepO w' Z' G' P j (o.sub id x) := by
  cases o with
  | box cells =>
    obtain ⟨b, ty, c, h1, h2, h3⟩ := h
    exact ⟨b, ty, c, (T.other j hj).trans h1, (hb b (by rw [h1]; rfl)).trans h2, RepSVs.sub T _ _ h3⟩
  | arr e xs =>
    have h' : RepO w' Z' G P j (.arr e xs) := RepO.mono T.toStays hb h
    obtain ⟨m, cs, vs, h1, h2, h3⟩ := h'
    refine ⟨m, cs, vs, h1, ?_, h3⟩
    rw [T.other j hj]; exact h2
  | map t es =>
    have h' : RepO w' Z' G P j (.map t es) := RepO.mono T.toStays hb h
    obtain ⟨b, ents, kt, vt, km, kcs, vm, vcs, h1, h2⟩ := h'
    exact ⟨b, ents, kt, vt, km, kcs, vm, vcs, (T.other j hj).trans h1, h2⟩
section
variable {P : Program} {Θ : Anc} {n : Nat} {σ : St} {a : Act} {w w' : World} {Z : Nat → Prop} {G : Nat → Value}
theorem RepO.lt (S : Sim P Θ n σ a w Z G) {j : Nat} {p : Obj} {b : Nat} (hp : getO σ.objs j = some p) (hb : blk (G j) = some b) : b < w.heap.size := by
  have hr := S.obj j p hp
  cases p with
  | box cells =>
    obtain ⟨b', ty, c, h1, h2, _⟩ := hr
    rw [h1] at hb
    have hb : b' = b := by simpa [blk] using hb
    subst hb
    rcases Nat.lt_or_ge b' w.heap.size with h | h
    · exact h
    · rw [Array.getElem?_eq_none h] at h2; cases h2
  | arr e xs =>
    obtain ⟨m, cs, vs, _, h2, _⟩ := hr
    refine (World.ownsRow.lt h2 b ?_).2
    rcases h2.2 with ⟨h3, _⟩ | ⟨g, cap, cur, h3, _⟩
    · rw [h3] at hb; simp [blk] at hb
    · rw [h3] at hb ⊢; simpa [blk, Value.ownBlock] using hb
  | map t es =>
    obtain ⟨b', ents, kt, vt, km, kcs, vm, vcs, h1, h2, _⟩ := hr
    rw [h1] at hb
    have hb : b' = b := by simpa [blk] using hb
    subst hb
    rcases Nat.lt_or_ge b' w.heap.size with h | h
    · exact h
    · rw [Array.getElem?_eq_none h] at h2; cases h2
theorem Sim.newO (S : Sim P Θ n σ a w Z G) {id : Nat} {o : Obj} {v : Value} {row : Option Nat} (hev : id % 2 = 0) (hg : w.grownBy w' row)
    (hrow : ∀ b, row = some b → blk (G id) = some b ∧ ∃ p, getO σ.objs id = some p ∧ Θ.keeps p = false)
    (hv : ∀ b, blk v = some b → row = some b ∨ w.heap.size ≤ b)
    (ho : RepO w' Z (fun i => if i = id then v else G i) P id o) :
    Sim P Θ n (σ.new id o) a w' Z (fun i => if i = id then v else G i) := by
  have hZrow : ∀ b, Z b → some b ≠ row := by
    intro b hb he
    obtain ⟨h1, p, hp, _⟩ := hrow b he.symm
    exact (S.free id p b hp h1).1 hb
  have hK : Stays w w' Z Z := ⟨fun _ h => h, fun b hb => hg.block b (S.lt b hb) (hZrow b hb)⟩
  have T : Turns w w' Z Z G (fun i => if i = id then v else G i) id .unk := { toStays := hK, other := fun i hi => if_neg hi, its := trivial }
  have hobj : ∀ j o', j ≠ id → getO (σ.new id o).objs j = some o' → ∃ p, getO σ.objs j = some p ∧ o' = p.sub id .unk := by
    intro j o' hj h
    have h : getO ((id, o) :: dropO (subO id .unk σ.objs) id) j = some o' := h
    rw [getO_cons, if_neg (Ne.symm hj), getO_dropO_other _ hj, getO_subO] at h
    obtain ⟨p, h1, h2⟩ := Option.map_eq_some_iff.1 h
    exact ⟨p, h1, h2.symm⟩
  have hlt : ∀ j p b, getO σ.objs j = some p → blk (G j) = some b → b < w.heap.size := fun j p b hp hb => RepO.lt S hp hb
  have hother : ∀ j p b, j ≠ id → getO σ.objs j = some p → blk (G j) = some b → some b ≠ row := by
    intro j p b hj hp hb he
    obtain ⟨h1, q, hq, _⟩ := hrow b he.symm
    exact hj (S.sep j id p q b hp hq hb h1)
  refine { size := S.size, calm := S.calm, slot := ?_, obj := ?_, sep := ?_, free := ?_, keep := ?_, nlt := S.nlt, lt := ?_, fut := ?_, new := S.new, sub := S.sub, flat := ?_, odd := fun i hi => (if_neg (by rintro rfl; omega)).trans (S.odd i hi), row := fun b hb => (S.row b hb).imp (fun h => h) fun h => h.of (hK.same b hb) }
  · intro t
    show RepSV w' Z _ (get (subE id .unk σ.env) t) _
    rw [get_subE]
    exact RepSV.sub T _ _ (S.slot t)
  · intro j o' hj
    by_cases h : j = id
    · subst h
      have hj : getO ((j, o) :: dropO (subO j .unk σ.objs) j) j = some o' := hj
      rw [getO_cons, if_pos rfl] at hj
      cases hj
      exact ho
    · obtain ⟨p, hp, rfl⟩ := hobj j o' h hj
      exact RepO.sub T h (fun b hb => hg.block b (hlt j p b hp hb) (hother j p b h hp hb)) (S.obj j p hp)
  · intro j j' p p' b hp hp' hb hb'
    by_cases h : j = id <;> by_cases h' : j' = id
    · rw [h, h']
    · obtain ⟨q, hq, _⟩ := hobj j' p' h' hp'
      simp only [h, if_true] at hb
      simp only [h', if_false] at hb'
      have h1 := hlt j' q b hq hb'
      rcases hv b hb with h2 | h2
      · exact absurd h2.symm (hother j' q b h' hq hb')
      · omega
    · obtain ⟨q, hq, _⟩ := hobj j p h hp
      simp only [h', if_true] at hb'
      simp only [h, if_false] at hb
      have h1 := hlt j q b hq hb
      rcases hv b hb' with h2 | h2
      · exact absurd h2.symm (hother j q b h hq hb)
      · omega
    · obtain ⟨q, hq, _⟩ := hobj j p h hp
      obtain ⟨q', hq', _⟩ := hobj j' p' h' hp'
      simp only [h, if_false] at hb
      simp only [h', if_false] at hb'
      exact S.sep j j' q q' b hq hq' hb hb'
  · intro j p b hp hb
    by_cases h : j = id
    · simp only [h, if_true] at hb
      rcases hv b hb with h1 | h1
      · obtain ⟨h2, q, hq, _⟩ := hrow b h1
        exact S.free id q b hq h2
      · exact ⟨fun hz => by have := S.lt b hz; omega, .inr (.inr (Nat.le_trans S.fut.size h1))⟩
    · obtain ⟨q, hq, _⟩ := hobj j p h hp
      simp only [h, if_false] at hb
      exact S.free j q b hq hb
  · intro j p b hp hb hN
    by_cases h : j = id
    · simp only [h, if_true] at hb
      rcases hv b hb with h1 | h1
      · obtain ⟨h2, q, hq, hkq⟩ := hrow b h1
        have := S.keep id q b hq h2 hN
        rw [hkq] at this; cases this
      · refine absurd hN fun hN => ?_
        have := S.nlt b hN
        have := S.fut.size
        omega
    · obtain ⟨q, hq, rfl⟩ := hobj j p h hp
      simp only [h, if_false] at hb
      have h2 := S.keep j q b hq hb hN
      cases q <;> exact h2
  · exact fun b hb => Nat.lt_of_lt_of_le (S.lt b hb) hg.size
  · refine S.fut.trans (M' := fun b => row = some b) ⟨hg.os, hg.tape, hg.output, hg.size, fun k hk hn => hg.block k hk (fun e => hn e.symm)⟩ (fun _ h => h) (fun b hb h => ?_)
    obtain ⟨h1, q, hq, hkq⟩ := hrow b h
    rcases (S.free id q b hq h1).2 with h2 | h2 | h2
    · exact h2
    · have := S.keep id q b hq h1 h2
      rw [hkq] at this; cases this
    · omega
  · intro j
    by_cases h : j = id
    · subst h
      cases o with
      | box cells => obtain ⟨b, ty, c, h1, _⟩ := ho; show Value.oneCell' ((fun i => if i = j then v else G i) j) = true; rw [h1]; rfl
      | arr e xs =>
        obtain ⟨m, cs, vs, _, h2, _⟩ := ho
        rcases h2.2 with ⟨h3, _⟩ | ⟨g, cap, cur, h3, _⟩ <;> (show Value.oneCell' ((fun i => if i = j then v else G i) j) = true; rw [h3]; rfl)
      | map t es => obtain ⟨b, ents, kt, vt, km, kcs, vm, vcs, h1, _⟩ := ho; show Value.oneCell' ((fun i => if i = j then v else G i) j) = true; rw [h1]; rfl
    · simp only [h, if_false]; exact S.flat j
theorem Sim.stored (S : Sim P Θ n σ a w Z G) {id : Nat} {o o' : Obj} {b : Nat} (hp : getO σ.objs id = some o) (hb : blk (G id) = some b) (hg : w.grownBy w' (some b)) (hs : w'.heap.size = w.heap.size)
    (hkq : Θ.keeps o = false) (ho : RepO w' Z G P id o') : Sim P Θ n (σ.setO id o') a w' Z G := by
  have hZ : ∀ c, Z c → some c ≠ some b := fun c hc e => (S.free id o b hp hb).1 (by cases e; exact hc)
  have hK : Stays w w' Z Z := ⟨fun _ h => h, fun c hc => hg.block c (S.lt c hc) (hZ c hc)⟩
  have hobj : ∀ j q, j ≠ id → getO (σ.setO id o').objs j = some q → getO σ.objs j = some q := by
    intro j q hj h
    have h : getO ((id, o') :: dropO σ.objs id) j = some q := h
    rwa [getO_cons, if_neg (Ne.symm hj), getO_dropO_other _ hj] at h
  have hin : ∀ j q, getO (σ.setO id o').objs j = some q → ∃ p, getO σ.objs j = some p := by
    intro j q h
    by_cases hj : j = id
    · exact ⟨o, by rw [hj]; exact hp⟩
    · exact ⟨q, hobj j q hj h⟩
  refine { size := S.size, calm := S.calm, slot := fun t => RepSV.mono hK _ _ (S.slot t), obj := ?_, sep := ?_, free := ?_, keep := ?_, nlt := S.nlt, lt := fun c hc => by rw [hs]; exact S.lt c hc, fut := ?_, new := S.new, sub := S.sub, flat := S.flat, odd := S.odd, row := fun c hc => (S.row c hc).imp (fun h => h) fun h => h.of (hK.same c hc) }
  · intro j q hj
    by_cases h : j = id
    · subst h
      have hj : getO ((j, o') :: dropO σ.objs j) j = some q := hj
      rw [getO_cons, if_pos rfl] at hj
      cases hj
      exact ho
    · have hq := hobj j q h hj
      exact RepO.mono hK (fun c hc => hg.block c (RepO.lt S hq hc) (fun e => h (S.sep j id q o c hq hp hc (by rw [hb]; exact e.symm)))) (S.obj j q hq)
  · intro j j' p p' c hp1 hp2 hb1 hb2
    obtain ⟨q, hq⟩ := hin j p hp1
    obtain ⟨q', hq'⟩ := hin j' p' hp2
    exact S.sep j j' q q' c hq hq' hb1 hb2
  · intro j p c hp1 hb1
    obtain ⟨q, hq⟩ := hin j p hp1
    exact S.free j q c hq hb1
  · intro j p c hp1 hb1 hN
    by_cases h : j = id
    · subst h
      have := S.keep j o c hp hb1 hN
      rw [hkq] at this; cases this
    · exact S.keep j p c (hobj j p h hp1) hb1 hN
  · refine S.fut.trans (M' := fun c => c = b) ⟨hg.os, hg.tape, hg.output, hg.size, fun k hk hn => hg.block k hk (fun e => hn (by cases e; rfl))⟩ (fun _ h => h) (fun c hc h => ?_)
    subst h
    rcases (S.free id o c hp hb).2 with h2 | h2 | h2
    · exact h2
    · have := S.keep id o c hp hb h2
      rw [hkq] at this; cases this
    · omega
end
def Live (σ : St) (G : Nat → Value) (b : Nat) : Prop := ∃ id e xs, getO σ.objs id = some (.arr e xs) ∧ blk (G id) = some b
theorem arr_plain {P : Program} {w : World} {Z : Nat → Prop} {G : Nat → Value} {id : Nat} {e : TypeId} {xs : List U} (h : RepO w Z G P id (.arr e xs)) {b : Nat} (hb : blk (G id) = some b) : Plain w b := by
  obtain ⟨m, cs, vs, h1, ⟨_, h2⟩, h3⟩ := h
  rcases h2 with ⟨h2, _⟩ | ⟨g, cap, cur, h2, _, h4, _⟩
  · rw [h2] at hb; cases hb
  · rw [h2] at hb; cases hb; exact ⟨cur, e, h4⟩
section
variable {P : Program} {Θ : Anc} {n : Nat} {σ : St} {a : Act} {w : World} {Z : Nat → Prop} {G : Nat → Value}
theorem Sim.freeze (S : Sim P Θ n σ a w Z G) {id : Nat} {o : Obj} {x : SV} (hp : getO σ.objs id = some o)
    (hx : RepSV w (fun b => Z b ∨ blk (G id) = some b) G x (G id)) (hpl : ∀ b, blk (G id) = some b → Plain w b) : Sim P Θ n (σ.freeze id x) a w (fun b => Z b ∨ blk (G id) = some b) G := by
  have T : Turns w w Z (fun b => Z b ∨ blk (G id) = some b) G G id x := { sub := fun _ h => .inl h, same := fun _ _ => rfl, other := fun _ _ => rfl, its := hx }
  have hobj : ∀ j q, getO (σ.freeze id x).objs j = some q → j ≠ id ∧ ∃ p, getO σ.objs j = some p ∧ q = p.sub id x := by
    intro j q h
    have h : getO (subO id x (dropO σ.objs id)) j = some q := h
    rw [getO_subO] at h
    obtain ⟨p, h1, h2⟩ := Option.map_eq_some_iff.1 h
    by_cases hj : j = id
    · subst hj; rw [getO_dropO_same] at h1; cases h1
    · rw [getO_dropO_other _ hj] at h1
      exact ⟨hj, p, h1, h2.symm⟩
  refine { size := S.size, calm := S.calm, slot := ?_, obj := ?_, sep := ?_, free := ?_, keep := ?_, nlt := S.nlt, lt := ?_, fut := S.fut, new := ?_, sub := fun b hb => .inl (S.sub b hb), flat := S.flat, odd := S.odd, row := fun b hb => hb.elim (S.row b) fun h => .inr (hpl b h) }
  · intro t
    show RepSV w _ _ (get (subE id x σ.env) t) _
    rw [get_subE]
    exact RepSV.sub T _ _ (S.slot t)
  · intro j q hj
    obtain ⟨hne, p, hq, rfl⟩ := hobj j q hj
    exact RepO.sub T hne (fun _ _ => rfl) (S.obj j p hq)
  · intro j j' p p' b h1 h2 hb1 hb2
    obtain ⟨_, q, hq, _⟩ := hobj j p h1
    obtain ⟨_, q', hq', _⟩ := hobj j' p' h2
    exact S.sep j j' q q' b hq hq' hb1 hb2
  · intro j p b h1 hb
    obtain ⟨hne, q, hq, _⟩ := hobj j p h1
    refine ⟨?_, (S.free j q b hq hb).2⟩
    rintro (h | h)
    · exact (S.free j q b hq hb).1 h
    · exact hne (S.sep j id q o b hq hp hb h)
  · intro j p b h1 hb hN
    obtain ⟨hne, q, hq, rfl⟩ := hobj j p h1
    have h2 := S.keep j q b hq hb hN
    cases q <;> exact h2
  · rintro b (h | h)
    · exact S.lt b h
    · exact RepO.lt S hp h
  · rintro b (h | h)
    · exact S.new b h
    · exact .inr (S.free id o b hp h).2
theorem Sim.less (S : Sim P Θ n σ a w Z G) {τ : St} (he : ∀ t, get τ.env t = get σ.env t ∨ get τ.env t = .unk) (ho : ∀ id o, getO τ.objs id = some o → getO σ.objs id = some o) : Sim P Θ n τ a w Z G :=
  { S with
    slot := fun t => by
      rcases he t with h | h
      · rw [h]; exact S.slot t
      · rw [h]; trivial
    obj := fun id o h => S.obj id o (ho id o h)
    sep := fun id id' o o' b h h' hb hb' => S.sep id id' o o' b (ho id o h) (ho id' o' h') hb hb'
    free := fun id o b h hb => S.free id o b (ho id o h) hb
    keep := fun id o b h hb => S.keep id o b (ho id o h) hb }
end
end Go.Den

namespace Go.Den
open Go Go.RowKit
section runs
variable {P : Program} {w : World}
theorem addr_add (b o i : Nat) : (⟨b, o, none⟩ : Addr).add i = ⟨b, o + i, none⟩ := by unfold Addr.add; split <;> simp_all
theorem sizeT_info {t : TypeId} {k : Nat} (h : sizeT P t = some k) : ∃ i, P.info? t = some i ∧ i.size = k := by
  unfold sizeT at h
  split at h
  · rename_i i hi; injection h with h; exact ⟨i, hi, h⟩
  · cases h
theorem run_size {t : TypeId} {k : Nat} (h : sizeT P t = some k) : (sizeOf t).run P w = .ok k w := by
  obtain ⟨i, hi, rfl⟩ := sizeT_info h
  simp [sizeOf, typeInfo, hi]
theorem run_isAgg {t : TypeId} {d : TypeDesc} (h : P.underlying t = some d) : (_root_.Go.isAgg t).run P w = .ok (aggD d) w := by
  simp only [_root_.Go.isAgg, Sem.run_bind, run_underlying h, Result.andThen]
  cases d <;> rfl
theorem run_loadVar_one {t : TypeId} {d : TypeDesc} (h : P.underlying t = some d) (hd : aggD d = false) {p : Addr} {v : Value} (hc : w.cell? p = some v) : (loadVar t p).run P w = .ok v w := by
  simp only [loadVar, Sem.run_bind, run_isAgg h, Result.andThen, hd]
  simp [hc]
theorem run_loadVar_agg {t : TypeId} {d : TypeDesc} {k : Nat} (h : P.underlying t = some d) (hd : aggD d = true) (hk : sizeT P t = some k) {b o : Nat} {vs : List Value} (hl : vs.length = k)
    (hc : ∀ j v, vs[j]? = some v → w.cell? ⟨b, o + j, none⟩ = some v) : (loadVar t ⟨b, o, none⟩).run P w = .ok (.agg vs.toArray) w := by
  subst hl
  simp only [loadVar, Sem.run_bind, run_isAgg h, Result.andThen, hd, if_true, run_size hk]
  rw [run_loadCells_list (P := P) w ⟨b, o, none⟩ vs (fun j v hj => by rw [addr_add]; exact hc j v hj)]
  rfl
theorem part_some {t : TypeId} {cells : List SV} {off : Nat} {s : SV} (h : part P t cells off = some s) :
    ∃ k d, sizeT P t = some k ∧ P.underlying t = some d ∧
      ((aggD d = true ∧ off + k ≤ cells.length ∧ s = .agg ((cells.drop off).take k)) ∨ (aggD d = false ∧ off < cells.length ∧ s = nth .unk cells off)) := by
  unfold part at h
  split at h
  · rename_i k d hk hd
    refine ⟨k, d, hk, hd, ?_⟩
    split at h
    · rename_i hagg
      cases hle : Nat.ble (off + k) cells.length with
      | true => rw [hle] at h; injection h with h; exact .inl ⟨hagg, Nat.le_of_ble_eq_true hle, h.symm⟩
      | false => rw [hle] at h; cases h
    · rename_i hagg
      cases hle : Nat.blt off cells.length with
      | true => rw [hle] at h; injection h with h; exact .inr ⟨hagg, by simpa [Nat.blt_eq] using hle, h.symm⟩
      | false => rw [hle] at h; cases h
  · cases h
theorem nth_getElem {l : List SV} {i : Nat} {s : SV} (h : l[i]? = some s) : nth .unk l i = s := by
  induction l generalizing i with
  | nil => simp at h
  | cons x r ih => cases i with
    | zero => simpa using h
    | succ i => exact ih (by simpa using h)
theorem run_load_all {Z : Nat → Prop} {G : Nat → Value} {t : TypeId} {cells : List SV} {vs : List Value} {off b o : Nat} {s : SV} (hr : RepSVs w Z G cells vs) (hc : ∀ j v, vs[j]? = some v → w.cell? ⟨b, o + j, none⟩ = some v)
    (h : part P t cells off = some s) : ∃ v, (∀ w' : World, w'.heap[b]? = w.heap[b]? → (loadVar t ⟨b, o + off, none⟩).run P w' = .ok v w') ∧ RepSV w Z G s v := by
  obtain ⟨k, d, hk, hd, ⟨ha, hle, rfl⟩ | ⟨ha, hlt, rfl⟩⟩ := part_some h
  · refine ⟨.agg ((vs.drop off).take k).toArray, fun w' hw' => run_loadVar_agg hd ha hk ?_ (fun j v hj => ?_), ⟨_, rfl, ?_⟩⟩
    · have := hr.length; simp; omega
    · have hv : vs[off + j]? = some v := by
        rw [List.getElem?_take] at hj
        split at hj
        · rwa [List.getElem?_drop] at hj
        · cases hj
      rw [Nat.add_assoc, World.cell?_of_block (w := w) (a := ⟨b, o + (off + j), none⟩) hw']; exact hc _ v hv
    · exact (hr.drop off).take k
  · have hl : off < vs.length := by rw [← hr.length]; exact hlt
    have hv : vs[off]? = some vs[off] := List.getElem?_eq_getElem hl
    exact ⟨vs[off], fun w' hw' => run_loadVar_one hd ha (by rw [World.cell?_of_block (w := w) (a := ⟨b, o + off, none⟩) hw']; exact hc off _ hv), hr.nth off _ hv⟩
theorem run_load_part {Z : Nat → Prop} {G : Nat → Value} {t : TypeId} {cells : List SV} {vs : List Value} {off b o : Nat} {s : SV} (hr : RepSVs w Z G cells vs) (hc : ∀ j v, vs[j]? = some v → w.cell? ⟨b, o + j, none⟩ = some v)
    (h : part P t cells off = some s) : ∃ v, (loadVar t ⟨b, o + off, none⟩).run P w = .ok v w ∧ RepSV w Z G s v := by
  obtain ⟨v, h1, h2⟩ := run_load_all hr hc h
  exact ⟨v, h1 w rfl, h2⟩
theorem run_part {Z : Nat → Prop} {G : Nat → Value} {t : TypeId} {cells : List SV} {vs : Array Value} {off : Nat} {s : SV} (hr : RepSVs w Z G cells vs.toList)
    (h : part P t cells off = some s) : ∃ v, (∀ w' : World, (_root_.Go.part t vs off).run P w' = .ok v w') ∧ RepSV w Z G s v := by
  obtain ⟨k, d, hk, hd, ⟨ha, hle, rfl⟩ | ⟨ha, hlt, rfl⟩⟩ := part_some h
  · refine ⟨.agg (vs.extract off (off + k)), ?_, ⟨_, rfl, ?_⟩⟩
    · intro w'
      simp only [_root_.Go.part, Sem.run_bind, run_isAgg hd, Result.andThen, ha, if_true, run_size hk]
      rfl
    · have : (vs.extract off (off + k)).toList = (vs.toList.drop off).take k := by
        simp [Array.toList_extract, List.extract_eq_take_drop]
      rw [this]
      exact (hr.drop off).take k
  · have hl : off < vs.size := by have := hr.length; simp at this; omega
    have hv : vs.toList[off]? = some vs[off] := by simp [hl]
    refine ⟨vs[off], ?_, hr.nth off _ hv⟩
    intro w'
    simp only [_root_.Go.part, Sem.run_bind, run_isAgg hd, Result.andThen, ha]
    simp [Array.getElem?_eq_getElem hl]
theorem RepCs.vals {Z : Nat → Prop} {G : Nat → Value} {b : Nat} : ∀ {cs : List Ct} {o : Nat} {us : List U}, RepCs w Z cs b o us → ∃ vs, vs.length = cs.length ∧ RepSVs w Z G (vals cs us) vs ∧ ∀ j v, vs[j]? = some v → w.cell? ⟨b, o + j, none⟩ = some v
  | [], _, _, _ => ⟨[], rfl, rfl, fun j v h => by simp at h⟩
  | c :: cs, o, us, h => by
    obtain ⟨⟨v, hc, hr⟩, ht⟩ := h
    obtain ⟨vs, hl, hvs, hcell⟩ := RepCs.vals (G := G) ht
    refine ⟨v :: vs, by simp [hl], ⟨v, vs, rfl, hr, hvs⟩, fun j u hj => ?_⟩
    cases j with
    | zero => simp at hj; subst hj; exact hc
    | succ j => have := hcell j u (by simpa using hj); rwa [show o + (j + 1) = o + 1 + j by omega]
theorem RepCs.drop {Z : Nat → Prop} {b : Nat} : ∀ {cs : List Ct} {o : Nat} {us : List U} (k : Nat), RepCs w Z cs b o us → RepCs w Z (cs.drop k) b (o + k) (us.drop k)
  | _, _, _, 0, h => h
  | [], _, _, _ + 1, _ => trivial
  | c :: cs, o, us, k + 1, h => by
    have := RepCs.drop k h.2
    rw [show o + (k + 1) = o + 1 + k by omega]
    cases us with
    | nil => simpa using this
    | cons u us => simpa using this
end runs
section ops
variable {P : Program} {Θ : Anc} {n : Nat} {σ : St} {a : Act} {w : World} {Z : Nat → Prop} {G : Nat → Value} {o : Oper} {K : Act → World → Prop} {Q : Exit → Act → World → Prop}
theorem wp_value {v : Value} {w' : World} (h : (execOp a.eval o).run P w = .ok (.value v) w') (hk : K (a.put o.dst v) w') : o.wp P a w K Q := by
  unfold Oper.wp; rw [h]; exact hk
theorem wp_skip_ {w' : World} (h : (execOp a.eval o).run P w = .ok .skip w') (hk : K (a.put o.dst undef) w') : o.wp P a w K Q := by
  unfold Oper.wp; rw [h]; exact hk
theorem op_move {x : Operand} (ho : o.op = .move x) (hk : K (a.put o.dst (a.eval x)) w) : o.wp P a w K Q :=
  wp_value (by simp [execOp, ho]) hk
theorem op_assign {x : Operand} (ho : o.op = .assign x) (hk : K (a.put o.dst (a.eval x)) w) : o.wp P a w K Q :=
  wp_value (by simp [execOp, ho]) hk
theorem op_pick {c x y : Operand} {t : Bool} (ho : o.op = .pick c x y) (hc : a.eval c = .bool t) (hk : K (a.put o.dst (if t then a.eval x else a.eval y)) w) : o.wp P a w K Q :=
  wp_value (by simp [execOp, ho, hc, asBool]) hk
theorem op_box {e : TypeId} {x : Operand} (ho : o.op = .box e x) (hk : K (a.put o.dst (.pointer (some ⟨w.heap.size, 0, none⟩))) (w.alloc (.cells (a.eval x).cells e))) : o.wp P a w K Q :=
  wp_value (by simp [execOp, ho, Instr.box, newVar, newRow]) hk
theorem op_alloc {e : TypeId} {i : TypeInfo} {z : Value} (ho : o.op = .alloc e) (hi : P.info? e = some i) (hz : i.zero = some z)
    (hk : K (a.put o.dst (.pointer (some ⟨w.heap.size, 0, none⟩))) (w.alloc (.cells z.cells e))) : o.wp P a w K Q :=
  wp_value (by simp [execOp, ho, Instr.alloc, zeroValue, typeInfo, hi, hz, newVar, newRow]) hk
theorem op_load {t : TypeId} {x : Operand} {p : Addr} {v : Value} (ho : o.op = .load t x) (hx : a.eval x = .pointer (some p)) (hl : (loadVar t p).run P w = .ok v w) (hk : K (a.put o.dst v) w) : o.wp P a w K Q :=
  wp_value (by simp [execOp, ho, hx, Instr.loadAt, Instr.sureAddr, hl]) hk
theorem op_nilCheck {x : Operand} {p : Addr} (ho : o.op = .nilCheck x) (hx : a.eval x = .pointer (some p)) (hk : K (a.put o.dst (.pointer (some p))) w) : o.wp P a w K Q :=
  wp_value (by simp [execOp, ho, hx]) hk
theorem op_not {t : TypeId} {x : Operand} {b : Bool} (ho : o.op = .unOp .not t x) (hx : a.eval x = .bool b) (hk : K (a.put o.dst (.bool !b)) w) : o.wp P a w K Q :=
  wp_value (by simp [execOp, ho, hx, Op.unary]) hk
theorem op_neg {t : TypeId} {x : Operand} {k : IntKind} {i : Int} (ho : o.op = .unOp .neg t x) (hx : a.eval x = .int k i) (hk : K (a.put o.dst (.int k (k.wrap (0 - i)))) w) : o.wp P a w K Q :=
  wp_value (by simp [execOp, ho, hx, Op.unary, Op.intArith]) hk
theorem run_compl {k : IntKind} {i : Int} (w : World) : (Op.unary .xor (.int k i)).run P w = .ok (.int k (compl k i)) w := by
  unfold compl
  cases hs : k.signed <;> simp [Op.unary, Op.intBits, hs]
theorem op_compl {t : TypeId} {x : Operand} {k : IntKind} {i : Int} (ho : o.op = .unOp .xor t x) (hx : a.eval x = .int k i) (hk : K (a.put o.dst (.int k (compl k i))) w) : o.wp P a w K Q :=
  wp_value (by simp [execOp, ho, hx, run_compl]) hk
theorem op_fieldAddr {s : TypeId} {x : Operand} {f k : Nat} {fd : Field} {b off : Nat} (ho : o.op = .fieldAddr s x f) (hf : fieldOf P s f = some fd) (hs : sizeT P fd.type = some (k + 1)) (hx : a.eval x = .pointer (some ⟨b, off, none⟩))
    (hk : K (a.put o.dst (.pointer (some ⟨b, off + fd.offset, none⟩))) w) : o.wp P a w K Q := by
  unfold fieldOf at hf
  split at hf
  · rename_i fs hu
    refine wp_value (v := .pointer (some ⟨b, off + fd.offset, none⟩)) (w' := w) ?_ hk
    simp [execOp, ho, hx, Instr.fieldAt, run_underlying hu, hf, Instr.sureAddr, fieldPlace, run_size hs, addr_add]
  · cases hf
theorem op_field {s : TypeId} {x : Operand} {f : Nat} {fd : Field} {vs : Array Value} {v : Value} (ho : o.op = .field s x f) (hf : fieldOf P s f = some fd) (hx : a.eval x = .agg vs)
    (hp : (_root_.Go.part fd.type vs fd.offset).run P w = .ok v w) (hk : K (a.put o.dst v) w) : o.wp P a w K Q := by
  unfold fieldOf at hf
  split at hf
  · rename_i fs hu
    refine wp_value (v := v) (w' := w) ?_ hk
    simp [execOp, ho, hx, Instr.field, run_underlying hu, hf, asAgg, hp]
  · cases hf
theorem op_indexAddr {t e : TypeId} {x i : Operand} {k b off len c : Nat} {kd : IntKind} {j : Int} (ho : o.op = .indexAddr t x i) (hu : P.underlying t = some (.slice e)) (hs : sizeT P e = some k)
    (hx : a.eval x = .slice (some ⟨b, off, none⟩) len c) (hi : a.eval i = .int kd j) (h0 : 0 ≤ j) (h1 : j < len)
    (hk : K (a.put o.dst (.pointer (some ⟨b, off + j.toNat * k, none⟩))) w) : o.wp P a w K Q := by
  refine wp_value (v := .pointer (some ⟨b, off + j.toNat * k, none⟩)) (w' := w) ?_ hk
  simp [execOp, ho, hx, hi, Instr.indexAt, asIntOf, run_underlying hu, run_size hs, addr_add, h0, h1]
theorem op_index {t : TypeId} {x i : Operand} {s : ByteArray} {kd : IntKind} {j : Int} (ho : o.op = .index t x i) (hu : P.underlying t = some .string) (hx : a.eval x = .string s) (hi : a.eval i = .int kd j) (h0 : 0 ≤ j) (h1 : j < s.size)
    (hk : K (a.put o.dst (.int .u8 (s.data.toList.getD j.toNat 0).toNat)) w) : o.wp P a w K Q := by
  refine wp_value (v := .int .u8 (s.data.toList.getD j.toNat 0).toNat) (w' := w) ?_ hk
  have hj : j.toNat < s.size := by omega
  have hget : s[j.toNat]? = some s[j.toNat] := by simp [hj]
  have hdata : s.data[j.toNat]? = some s[j.toNat] := Array.getElem?_eq_getElem hj
  simp [execOp, ho, hx, hi, Instr.index, asIntOf, run_underlying hu, h0, hget, hdata]
theorem op_extract {x : Operand} {i : Nat} {vs : Array Value} {v : Value} (ho : o.op = .extract x i) (hx : a.eval x = .tuple vs) (hv : vs[i]? = some v) (hk : K (a.put o.dst v) w) : o.wp P a w K Q :=
  wp_value (by simp [execOp, ho, hx, Instr.extract, hv]) hk
theorem op_len_slice {t : TypeId} {e : TypeId} {args : Array Operand} {x : Operand} {A : Option Addr} {l c : Nat} {ts : Array TypeId} (ho : o.op = .call { callee := .builtin .len, args := args, argTypes := ts }) (ha : args.toList = [x]) (ht : ts.toList = [t])
    (hu : P.underlying t = some (.slice e)) (hx : a.eval x = .slice A l c) (hk : K (a.put o.dst (.int .i64 (l : Int))) w) : o.wp P a w K Q := by
  refine wp_value (v := .int .i64 (l : Int)) (w' := w) ?_ hk
  have ha' : args = #[x] := by cases args; simp_all
  have ht' : ts = #[t] := by cases ts; simp_all
  subst ha' ht'
  simp [execOp, ho, resolve, invoke, builtin, Builtin.len_, run_underlying hu, hx, goInt]
theorem op_len_string {t : TypeId} {args : Array Operand} {x : Operand} {s : ByteArray} {ts : Array TypeId} (ho : o.op = .call { callee := .builtin .len, args := args, argTypes := ts }) (ha : args.toList = [x]) (ht : ts.toList = [t])
    (hu : P.underlying t = some .string) (hx : a.eval x = .string s) (hk : K (a.put o.dst (.int .i64 (s.size : Int))) w) : o.wp P a w K Q := by
  refine wp_value (v := .int .i64 (s.size : Int)) (w' := w) ?_ hk
  have ha' : args = #[x] := by cases args; simp_all
  have ht' : ts = #[t] := by cases ts; simp_all
  subst ha' ht'
  simp [execOp, ho, resolve, invoke, builtin, Builtin.len_, run_underlying hu, hx, goInt]
end ops
end Go.Den

namespace Go.Den
open Go Go.RowKit
theorem setCells_block (b : Nat) (ty : TypeId) : ∀ (vs : List Value) (o : Nat) (w : World) (cur : Array Value), w.heap[b]? = some (.cells cur ty (0, 0)) → o + vs.length ≤ cur.size →
    ∃ cur', (w.setCells b o vs).heap[b]? = some (.cells cur' ty (0, 0)) ∧ cur'.toList = cur.toList.take o ++ vs ++ cur.toList.drop (o + vs.length) ∧ cur'.size = cur.size
  | [], o, w, cur, h, _ => ⟨cur, h, by simp, rfl⟩
  | v :: r, o, w, cur, h, hl => by
    have hb : b < w.heap.size := (Array.getElem?_eq_some_iff.1 h).1
    have h1 : (w.setCell ⟨b, o, none⟩ v).heap[b]? = some (.cells (cur.setIfInBounds o v) ty (0, 0)) := by
      simp [World.setCell, Array.getElem?_modify, h]
    simp only [List.length_cons] at hl
    obtain ⟨cur', h2, h3, h4⟩ := setCells_block b ty r (o + 1) _ _ h1 (by simp; omega)
    refine ⟨cur', h2, ?_, by simpa using h4⟩
    rw [h3]
    have ho : o < cur.toList.length := by simp; omega
    rw [Array.toList_setIfInBounds, List.take_succ_eq_append_getElem (by simpa using ho)]
    simp only [List.length_cons]
    rw [List.take_set_of_le (Nat.le_refl o), List.getElem_set_self, List.drop_set_of_lt (by omega), show o + 1 + r.length = o + (r.length + 1) by omega]
    simp
theorem setCells_other (b : Nat) : ∀ (vs : List Value) (o : Nat) (w : World) (k : Nat), k ≠ b → (w.setCells b o vs).heap[k]? = w.heap[k]?
  | [], _, _, _, _ => rfl
  | v :: r, o, w, k, hk => by
    rw [World.setCells, setCells_other b r (o + 1) _ k hk]
    exact Below.heap_setCell w ⟨b, o, none⟩ v k hk
theorem setCells_plain (b : Nat) : ∀ (vs : List Value) (o : Nat) (w : World), (w.setCells b o vs).os = w.os ∧ (w.setCells b o vs).tape = w.tape ∧ (w.setCells b o vs).output = w.output ∧ (w.setCells b o vs).heap.size = w.heap.size
  | [], _, _ => ⟨rfl, rfl, rfl, rfl⟩
  | v :: r, o, w => by
    obtain ⟨h1, h2, h3, h4⟩ := setCells_plain b r (o + 1) (w.setCell ⟨b, o, none⟩ v)
    exact ⟨h1, h2, h3, by rw [World.setCells, h4]; simp [World.setCell]⟩
theorem setCells_grown (b : Nat) (vs : List Value) (o : Nat) (w : World) : w.grownBy (w.setCells b o vs) (some b) := by
  obtain ⟨h1, h2, h3, h4⟩ := setCells_plain b vs o w
  exact ⟨h1, h2, h3, by rw [h4]; exact Nat.le_refl _, fun k _ hne => setCells_other b vs o w k (fun e => hne (by rw [e]))⟩
section
variable {P : Program} {w : World}
theorem run_storeVar_block {t : TypeId} {k b o : Nat} {ty : TypeId} {cur : Array Value} {v : Value} (hk : sizeT P t = some k) (hv : v.cells.size = k) (h1 : ∀ u ∈ v.cells.toList, u.oneCell' = true)
    (hb : w.heap[b]? = some (.cells cur ty (0, 0))) (hl : o + k ≤ cur.size) : (storeVar t ⟨b, o, none⟩ v).run P w = .ok () (w.setCells b o v.cells.toList) := by
  have hst := run_storeCells_cells (P := P) b o v.cells.toList 0 w (fun j hj => by
      simp only [Array.length_toList] at hj
      rw [Nat.add_zero, cell_of_row w b (o + j) cur ty (0, 0) hb, Array.getElem?_eq_getElem (by omega)]; rfl)
    (fun j _ => by simp [World.frozen?, hb]) h1
  simp only [Nat.add_zero] at hst
  simp only [storeVar, Sem.run_bind, run_size hk, Result.andThen, hv, ne_eq, not_true, if_false]
  simpa using hst
theorem run_append_src (t tx ty e : TypeId) (i : TypeInfo) (z : Value) (size : Nat) (ht : P.underlying t = some (.slice e)) (hi : P.info? e = some i) (hz : i.zero = some z)
    (hsize : i.size = size) (hzs : z.cells.size = size) (hsz : 0 < size) (hby : i.bytes ≤ 128)
    (v : Value) (n : Nat) (xs : List Value) (hown : w.ownsRow 0 e size v n xs) (x : Value) (m : Nat) (news : List Value) (hs : Src P size tx x m news w) (hroom : n + m ≤ room) :
    ∃ v' w', (Builtin.append_ #[t, tx] ty #[v, x]).run P w = .ok v' w' ∧ w'.ownsRow 0 e size v' (n + m) (xs ++ news) ∧ w.grownBy w' v.ownBlock ∧ (v'.ownBlock = v.ownBlock ∨ v'.ownBlock = some w.heap.size) := by
  subst hsize
  have hrm : n + m ≤ 1073741824 := hroom
  have h63 : n + m ≤ maxLen := by unfold maxLen; omega
  have hsmall : n + m ≤ 9223372036854775807 := by omega
  have hl := hs.newsLen
  have hlen : (xs ++ news).length = (n + m) * i.size := by rw [List.length_append, hown.1, hl, Nat.add_mul]
  have hbytes : (n + m) * i.bytes ≤ 140737488355328 := by
    have : (n + m) * i.bytes ≤ 1073741824 * 128 := Nat.mul_le_mul hrm hby
    omega
  have grown : ∀ (old : Nat), old < n + m → ∀ (row : Option Nat),
      (w.drew.alloc (.cells ((xs ++ news).toArray ++ Builtin.zeroCells z.cells (grownCap w (n + m) old e - (n + m))) e)).ownsRow 0 e i.size
        (.slice (some ⟨w.heap.size, 0, none⟩) (n + m) (grownCap w (n + m) old e)) (n + m) (xs ++ news) ∧
      w.grownBy (w.drew.alloc (.cells ((xs ++ news).toArray ++ Builtin.zeroCells z.cells (grownCap w (n + m) old e - (n + m))) e)) row := by
    intro old ho row
    have hge := grownCap_ge w (n + m) old e
    have hcm : grownCap w (n + m) old e ≤ maxLen := grownCap_le_maxLen w (n + m) old e h63
    refine ⟨⟨hlen, .inr ⟨w.heap.size, _, _, rfl, Nat.zero_le _, heap_alloc_new w.drew _, hge, hcm, ?_, ?_⟩⟩, ⟨rfl, rfl, rfl, by simp, fun k hk _ => Below.heap_alloc w.drew _ k hk⟩⟩
    · simp only [Array.size_append, List.size_toArray, size_zeroCells, hzs, hlen, ← Nat.add_mul]
      congr 1
      omega
    · simp only [Array.toList_append]
      rw [← hlen]
      exact List.take_left
  rcases hown.2 with ⟨rfl, rfl⟩ | ⟨g, cap, cur, rfl, hbg, hg, hnc, hcm, hcs, htake⟩
  · have hx : xs = [] := List.eq_nil_of_length_eq_zero (by simpa using hown.1)
    subst hx
    by_cases hm : m = 0
    · subst hm
      have hn : news = [] := List.eq_nil_of_length_eq_zero (by simpa using hl)
      subst hn
      refine ⟨.slice none 0 0, w, ?_, World.ownsRow_nil w 0 e i.size, ⟨rfl, rfl, rfl, Nat.le_refl _, fun _ _ _ => rfl⟩, .inl rfl⟩
      rcases hs.kind with ⟨e', hk⟩ | hk <;> simp [Builtin.append_, run_underlying ht, run_underlying hk, sizeOf, typeInfo, hi, hs.len, hs.cells]
    · have hr := run_append_grow_src (P := P) w t tx ty e i z ht hi hz none 0 0 [] (run_firstCells_none w.drew i.size 0 0 0) x m news hs (by omega) (by omega) (growslice_fits (by omega) hbytes)
      have hgr := grown 0 (by omega) (Value.ownBlock (.slice none 0 0))
      exact ⟨_, _, hr, hgr.1, hgr.2, .inr rfl⟩
  · by_cases hroom' : n + m ≤ cap
    · have hfit : n * i.size + news.length ≤ cur.size := by rw [hl, hcs, ← Nat.add_mul]; exact Nat.mul_le_mul_right _ hroom'
      have hr := run_append_room_src (P := P) w t tx ty e i ht hi g 0 n cap x m news hs hroom'
        (fun j hj => by rw [Nat.zero_add, cell_of_row w g _ cur e (0, 0) hg, Array.getElem?_eq_getElem (by omega)]; rfl)
        (fun j _ => by simp [World.frozen?, hg])
      simp only [Nat.zero_add] at hr
      obtain ⟨cur', h2, h3, h4⟩ := setCells_block g e news (n * i.size) w cur hg hfit
      refine ⟨_, _, hr, ⟨hlen, .inr ⟨g, cap, cur', rfl, hbg, h2, hroom', hcm, by rw [h4, hcs], ?_⟩⟩, setCells_grown g news _ w, .inl rfl⟩
      rw [h3, htake, ← hlen]
      exact List.take_left
    · have holds : ∀ j u, xs[j]? = some u → w.cell? ((⟨g, 0, none⟩ : Addr).add j) = some u := hown.cells (g := g) rfl
      have hr := run_append_grow_src (P := P) w t tx ty e i z ht hi hz (some ⟨g, 0, none⟩) n cap xs (run_firstCells_some w.drew i.size n ⟨g, 0, none⟩ n cap xs hown.1 (by simpa using holds)) x m news hs (by omega) (by omega) (growslice_fits (by omega) hbytes)
      have hgr := grown cap (by omega) (Value.ownBlock (.slice (some ⟨g, 0, none⟩) n cap))
      exact ⟨_, _, hr, hgr.1, hgr.2, .inr rfl⟩
end
theorem RepC.one {w : World} {Z : Nat → Prop} : ∀ {c : Ct} {v : Value} {u : U}, RepC w Z c v u → v.oneCell' = true
  | .int _, _, _, h => by obtain ⟨h, _⟩ := h; subst h; rfl
  | .bool, _, _, h => by have h : _ = _ := h; subst h; rfl
  | .str, _, _, h => by obtain ⟨h, _⟩ := h; subst h; rfl
  | .sl _ _, _, _, h => by obtain ⟨A, c, rfl, _⟩ := h; rfl
  | .oth, _, _, h => h.elim
theorem RepL.one {w : World} {Z : Nat → Prop} : ∀ {cs : List Ct} {vs : List Value} {us : List U}, RepL w Z cs vs us → ∀ v ∈ vs, v.oneCell' = true
  | [], _, _, h, v, hv => by have h : _ = [] := h; subst h; cases hv
  | _ :: _, _, _, h, v, hv => by
    obtain ⟨x, t, rfl, hr, ht⟩ := h
    rcases List.mem_cons.1 hv with rfl | hv
    · exact hr.one
    · exact RepL.one ht v hv
theorem RepElems.one {w : World} {Z : Nat → Prop} {m : Bool} {cs : List Ct} : ∀ {us : List U} {vs : List Value}, RepElems w Z m cs us vs → ∀ v ∈ vs, v.oneCell' = true
  | [], _, h, v, hv => by have h : _ = [] := h; subst h; cases hv
  | _ :: _, _, h, v, hv => by
    obtain ⟨p, q, rfl, hp, hq⟩ := h
    rcases List.mem_append.1 hv with hv | hv
    · exact hp.one v hv
    · exact RepElems.one hq v hv
theorem Ct.beq_eq {a b : Ct} (h : a.beq b = true) : a = b := go a b h
where
  go : ∀ (a b : Ct), a.beq b = true → a = b
    | .int i, .int j, h => by cases i <;> cases j <;> first | rfl | simp [Ct.beq] at h
    | .int i, .bool, h => by cases i <;> simp [Ct.beq] at h
    | .int i, .str, h => by cases i <;> simp [Ct.beq] at h
    | .int i, .sl _ _, h => by cases i <;> simp [Ct.beq] at h
    | .int i, .oth, h => by cases i <;> simp [Ct.beq] at h
    | .bool, .int j, h => by cases j <;> simp [Ct.beq] at h
    | .bool, .bool, _ => rfl
    | .bool, .str, h => by simp [Ct.beq] at h
    | .bool, .sl _ _, h => by simp [Ct.beq] at h
    | .bool, .oth, h => by simp [Ct.beq] at h
    | .str, .int j, h => by cases j <;> simp [Ct.beq] at h
    | .str, .bool, h => by simp [Ct.beq] at h
    | .str, .str, _ => rfl
    | .str, .sl _ _, h => by simp [Ct.beq] at h
    | .str, .oth, h => by simp [Ct.beq] at h
    | .sl m _, .int j, h => by cases m <;> cases j <;> simp [Ct.beq] at h
    | .sl m _, .bool, h => by cases m <;> simp [Ct.beq] at h
    | .sl m _, .str, h => by cases m <;> simp [Ct.beq] at h
    | .sl m _, .oth, h => by cases m <;> simp [Ct.beq] at h
    | .sl true a, .sl true b, h => by rw [gos a b (by simpa [Ct.beq] using h)]
    | .sl false a, .sl false b, h => by rw [gos a b (by simpa [Ct.beq] using h)]
    | .sl true _, .sl false _, h => by simp [Ct.beq] at h
    | .sl false _, .sl true _, h => by simp [Ct.beq] at h
    | .oth, .int j, h => by cases j <;> simp [Ct.beq] at h
    | .oth, .bool, h => by simp [Ct.beq] at h
    | .oth, .str, h => by simp [Ct.beq] at h
    | .oth, .sl _ _, h => by simp [Ct.beq] at h
    | .oth, .oth, h => by simp [Ct.beq] at h
  gos : ∀ (a b : List Ct), Ct.beq.beqs a b = true → a = b
    | [], [], _ => rfl
    | [], _ :: _, h => by simp [Ct.beq.beqs] at h
    | _ :: _, [], h => by simp [Ct.beq.beqs] at h
    | x :: r, y :: s, h => by
      unfold Ct.beq.beqs at h
      split at h
      · rename_i hxy
        rw [go x y hxy, gos r s h]
      · cases h
theorem beqs_eq {a b : List Ct} (h : Ct.beq.beqs a b = true) : a = b := Ct.beq_eq.gos a b h
theorem plainU_rep {w : World} {Z : Nat → Prop} {G : Nat → Value} {c : Ct} {s : SV} {u : U} {v : Value} (h : plainU c s = some u) (hs : RepSV w Z G s v) : RepC w Z c v u := by
  unfold plainU at h
  split at h
  · rename_i c' u'
    split at h
    · rename_i hb
      have := Ct.beq_eq hb
      subst this
      injection h with h
      subst h
      exact hs
    · cases h
  · split at h
    · injection h with h
      subst h
      have hs : v = .slice none 0 0 := hs
      exact ⟨none, 0, hs, Nat.le_refl _, Nat.zero_le _, fun k hk => absurd hk (by simp [U.list])⟩
    · cases h
  · cases h
theorem plainUs_rep {w : World} {Z : Nat → Prop} {G : Nat → Value} : ∀ {cs : List Ct} {l : List SV} {us : List U} {vs : List Value}, toUs plainU cs l = some us → RepSVs w Z G l vs → RepL w Z cs vs us
  | [], [], us, vs, h, hs => by
    have hs : vs = [] := hs
    subst hs
    rfl
  | [], _ :: _, us, vs, h, hs => by simp [toUs] at h
  | _ :: _, [], us, vs, h, hs => by simp [toUs] at h
  | c :: cs, s :: l, us, vs, h, hs => by
    unfold toUs at h
    split at h
    · rename_i u us' h1 h2
      injection h with h
      subst h
      obtain ⟨v, t, rfl, hv, ht⟩ := hs
      exact ⟨v, t, rfl, plainU_rep h1 hv, plainUs_rep h2 ht⟩
    · cases h
theorem RepL.cells {w : World} {Z : Nat → Prop} {b : Nat} : ∀ {cs : List Ct} {vs : List Value} {us : List U} {o : Nat}, RepL w Z cs vs us → (∀ j v, vs[j]? = some v → w.cell? ⟨b, o + j, none⟩ = some v) → RepCs w Z cs b o us
  | [], _, _, _, _, _ => trivial
  | _ :: _, _, _, o, h, hc => by
    obtain ⟨v, t, rfl, hr, ht⟩ := h
    refine ⟨⟨v, by simpa using hc 0 v rfl, hr⟩, RepL.cells ht (fun j u hj => ?_)⟩
    have := hc (j + 1) u (by simpa using hj)
    rwa [show o + 1 + j = o + (j + 1) by omega]
theorem own_rep {w : World} {Z Z' : Nat → Prop} {m : Bool} {cs : List Ct} {e : TypeId} {v : Value} {xs : List U} {vs : List Value} (hZ : ∀ b, Z b → Z' b) (hv : ∀ b, blk v = some b → Z' b)
    (hown : w.ownsRow 0 e cs.length v xs.length vs) (hr : RepElems w Z m cs xs vs) : RepC w Z' (.sl m cs) v (.l xs) := by
  rcases hown.2 with ⟨rfl, h0⟩ | ⟨g, cap, cur, rfl, _, hg, hnc, hcm, hcs, htake⟩
  · exact ⟨none, 0, by simp [U.list, h0], by simp [U.list, h0], Nat.zero_le _, fun k hk => absurd hk (by simp [U.list, h0])⟩
  · refine ⟨some ⟨g, 0, none⟩, cap, rfl, hnc, hcm, fun k hk => ⟨g, 0, rfl, hv g rfl, ?_⟩⟩
    have hk : k < xs.length := hk
    obtain ⟨p, q, r, hvs, hp, hq⟩ := hr.at_ k hk
    refine RepCs.mono (w := w) ⟨hZ, fun _ _ => rfl⟩ cs g _ _ rfl (RepL.cells hq (fun j u hj => ?_))
    have hcell := hown.cells (g := g) rfl (p.length + j) u (by
      rw [hvs, List.append_assoc, List.getElem?_append_right (by omega), Nat.add_sub_cancel_left, List.getElem?_append_left (by
        have := (List.getElem?_eq_some_iff.1 hj).1; omega)]
      exact hj)
    rw [addr_add, hp] at hcell
    rw [Nat.add_assoc]
    exact hcell
theorem RepCs.values {w : World} {Z : Nat → Prop} {b : Nat} : ∀ {cs : List Ct} {o : Nat} {us : List U}, RepCs w Z cs b o us → ∃ vs, RepL w Z cs vs us ∧ ∀ j v, vs[j]? = some v → w.cell? ⟨b, o + j, none⟩ = some v
  | [], _, _, _ => ⟨[], rfl, fun j v h => by simp at h⟩
  | c :: cs, o, us, h => by
    obtain ⟨⟨v, hc, hr⟩, ht⟩ := h
    obtain ⟨vs, hvs, hcell⟩ := RepCs.values ht
    refine ⟨v :: vs, ⟨v, vs, rfl, hr, hvs⟩, fun j u hj => ?_⟩
    cases j with
    | zero => simp at hj; subst hj; exact hc
    | succ j => have := hcell j u (by simpa using hj); rwa [show o + (j + 1) = o + 1 + j by omega]
theorem elems_values {w : World} {Z : Nat → Prop} {m : Bool} {cs : List Ct} {b : Nat} : ∀ {us : List U} {o : Nat}, (∀ k, k < us.length → RepCs w Z cs b (o + k * cs.length) (elemU m (U.at us k))) →
    ∃ vs, RepElems w Z m cs us vs ∧ ∀ j v, vs[j]? = some v → w.cell? ⟨b, o + j, none⟩ = some v
  | [], _, _ => ⟨[], rfl, fun j v h => by simp at h⟩
  | u :: us, o, h => by
    have h0 := h 0 (by simp)
    simp only [Nat.zero_mul, Nat.add_zero] at h0
    obtain ⟨p, hp, hpc⟩ := RepCs.values h0
    obtain ⟨q, hq, hqc⟩ := elems_values (us := us) (o := o + cs.length) (fun k hk => by
      have := h (k + 1) (by simpa using hk)
      rwa [show o + (k + 1) * cs.length = o + cs.length + k * cs.length by rw [Nat.add_mul]; omega] at this)
    refine ⟨p ++ q, ⟨p, q, rfl, hp, hq⟩, fun j v hj => ?_⟩
    by_cases hjp : j < p.length
    · rw [List.getElem?_append_left hjp] at hj; exact hpc j v hj
    · rw [List.getElem?_append_right (by omega)] at hj
      have := hqc _ v hj
      rwa [hp.length, show o + cs.length + (j - cs.length) = o + j by have := hp.length; omega] at this
end Go.Den

namespace Go.Den
open Go Go.RowKit
def none_ : Nat → Value := fun _ => undef
def RepRes (w : World) (Z : Nat → Prop) (svs : List SV) (v : Value) : Prop := match svs with
  | [s] => RepSV w Z none_ s v
  | l => RepSV w Z none_ (.tup l) v
def ArgsRep (P : Program) (w : World) (Z : Nat → Prop) (ts : List TypeId) (us : List (List U)) (vs : List Value) : Prop := ∃ svs, unflats P ts us = some svs ∧ RepSVs w Z none_ svs vs
def shapeOk (P : Program) : List TypeId → List (List U) → Prop
  | [], us => us = []
  | t :: ts, us => ∃ u r m cs, us = u :: r ∧ Cs P t = some (m, cs) ∧ u.length = cs.length ∧ shapeOk P ts r
theorem toUs_length {f : Ct → SV → Option U} : ∀ {cs : List Ct} {l : List SV} {us : List U}, toUs f cs l = some us → us.length = cs.length
  | [], [], us, h => by simp only [toUs, Option.some.injEq] at h; subst h; rfl
  | [], _ :: _, us, h => by simp [toUs] at h
  | _ :: _, [], us, h => by simp [toUs] at h
  | c :: cs, s :: l, us, h => by
    unfold toUs at h
    split at h
    · rename_i u us' h1 h2
      injection h with h
      subst h
      simp [toUs_length h2]
    · cases h
theorem flats_shape {P : Program} {f : Ct → SV → Option U} : ∀ {ts : List TypeId} {l : List SV} {us : List (List U)}, flats P f ts l = some us → shapeOk P ts us
  | [], [], us, h => by simp only [flats, Option.some.injEq] at h; subst h; rfl
  | [], _ :: _, us, h => by simp [flats] at h
  | _ :: _, [], us, h => by simp [flats] at h
  | t :: ts, s :: l, us, h => by
    unfold flats at h
    split at h
    · rename_i u us' h1 h2
      injection h with h
      subst h
      unfold flat at h1
      split at h1
      · rename_i cs hcs
        split at h1
        · exact ⟨u, us', true, cs, rfl, hcs, toUs_length h1, flats_shape h2⟩
        · cases h1
      · rename_i cs hcs
        exact ⟨u, us', false, cs, rfl, hcs, toUs_length h1, flats_shape h2⟩
      · cases h1
    · cases h
structure FnOk (P : Program) (f : FuncId) (fn : Func) (us rs : List (List U)) : Prop where
  body : fn.body.isNone = false
  name : (fn.name == "runtime.NumGoroutine") = false
  calls : ∀ (w : World) (Z : Nat → Prop) (vs : List Value), (∀ b, Z b → b < w.heap.size) → shapeOk P fn.params.toList us → ArgsRep P w Z fn.params.toList us vs → Calls P f vs.toArray w fun e w' =>
    ∃ v Z', e = .returned v ∧ Fut (fun _ => False) w w' ∧ (∀ b, Z b → Z' b) ∧ (∀ b, Z' b → Z b ∨ (w.heap.size ≤ b ∧ Plain w' b)) ∧ (∀ b, Z' b → b < w'.heap.size) ∧
      ∃ svs, unflats P fn.resultTypes.toList rs = some svs ∧ RepRes w' Z' svs v
def Blocks (G : Nat → Value) (objs : Objs) (b : Nat) : Prop := ∃ id o, getO objs id = some o ∧ blk (G id) = some b
def RepOut (w : World) (Z : Nat → Prop) (G : Nat → Value) : Out → Ending → Prop
  | .ret [s], e => ∃ v, e = .returned v ∧ RepSV w Z G s v
  | .ret l, e => ∃ v, e = .returned v ∧ RepSV w Z G (.tup l) v
  | .pan s, e => ∃ v, e = .panicked [{ v := v, recovered := false }] ∧ RepSV w Z G s v
structure Stand (P : Program) (w : World) (Z : Nat → Prop) (G : Nat → Value) (objs : Objs) : Prop where
  lt : ∀ b, Z b → b < w.heap.size
  flat : ∀ id, (G id).oneCell' = true
  obj : ∀ id o, getO objs id = some o → RepO w Z G P id o
  sep : ∀ id id' o o' b, getO objs id = some o → getO objs id' = some o' → blk (G id) = some b → blk (G id') = some b → id = id'
  free : ∀ id o b, getO objs id = some o → blk (G id) = some b → ¬ Z b
structure After (P : Program) (w : World) (Z : Nat → Prop) (G : Nat → Value) (objs : Objs) (w' : World) (Z' : Nat → Prop) (G' : Nat → Value) (objs' : Objs) : Prop where
  stand : Stand P w' Z' G' objs'
  fut : Fut (Blocks G objs) w w'
  sub : ∀ b, Z b → Z' b
  new : ∀ b, Z' b → Z b ∨ Blocks G objs b ∨ w.heap.size ≤ b
  row : ∀ b, Z' b → Z b ∨ Plain w' b
  own : ∀ id o b, getO objs' id = some o → blk (G' id) = some b → Blocks G objs b ∨ w.heap.size ≤ b
  keep : ∀ id o, getO objs id = some o → id % 2 = 1 → G' id = G id
structure FnTr (P : Program) (f : FuncId) (fn : Func) (F : Tr) : Prop where
  body : fn.body.isNone = false
  name : (fn.name == "runtime.NumGoroutine") = false
  calls : ∀ (vs : List SV) (objs : Objs) (R : Out → Objs → Prop), canonOk objs = true → F vs objs R → ∀ (w : World) (Z : Nat → Prop) (G : Nat → Value) (args : List Value), RepSVs w Z G vs args → Stand P w Z G objs →
    Calls P f args.toArray w fun e w' => ∃ out objs' Z' G', R out objs' ∧ RepOut w' Z' G' out e ∧ After P w Z G objs w' Z' G' objs'
theorem okOs_of {P : Program} {w : World} {Z : Nat → Prop} {G : Nat → Value} {objs : Objs} (hc : canonOk objs = true) (h : Stand P w Z G objs) : ∀ id o, (id, o) ∈ objs → okO P o := by
  have key : ∀ l : Objs, canonOk l = true → ∀ id o, (id, o) ∈ l → getO l id = some o := by
    intro l
    induction l with
    | nil => intro _ id o h; cases h
    | cons x r ih =>
      obtain ⟨i, p⟩ := x
      intro hl id o hm
      unfold canonOk at hl
      have hmem : ∀ id (o : Obj) (l : Objs), (id, o) ∈ l → id ∈ keysO l := by
        intro id o l
        induction l with
        | nil => intro h; cases h
        | cons y s ihs =>
          intro h
          rcases List.mem_cons.1 h with h | h
          · cases h; exact List.mem_cons_self ..
          · exact List.mem_cons_of_mem _ (ihs h)
      have hmB : ∀ (l : List Nat) (n : Nat), n ∈ l → memB n l = true := by
        intro l
        induction l with
        | nil => intro n h; cases h
        | cons y s ihs =>
          intro n h
          unfold memB
          by_cases hy : n = y
          · subst hy; simp
          · rw [nbeq_ne hy, cond_false]
            rcases List.mem_cons.1 h with h | h
            · exact absurd h hy
            · exact ihs n h
      rw [getO_cons]
      rcases List.mem_cons.1 hm with hm | hm
      · cases hm; rw [if_pos rfl]
      · cases hb : memB i (keysO r) with
        | true => rw [hb] at hl; cases hl
        | false =>
          rw [hb] at hl
          have hne : i ≠ id := fun e => by
            subst e
            rw [hmB _ _ (hmem _ _ _ hm)] at hb
            cases hb
          rw [if_neg hne]
          refine ih ?_ id o hm
          simp only [cond_false] at hl
          split at hl
          all_goals (first | (cases hq : oddB i <;> rw [hq] at hl <;> first | exact hl | cases hl))
  exact fun id o hm => RepO.ok (h.obj id o (key objs hc id o hm))
theorem FnTr.weakenOk {P : Program} {f : FuncId} {fn : Func} {F F' : Tr} (h : FnTr P f fn F) (hF : ∀ vs objs R, okS.okSs vs → (∀ id o, (id, o) ∈ objs → okO P o) → F' vs objs R → F vs objs R) : FnTr P f fn F' :=
  ⟨h.body, h.name, fun vs objs R hc h' w Z G args ha hs => h.calls vs objs R hc (hF _ _ _ (RepSVs.ok ha) (okOs_of hc hs) h') w Z G args ha hs⟩
def aggI (ks : List IntKind) (is : List Int) : Value := .agg (List.zipWith Value.int ks is).toArray
def EqOk (P : Program) (t : TypeId) (ks : List IntKind) : Prop := ∀ (x y : Operand) (is js : List Int) (w : World), is.length = ks.length → js.length = ks.length →
  (do eqGuard .eql t x y (aggI ks is) (aggI ks js); binOp .eql t (aggI ks is) (aggI ks js)).run P w = .ok (.bool (decide (is = js))) w ∧
  (do eqGuard .neq t x y (aggI ks is) (aggI ks js); binOp .neq t (aggI ks is) (aggI ks js)).run P w = .ok (.bool (!decide (is = js))) w
def ExtOk (P : Program) (f : FuncId) : Ext → Prop
  | .load => ∀ (a : Addr) (x : Int) (w : World), w.cell? a = some (.int .i64 x) → (callFunc f #[.pointer (some a)]).run P w = .ok (.value (.int .i64 x)) w
  | .add => ∀ (a : Addr) (x y : Int) (w : World), w.cell? a = some (.int .i64 x) → w.frozen? a = false →
      (callFunc f #[.pointer (some a), .int .i64 y]).run P w = .ok (.value (.int .i64 (IntKind.wrap .i64 (x + y)))) (w.setCell a (.int .i64 (IntKind.wrap .i64 (x + y))))
structure Ctx.Ok (C : Ctx) : Prop where
  fns : ∀ f fn us p rs, C.P.funcs[f]? = some fn → C.fns f us = some (p, rs) → withP p True → FnOk C.P f fn us rs
  trs : ∀ f fn fs F, C.P.funcs[f]? = some fn → C.trs f = some (fs, F) → FnTr C.P f fn F
  eqs : ∀ t ks, C.eqs t = some ks → EqOk C.P t ks
  mixed : C.P.follows .mixedOrders = true
  exts : ∀ f e, C.exts f = some e → ExtOk C.P f e
theorem cond_some {b : Bool} {x y : Prop} (h : (bif b then x else y)) : (b = true ∧ x) ∨ (b = false ∧ y) := by
  cases b
  · exact .inr ⟨rfl, h⟩
  · exact .inl ⟨rfl, h⟩
theorem cond_only {b : Bool} {x : Prop} (h : (bif b then x else False)) : b = true ∧ x := by
  cases b
  · cases h
  · exact ⟨rfl, h⟩
theorem cond_opt {α : Type} {b : Bool} {x : Option α} {r : α} (h : (bif b then x else none) = some r) : b = true ∧ x = some r := by
  cases b
  · cases h
  · exact ⟨rfl, h⟩
theorem same_eq {i j : IntKind} (h : IntKind.same i j = true) : i = j := by cases i <;> cases j <;> first | rfl | simp [IntKind.same] at h
theorem arith_rep {w : World} {Z : Nat → Prop} {op : BinOp} {i : IntKind} {x y z : Int} (h : arith op i x y = some z) : RepC w Z (.int i) (.int i z) (.i z) := by
  unfold arith at h
  split at h <;> first | (injection h with h; subst h; exact rep_wrap _ _) | cases h
theorem eqCells_ints {w : World} {Z : Nat → Prop} {G : Nat → Value} : ∀ {ks : List IntKind} {xs ys : List SV} {b : Bool} {vs us : List Value}, eqCells ks xs ys = some b → RepSVs w Z G xs vs → RepSVs w Z G ys us →
    ∃ is js : List Int, is.length = ks.length ∧ js.length = ks.length ∧ vs = List.zipWith Value.int ks is ∧ us = List.zipWith Value.int ks js ∧ b = decide (is = js)
  | [], [], [], b, vs, us, h, hx, hy => by
    have hx : vs = [] := hx
    have hy : us = [] := hy
    simp only [eqCells, Option.some.injEq] at h
    exact ⟨[], [], rfl, rfl, hx, hy, by rw [← h]; rfl⟩
  | k :: ks, xs, ys, b, vs, us, h, hx, hy => by
    unfold eqCells at h
    split at h
    · exact absurd ‹k :: ks = []› (by simp)
    · rename_i k' ks' k1 x xs k2 y ys heq
      cases heq
      split at h
      · rename_i b' h1 h2 h3
        injection h with h
        obtain ⟨v, t, rfl, hv, ht⟩ := hx
        obtain ⟨u, s, rfl, hu, hs⟩ := hy
        obtain ⟨is, js, l1, l2, e1, e2, e3⟩ := eqCells_ints h3 ht hs
        have hv : v = .int k1 x.int := hv.1
        have hu : u = .int k2 y.int := hu.1
        have := same_eq h1; subst this
        have := same_eq h2; subst this
        refine ⟨x.int :: is, y.int :: js, by simp [l1], by simp [l2], by simp [hv, e1], by simp [hu, e2], ?_⟩
        rw [← h, e3]
        by_cases hxy : x.int = y.int <;> by_cases his : is = js <;> simp [hxy, his]
      · cases h
    · cases h
  | [], [], _ :: _, b, vs, us, h, hx, hy => by simp [eqCells] at h
  | [], _ :: _, _, b, vs, us, h, hx, hy => by simp [eqCells] at h
section
variable {C : Ctx} {a : Act} {w : World} {Z : Nat → Prop} {G : Nat → Value} {o : Oper} {K : Act → World → Prop} {Q : Exit → Act → World → Prop}
theorem wp_bin {op : BinOp} {t t2 : TypeId} {x y : Operand} {v : Value} (ho : o.op = .binOp op t x y t2) (h : (do eqGuard op t x y (a.eval x) (a.eval y); binOp op t (a.eval x) (a.eval y)).run C.P w = .ok v w) (hk : K (a.put o.dst v) w) : o.wp C.P a w K Q := by
  refine wp_value (v := v) (w' := w) ?_ hk
  simp only [Sem.run_bind] at h
  simp only [execOp, ho, Sem.run_bind]
  cases hg : (eqGuard op t x y (a.eval x) (a.eval y)).run C.P w with
  | ok u w1 =>
    rw [hg] at h
    simp only [Result.andThen] at h ⊢
    rw [h]
    rfl
  | halt e w1 => rw [hg] at h; simp [Result.andThen] at h
theorem run_equal_bool {t : TypeId} (hu : C.P.underlying t = some .bool) (m n : Bool) : (Op.equal t (.bool m) (.bool n)).run C.P w = .ok (m == n) w := by
  have h : ∀ d : Nat, (Op.equalIn (d + 1) t (.bool m) (.bool n)).run C.P w = .ok (m == n) w := fun d => by simp [Op.equalIn, run_underlying hu]
  exact h 9999
theorem eqGuard_int (op : BinOp) (t : TypeId) (x y : Operand) (i j : IntKind) (m n : Int) : (eqGuard op t x y (.int i m) (.int j n)).run C.P w = .ok () w := by
  cases op <;> rfl
theorem bin_int {op : BinOp} {t t2 : TypeId} {x y : Operand} {i j : IntKind} {m n : Int} {v : Value} (ho : o.op = .binOp op t x y t2) (hx : a.eval x = .int i m) (hy : a.eval y = .int j n)
    (h : (binOp op t (.int i m) (.int j n)).run C.P w = .ok v w) (hk : K (a.put o.dst v) w) : o.wp C.P a w K Q := by
  refine wp_bin (C := C) (v := v) ho ?_ hk
  rw [hx, hy]
  simp only [Sem.run_bind, eqGuard_int, Result.andThen, h]
theorem run_equal_nil {P : Program} {w : World} {t e : TypeId} (hu : P.underlying t = some (.slice e)) (A : Option Addr) (n c : Nat) : (Op.equal t (.slice A n c) (.slice none 0 0)).run P w = .ok A.isNone w := by
  have h : ∀ d : Nat, (Op.equalIn (d + 1) t (.slice A n c) (.slice none 0 0)).run P w = .ok A.isNone w := fun d => by cases A <;> simp [Op.equalIn, run_underlying hu]
  exact h 9999
theorem nil_of_none {l : List U} (h : 0 < l.length → ∃ b o, (none : Option Addr) = some ⟨b, o, none⟩) : l = [] := by
  cases l with
  | nil => rfl
  | cons x r =>
    obtain ⟨_, _, e⟩ := h (by simp)
    cases e
theorem op_bin (hC : C.Ok) {op : BinOp} {t t2 : TypeId} {x y : Operand} {sx sy : SV} {k : SV → Prop} (ho : o.op = .binOp op t x y t2) (hx : RepSV w Z G sx (a.eval x)) (hy : RepSV w Z G sy (a.eval y))
    (h : bin C op t sx sy k) (hk : ∀ s v, k s → RepSV w Z G s v → K (a.put o.dst v) w) : o.wp C.P a w K Q := by
  unfold bin at h
  split at h
  · rename_i i m j n
    obtain ⟨hx, hmr⟩ : a.eval x = .int i m.int ∧ i.min ≤ m.int ∧ m.int ≤ i.max := hx
    have hy : a.eval y = .int j n.int := hy.1
    split at h
    · rcases cond_some h with ⟨_, h⟩ | ⟨hb, h⟩
      · cases h
      · have hb : ¬ n.int < 0 := of_decide_eq_false hb
        refine bin_int (C := C) (v := .int i (i.wrap (m.int * 2 ^ (min n.int.toNat i.bits)))) ho hx hy ?_ (hk _ _ h (rep_wrap _ _))
        simp [binOp, Op.shift, hb]
    · rcases cond_some h with ⟨_, h⟩ | ⟨hb, h⟩
      · cases h
      · have hb : ¬ n.int < 0 := of_decide_eq_false hb
        refine bin_int (C := C) (v := .int i (m.int.fdiv (2 ^ (min n.int.toNat i.bits)))) ho hx hy ?_ (hk _ _ h (rep_div hmr _))
        simp [binOp, Op.shift, hb]
    · rename_i hnl hnr
      split at h
      · cases h
      · rename_i hs
        have := same_eq hs
        subst this
        split at h
        · rcases cond_some h with ⟨_, h⟩ | ⟨hb, h⟩
          · cases h
          · have hb : ¬ n.int = 0 := of_decide_eq_false hb
            refine bin_int (C := C) (v := .int i (i.wrap (m.int.tdiv n.int))) ho hx hy ?_ (hk _ _ h (rep_wrap _ _))
            simp [binOp, Op.intDiv, hb]
        · rcases cond_some h with ⟨_, h⟩ | ⟨hb, h⟩
          · cases h
          · have hb : ¬ n.int = 0 := of_decide_eq_false hb
            refine bin_int (C := C) (v := .int i (m.int.tmod n.int)) ho hx hy ?_ (hk _ _ h (rep_mod hmr _))
            simp [binOp, Op.intDiv, hb]
        · rename_i hnq hnm
          split at h
          · rename_i z hz
            refine bin_int (C := C) (v := .int i z) ho hx hy ?_ (hk _ _ h (arith_rep hz))
            cases op <;> simp [arith] at hz <;> subst hz <;> simp [binOp, Op.intArith, Op.intBits]
          · rename_i hz
            split at h
            · rename_i b hb
              refine bin_int (C := C) (v := .bool b) ho hx hy ?_ (hk _ _ h rfl)
              cases op <;> simp [cmp] at hb <;> subst hb <;> simp [binOp, Op.intCmp]
            · cases h
  · rename_i m n
    have hx : a.eval x = .string m.str := hx.1
    have hy : a.eval y = .string n.str := hy.1
    split at h
    · refine wp_bin (C := C) (v := .bool (m.str.toList == n.str.toList)) ho ?_ (hk _ _ h rfl)
      rw [hx, hy]
      simp [eqGuard, binOp, Op.stringOp]
    · refine wp_bin (C := C) (v := .bool !(m.str.toList == n.str.toList)) ho ?_ (hk _ _ h rfl)
      rw [hx, hy]
      simp [eqGuard, binOp, Op.stringOp]
    · cases h
  · rename_i m n
    have hx : a.eval x = .bool m.bool := hx
    have hy : a.eval y = .bool n.bool := hy
    split at h
    · rename_i hu
      split at h
      · refine wp_bin (C := C) (v := .bool (m.bool == n.bool)) ho ?_ (hk _ _ h rfl)
        rw [hx, hy]
        simp [eqGuard, binOp, run_equal_bool hu]
      · refine wp_bin (C := C) (v := .bool !(m.bool == n.bool)) ho ?_ (hk _ _ h rfl)
        rw [hx, hy]
        simp [eqGuard, binOp, run_equal_bool hu]
      · cases h
    · cases h
  · rename_i xs ys
    split at h
    · rename_i ks hks
      split at h
      · rename_i b hb
        obtain ⟨vs, hvx, hrx⟩ := hx
        obtain ⟨us, hvy, hry⟩ := hy
        obtain ⟨is, js, l1, l2, e1, e2, rfl⟩ := eqCells_ints hb hrx hry
        obtain ⟨h1, h2⟩ := hC.eqs t ks hks x y is js w l1 l2
        have hx : a.eval x = aggI ks is := by rw [hvx]; unfold aggI; rw [← e1]
        have hy : a.eval y = aggI ks js := by rw [hvy]; unfold aggI; rw [← e2]
        split at h
        · refine wp_bin (C := C) (v := .bool (decide (is = js))) ho ?_ (hk _ _ h rfl)
          rw [hx, hy]; exact h1
        · refine wp_bin (C := C) (v := .bool (!decide (is = js))) ho ?_ (hk _ _ h rfl)
          rw [hx, hy]; exact h2
        · cases h
      · cases h
    · cases h
  · rename_i mm cs u
    split at h
    · rename_i el hu
      obtain ⟨A, c, hx, _, _, hel⟩ := hx
      have hy : a.eval y = .slice none 0 0 := hy
      cases A with
      | none =>
        have h0 := nil_of_none (fun h => let ⟨b, o, e, _⟩ := hel 0 h; ⟨b, o, e⟩)
        split at h
        · refine wp_bin (C := C) (v := .bool true) ho ?_ (hk _ _ (h.t h0) rfl)
          rw [hx, hy]
          simp [eqGuard, binOp, run_equal_nil hu]
        · refine wp_bin (C := C) (v := .bool false) ho ?_ (hk _ _ (h.t h0) rfl)
          rw [hx, hy]
          simp [eqGuard, binOp, run_equal_nil hu]
        · cases h
      | some p =>
        split at h
        · refine wp_bin (C := C) (v := .bool false) ho ?_ (hk _ _ h.f rfl)
          rw [hx, hy]
          simp [eqGuard, binOp, run_equal_nil hu]
        · refine wp_bin (C := C) (v := .bool true) ho ?_ (hk _ _ h.f rfl)
          rw [hx, hy]
          simp [eqGuard, binOp, run_equal_nil hu]
        · cases h
    · cases h
  · cases h
theorem foldl_push (l : List UInt8) : ∀ r : ByteArray, (l.foldl (fun r x => r.push x) r) = ⟨r.data ++ l.toArray⟩ := by
  induction l with
  | nil => intro r; simp
  | cons x l ih => intro r; rw [List.foldl_cons, ih]; simp [ByteArray.push]
theorem run_toString {v : Value} {u : U} (h : RepC w Z (.sl false [.int .u8]) v u) : (Conv.bytesToString v).run C.P w = .ok (.string ⟨(u.list.map fun x => UInt8.ofNat x.int.toNat).toArray⟩) w := by
  obtain ⟨A, c, rfl, _, _, hk⟩ := h
  cases A with
  | none =>
    have h0 : u.list = [] := by
      cases hl : u.list with
      | nil => rfl
      | cons x l =>
        obtain ⟨b, o, hA, _⟩ := hk 0 (by simp [hl])
        cases hA
    rw [h0]
    rfl
  | some p =>
    have hcell : ∀ j v, (u.list.map fun x => Value.int .u8 x.int)[j]? = some v → w.cell? (p.add j) = some v := by
      intro j v hj
      have hjl : j < u.list.length := by
        have := (List.getElem?_eq_some_iff.1 hj).1
        simpa using this
      obtain ⟨b, o, hA, _, ⟨⟨v', hc, hr⟩, _⟩⟩ := hk j hjl
      injection hA with hA
      subst hA
      simp only [List.length_singleton, Nat.mul_one] at hc
      rw [addr_add, hc]
      have hr : v' = .int .u8 (U.at (elemU false (U.at u.list j)) 0).int := hr.1
      rw [hr, ← hj]
      have : U.at u.list j = u.list[j] := by
        have : ∀ (l : List U) (j : Nat) (h : j < l.length), U.at l j = l[j] := by
          intro l
          induction l with
          | nil => intro j h; simp at h
          | cons x l ih => intro j h; cases j with
            | zero => rfl
            | succ j => exact ih j (by simpa using h)
        exact this _ _ hjl
      simp [this, hjl]
    have hl := run_loadCells_list (P := C.P) w p (u.list.map fun x => Value.int .u8 x.int) hcell
    rw [run_bytesToString w p u.list.length c (u.list.map U.int) (by
      rw [List.length_map] at hl
      rw [hl]
      simp)]
    congr 2
    have := foldl_push (u.list.map fun x => UInt8.ofNat x.int.toNat) ByteArray.empty
    rw [List.foldl_map] at this ⊢
    rw [this]
    simp
end
end Go.Den

namespace Go.Den
open Go Go.RowKit
theorem isCell_one {w : World} {Z : Nat → Prop} {G : Nat → Value} (hG : ∀ id, (G id).oneCell' = true) {s : SV} {v : Value} (h : isCell s = true) (hs : RepSV w Z G s v) : v.oneCell' = true := by
  cases s with
  | val c u => exact RepC.one (c := c) hs
  | agg cs => cases h
  | nil => have hs : v = _ := hs; subst hs; rfl
  | own id => have hs : v = _ := hs; subst hs; exact hG id
  | ptr id off => obtain ⟨b, _, rfl⟩ := hs; rfl
  | aptr id sz j off => obtain ⟨b, n, c, _, rfl⟩ := hs; rfl
  | osl id j z => cases h
  | rptr cs us => obtain ⟨b, o, rfl, _⟩ := hs; rfl
  | nilp => have hs : v = _ := hs; subst hs; rfl
  | tup l => cases h
  | clo f l => obtain ⟨vs, rfl, _⟩ := hs; rfl
  | mp id => obtain ⟨b, _, rfl⟩ := hs; rfl
  | ifc t s => obtain ⟨x, rfl, _⟩ := hs; rfl
  | nili => have hs : v = _ := hs; subst hs; rfl
  | und => cases h
  | unk => cases h
theorem cells_one {v : Value} (h : v.oneCell' = true) : v.cells = #[v] := by cases v <;> first | rfl | cases h
theorem areCells_one {w : World} {Z : Nat → Prop} {G : Nat → Value} (hG : ∀ id, (G id).oneCell' = true) : ∀ {l : List SV} {vs : List Value}, areCells l = true → RepSVs w Z G l vs → ∀ v ∈ vs, v.oneCell' = true
  | [], vs, _, hs, v, hv => by have hs : vs = [] := hs; subst hs; cases hv
  | s :: l, vs, h, hs, v, hv => by
    unfold areCells at h
    split at h
    · rename_i hc
      obtain ⟨x, t, rfl, hx, ht⟩ := hs
      rcases List.mem_cons.1 hv with rfl | hv
      · exact isCell_one hG hc hx
      · exact areCells_one hG h ht v hv
    · cases h
theorem cellsV_rep {w : World} {Z : Nat → Prop} {G : Nat → Value} (hG : ∀ id, (G id).oneCell' = true) {s : SV} {v : Value} (h : areCells (cellsV s) = true) (hs : RepSV w Z G s v) :
    RepSVs w Z G (cellsV s) v.cells.toList ∧ ∀ u ∈ v.cells.toList, u.oneCell' = true := by
  have key : RepSVs w Z G (cellsV s) v.cells.toList := by
    have one : isCell s = true → RepSVs w Z G [s] v.cells.toList := fun hc => by
      rw [cells_one (isCell_one hG hc hs)]
      exact ⟨v, [], rfl, hs, rfl⟩
    cases s with
    | agg cs => obtain ⟨vs, rfl, hr⟩ := hs; exact hr
    | tup l => simp [cellsV, areCells, isCell] at h
    | und => simp [cellsV, areCells, isCell] at h
    | unk => simp [cellsV, areCells, isCell] at h
    | val c u => exact one rfl
    | nil => exact one rfl
    | own id => exact one rfl
    | ptr id off => exact one rfl
    | aptr id sz j off => exact one rfl
    | osl id j z => simp [cellsV, areCells, isCell] at h
    | rptr cs us => exact one rfl
    | nilp => exact one rfl
    | clo f l => exact one rfl
    | mp id => exact one rfl
    | ifc t s => exact one rfl
    | nili => exact one rfl
  exact ⟨key, areCells_one hG h key⟩
theorem ofConsts_rep {w : World} {Z : Nat → Prop} {G : Nat → Value} : ∀ l : List Value, RepSVs w Z G (ofConsts l) l
  | [] => rfl
  | v :: r => ⟨v, r, rfl, ofConst_rep v, ofConsts_rep r⟩
theorem RepSVs.patch {w : World} {Z : Nat → Prop} {G : Nat → Value} {l m : List SV} {vs us : List Value} (h : RepSVs w Z G l vs) (k : RepSVs w Z G m us) (off : Nat) :
    RepSVs w Z G (patch l off m) (vs.take off ++ us ++ vs.drop (off + us.length)) := by
  unfold Den.patch
  rw [k.length]
  exact ((h.take off).app k).app (h.drop _)
theorem fold_set (vs : List Value) : ∀ (off i : Nat) (cells : Array Value), off + i + vs.length ≤ cells.size →
    ((vs.zipIdx i).foldl (fun cs x => cs.setIfInBounds (off + x.2) x.1) cells).toList = cells.toList.take (off + i) ++ vs ++ cells.toList.drop (off + i + vs.length) := by
  induction vs with
  | nil => intro off i cells _; simp
  | cons v r ih =>
    intro off i cells h
    simp only [List.length_cons] at h
    rw [List.zipIdx_cons, List.foldl_cons, ih off (i + 1) _ (by simp; omega)]
    have ho : off + i < cells.toList.length := by simp; omega
    rw [Array.toList_setIfInBounds, show off + (i + 1) = off + i + 1 by omega, List.take_succ_eq_append_getElem (by simpa using ho)]
    simp only [List.length_cons]
    rw [List.take_set_of_le (Nat.le_refl _), List.getElem_set_self, List.drop_set_of_lt (by omega), show off + i + 1 + r.length = off + i + (r.length + 1) by omega]
    simp
theorem fill_step (place : Nat → Option (Nat × Nat)) (cells : Array Value) (i off size : Nat) (v : Value) (rest : List (Nat × Value)) (hp : place i = some (off, size)) (hv : v.cells.size = size) (hl : off + size ≤ cells.size) :
    ∃ cells', Instr.fill place cells ((i, v) :: rest) = Instr.fill place cells' rest ∧ cells'.toList = cells.toList.take off ++ v.cells.toList ++ cells.toList.drop (off + v.cells.toList.length) ∧ cells'.size = cells.size := by
  have hf := fold_set v.cells.toList off 0 cells (by simp; omega)
  have heq : (v.cells.zipIdx.foldl (fun cs x => cs.setIfInBounds (off + x.2) x.1) cells) = ((v.cells.toList.zipIdx 0).foldl (fun cs x => cs.setIfInBounds (off + x.2) x.1) cells) := by
    rw [← Array.foldl_toList, Array.toList_zipIdx]
  refine ⟨v.cells.zipIdx.foldl (fun cs x => cs.setIfInBounds (off + x.2) x.1) cells, ?_, ?_, ?_⟩
  · have h1 : ¬ (v.cells.size ≠ size || off + v.cells.size > cells.size) = true := by simp [hv]; omega
    simp only [Instr.fill, hp]
    rw [if_neg h1]
  · rw [heq, hf]; simp
  · have := congrArg List.length hf
    rw [heq, ← Array.length_toList, this]
    simp; omega
section
variable {P : Program} {w : World} {Z : Nat → Prop} {G : Nat → Value}
theorem sizesOk_places : ∀ (fs : List Field), sizesOk P fs = true → ∃ pl : List (Nat × Nat), fs.mapM (fun f => (P.info? f.type).map fun i => (f.offset, i.size)) = some pl ∧
    ∀ (i : Nat) (f : Field) (k : Nat), fs[i]? = some f → sizeT P f.type = some k → pl[i]? = some (f.offset, k)
  | [], _ => ⟨[], rfl, fun i f k h _ => by simp at h⟩
  | f :: fs, h => by
    unfold sizesOk at h
    split at h
    · rename_i k hk
      obtain ⟨pl, h1, h2⟩ := sizesOk_places fs h
      obtain ⟨ti, hi, rfl⟩ := sizeT_info hk
      refine ⟨(f.offset, ti.size) :: pl, by simp [hi, h1], fun i g k hg hk' => ?_⟩
      cases i with
      | zero => simp at hg; subst hg; rw [hk] at hk'; injection hk' with hk'; simp [hk']
      | succ i => exact h2 i g k (by simpa using hg) hk'
    · cases h
def PartsRep (w : World) (Z : Nat → Prop) (G : Nat → Value) : List (Nat × SV) → List (Nat × Value) → Prop
  | [], vs => vs = []
  | (i, s) :: r, vs => ∃ v t, vs = (i, v) :: t ∧ RepSV w Z G s v ∧ PartsRep w Z G r t
theorem fillParts_rep (hG : ∀ id, (G id).oneCell' = true) {fs : List Field} {pl : List (Nat × Nat)} (hpl : ∀ (i : Nat) (f : Field) (k : Nat), fs[i]? = some f → sizeT P f.type = some k → pl[i]? = some (f.offset, k)) :
    ∀ {ps : List (Nat × SV)} {cells cs : List SV} {vs : List (Nat × Value)} {zc : Array Value}, fillParts P fs ps cells = some cs → PartsRep w Z G ps vs → RepSVs w Z G cells zc.toList →
      ∃ out, Instr.fill (pl.toArray[·]?) zc vs = some out ∧ RepSVs w Z G cs out.toList
  | [], cells, cs, vs, zc, h, hp, hz => by
    have hp : vs = [] := hp
    subst hp
    simp only [fillParts, Option.some.injEq] at h
    subst h
    exact ⟨zc, rfl, hz⟩
  | (i, s) :: r, cells, cs, vs, zc, h, hp, hz => by
    obtain ⟨v, t, rfl, hv, ht⟩ := hp
    unfold fillParts at h
    split at h
    · rename_i f hf
      split at h
      · rename_i k hk
        obtain ⟨hb, h⟩ := cond_opt h
        simp only [Bool.and_eq_true] at hb
        obtain ⟨⟨hb1, hb2⟩, hb3⟩ := hb
        obtain ⟨hr, _⟩ := cellsV_rep hG hb3 hv
        have hn : v.cells.size = k := by
          have := hr.length; rw [Nat.eq_of_beq_eq_true hb1] at this; simpa using this.symm
        have hle : f.offset + k ≤ zc.size := by have := hz.length; have := Nat.le_of_ble_eq_true hb2; simp at *; omega
        obtain ⟨zc', h1, h2, h3⟩ := fill_step (pl.toArray[·]?) zc i f.offset k v t (by simpa using hpl i f k hf hk) hn hle
        obtain ⟨out, h4, h5⟩ := fillParts_rep hG hpl (zc := zc') h ht (by rw [h2]; exact hz.patch hr f.offset)
        exact ⟨out, h1.trans h4, h5⟩
      · cases h
    · cases h
theorem run_build_rep (hG : ∀ id, (G id).oneCell' = true) {t : TypeId} {fs : Array Field} {ps : List (Nat × SV)} {z cs : List SV} {vs : Array (Nat × Value)} (hu : P.underlying t = some (.struct fs)) (hz : zeroCells P t = some z) (hs : sizesOk P fs.toList = true)
    (h : fillParts P fs.toList ps z = some cs) (hp : PartsRep w Z G ps vs.toList) : ∃ out, (∀ w' : World, (Instr.build t vs).run P w' = .ok (.agg out) w') ∧ RepSVs w Z G cs out.toList := by
  unfold zeroCells at hz
  split at hz
  · rename_i it hi
    split at hz
    · rename_i zv hzv
      injection hz with hz
      subst hz
      obtain ⟨pl, h1, h2⟩ := sizesOk_places fs.toList hs
      obtain ⟨out, h3, h4⟩ := fillParts_rep hG h2 (zc := zv.cells) h hp (ofConsts_rep _)
      refine ⟨out, fun w' => run_build w' t vs out ?_, h4⟩
      unfold Program.built
      simp only [hi, hu, hzv, h1, h3]
    · cases hz
  · cases hz
theorem Cs_false {t : TypeId} {cs : List Ct} (h : Cs P t = some (false, cs)) : ∃ c, cs = [c] := by
  unfold Cs cts at h
  split at h <;> first | (cases h; done) | (cases h; exact ⟨_, rfl⟩) | skip
  · split at h
    · cases h; exact ⟨_, rfl⟩
    · cases h
  · split at h <;> cases h
theorem RepL.elem {m : Bool} {cs : List Ct} {vs : List Value} {us : List U} (hm : m = false → ∃ c, cs = [c]) (h : RepL w Z cs vs us) : RepL w Z cs vs (elemU m (ofElem m us)) := by
  cases m with
  | true => exact h
  | false =>
    obtain ⟨c, rfl⟩ := hm rfl
    obtain ⟨v, t, rfl, hr, ht⟩ := h
    exact ⟨v, t, rfl, hr, ht⟩
theorem litElems_rep (hG : ∀ id, (G id).oneCell' = true) {m : Bool} {cs : List Ct} (hm : m = false → ∃ c, cs = [c]) : ∀ {ps : List (Nat × SV)} {xs ys : List U} {vs : List (Nat × Value)} {zc : Array Value}, litElems m cs ps xs = some ys → PartsRep w Z G ps vs → RepElems w Z m cs xs zc.toList →
      (∀ i s, (i, s) ∈ ps → areCells (cellsV s) = true) → ∃ out, Instr.fill (fun i => some (i * cs.length, cs.length)) zc vs = some out ∧ RepElems w Z m cs ys out.toList ∧ ys.length = xs.length ∧ out.size = zc.size
  | [], xs, ys, vs, zc, h, hp, hz, _ => by
    have hp : vs = [] := hp
    subst hp
    simp only [litElems, Option.some.injEq] at h
    subst h
    exact ⟨zc, rfl, hz, rfl, rfl⟩
  | (i, s) :: r, xs, ys, vs, zc, h, hp, hz, ha => by
    obtain ⟨v, t, rfl, hv, ht⟩ := hp
    unfold litElems at h
    split at h
    · rename_i us hus
      obtain ⟨hb, h⟩ := cond_opt h
      have hb : i < xs.length := by simpa [Nat.blt_eq] using hb
      obtain ⟨hr, _⟩ := cellsV_rep hG (ha i s (by simp)) hv
      have hl : RepL w Z cs v.cells.toList us := plainUs_rep hus hr
      have hn : v.cells.size = cs.length := by have := hl.length; simpa using this
      have htot : zc.size = xs.length * cs.length := by have := hz.length; simpa using this
      have hle : i * cs.length + cs.length ≤ zc.size := by
        rw [htot, ← Nat.succ_mul]; exact Nat.mul_le_mul_right _ hb
      obtain ⟨zc', h1, h2, h3⟩ := fill_step (fun i => some (i * cs.length, cs.length)) zc i (i * cs.length) cs.length v t rfl hn hle
      obtain ⟨p, q, r', he, hpl, hq⟩ := hz.at_ i hb
      have hql := hq.length
      rw [he] at hz
      have hset := RepElems.set_ (k := i) (x := ofElem m us) hz hb hpl hql (RepL.elem hm hl)
      have hz' : RepElems w Z m cs (xs.set i (ofElem m us)) zc'.toList := by
        rw [h2, he, ← hpl, hl.length, ← hql]
        simpa [List.append_assoc] using hset
      obtain ⟨out, h4, h5, h6, h7⟩ := litElems_rep hG hm h ht hz' (fun j s' hj => ha j s' (by simp [hj]))
      exact ⟨out, h1.trans h4, h5, by simpa using h6, h7.trans h3⟩
    · cases h
end
end Go.Den

namespace Go.Den
open Go Go.RowKit
theorem evs_two {σ : St} {l : List Operand} {s x : SV} (h : evs σ l = [s, x]) : ∃ p q, l = [p, q] ∧ s = σ.ev p ∧ x = σ.ev q := by
  match l with
  | [] => simp [evs] at h
  | [_] => simp [evs] at h
  | [p, q] => simp [evs] at h; exact ⟨p, q, rfl, h.1.symm, h.2.symm⟩
  | _ :: _ :: _ :: _ => simp [evs] at h
theorem evs_one {σ : St} {l : List Operand} {s : SV} (h : evs σ l = [s]) : ∃ p, l = [p] ∧ s = σ.ev p := by
  match l with
  | [] => simp [evs] at h
  | [p] => simp [evs] at h; exact ⟨p, rfl, h.symm⟩
  | _ :: _ :: _ => simp [evs] at h
theorem nilCell_some {P : Program} {t e : TypeId} (h : nilCell P t = some e) : P.underlying t = some (.slice e) := by
  unfold nilCell at h
  split at h
  · rename_i e' hu; injection h with h; subst h; exact hu
  · cases h
theorem smallType_some {P : Program} {e : TypeId} (h : smallType P e = true) : ∃ i m cs z, P.info? e = some i ∧ Cs P e = some (m, cs) ∧ i.zero = some z ∧ i.bytes ≤ 128 ∧ i.size = cs.length ∧ z.cells.size = cs.length ∧ 0 < cs.length := by
  unfold smallType at h
  split at h
  · rename_i i m cs hi hc
    split at h
    · rename_i z hz
      simp only [Bool.and_eq_true] at h
      obtain ⟨⟨⟨h1, h2⟩, h3⟩, h4⟩ := h
      exact ⟨i, m, cs, z, hi, hc, hz, Nat.le_of_ble_eq_true h1, Nat.eq_of_beq_eq_true h2, Nat.eq_of_beq_eq_true h3, by simpa [Nat.blt_eq] using h4⟩
    · cases h
  · cases h
theorem isSize_some {P : Program} {t : TypeId} {k : Nat} (h : isSize P t k = true) : sizeT P t = some k := by
  unfold isSize at h
  split at h
  · rename_i j hj; rw [hj, Nat.eq_of_beq_eq_true h]
  · cases h
theorem isNil_eq {s : SV} (h : isNil s = true) : s = .nil := by cases s <;> first | rfl | cases h
theorem at_getElem : ∀ (l : List U) (j : Nat) (h : j < l.length), U.at l j = l[j]
  | _ :: _, 0, _ => rfl
  | _ :: l, j + 1, h => at_getElem l j (by simpa using h)
section
variable {P : Program} {Θ : Anc} {n : Nat} {σ : St} {a : Act} {w : World} {Z : Nat → Prop} {G : Nat → Value}
theorem source_rep (S : Sim P Θ n σ a w Z G) {m : Bool} {cs : List Ct} {str : Bool} {tx : TypeId} {s : SV} {v : Value} {ys : List U} (hs : RepSV w Z G s v) (hk : if str = true then P.underlying tx = some .string else ∃ e, P.underlying tx = some (.slice e))
    (h : source P σ.objs m cs str s = some ys) : ∃ news, RepElems w Z m cs ys news ∧ Src P cs.length tx v ys.length news w := by
  cases str with
  | true =>
    simp only [if_true] at hk
    unfold source at h
    simp only at h
    split at h
    · rename_i u
      split at h
      · rename_i hb
        have hb := Ct.beq_eq hb
        cases hb
        injection h with h
        subst h
        have hs : v = .string u.str := hs.1
        subst hs
        have hlen : (u.str.data.toList.map fun b => U.i (b.toNat : Int)).length = u.str.size := by simp
        refine ⟨byteCells u.str, ?_, ?_⟩
        · unfold byteCells
          generalize u.str.data.toList = l
          induction l with
          | nil => exact rfl
          | cons b l ih => exact ⟨[.int .u8 b.toNat], l.map _, rfl, ⟨_, [], rfl, ⟨rfl, by show (0 : Int) ≤ _; exact Int.natCast_nonneg _, by show ((b.toNat : Nat) : Int) ≤ 2 ^ 8 - 1; have := b.toNat_lt; omega⟩, rfl⟩, ih⟩
        · rw [hlen]
          exact Src.ofString w hk u.str
      · cases h
    · cases h
  | false =>
    simp only [if_false, Bool.false_eq_true] at hk
    obtain ⟨e', hk⟩ := hk
    unfold source at h
    simp only at h
    split at h
    · rename_i u hu
      injection h with h
      subst h
      have plain : RepC w Z (.sl m cs) v u → ∃ news, RepElems w Z m cs u.list news ∧ Src P cs.length tx v u.list.length news w := by
        rintro ⟨A, c, rfl, hc, _, hk'⟩
        cases A with
        | none =>
          have h0 : u.list = [] := by
            cases hl : u.list with
            | nil => rfl
            | cons x l =>
              obtain ⟨b, o, hA, _⟩ := hk' 0 (by simp [hl])
              cases hA
          rw [h0]
          exact ⟨[], rfl, Src.ofNil w hk c⟩
        | some p =>
          cases hl : u.list with
          | nil => exact ⟨[], rfl, Src.ofSlice w hk p 0 c [] (by simp) (fun j v hj => by simp at hj) (fun v hv => by cases hv)⟩
          | cons x l =>
            rw [← hl]
            obtain ⟨b, o, hA, _⟩ := hk' 0 (by simp [hl])
            injection hA with hA
            subst hA
            obtain ⟨vs, h1, h2⟩ := elems_values (us := u.list) (o := o) (b := b) (fun k hkk => by
              obtain ⟨b', o', hA, _, hr⟩ := hk' k hkk
              injection hA with hA
              injection hA with hb ho
              subst hb ho
              exact hr)
            exact ⟨vs, h1, Src.ofSlice w hk ⟨b, o, none⟩ u.list.length c vs h1.length (fun j v hj => by rw [addr_add]; exact h2 j v hj) h1.one⟩
      unfold toU at hu
      split at hu
      · rename_i id
        split at hu
        · rename_i m1 cs1 e xs heq ho
          split at hu
          · rename_i m' cs' hcs
            split at hu
            · rename_i hb
              have hb := Ct.beq_eq hb
              cases hb
              cases heq
              injection hu with hu
              subst hu
              obtain ⟨m2, cs2, vs, h1, h2, h3⟩ := S.obj id _ ho
              rw [hcs] at h1
              cases h1
              have hs : v = G id := hs
              subst hs
              refine ⟨vs, h3, ?_⟩
              show Src P _ tx (G id) xs.length vs w
              rcases h2.2 with ⟨h4, h5⟩ | ⟨g, cap, cur, h4, _⟩
              · have hx : xs = [] := List.eq_nil_of_length_eq_zero h5
                subst hx
                have hvs : vs = [] := h3
                subst hvs
                rw [h4]
                exact Src.ofNil w hk 0
              · have hc := World.ownsRow.cells h2 (g := g) (by rw [h4]; rfl)
                rw [h4]
                exact Src.ofSlice w hk ⟨g, 0, none⟩ xs.length cap vs h3.length hc h3.one
            · cases hu
          · cases hu
        · cases hu
      · exact plain (plainU_rep hu hs)
    · cases h
theorem freezes_sim : ∀ {ids : List Nat} {σ σ' : St} {Z : Nat → Prop}, Sim P Θ n σ a w Z G → σ.freezes P ids = some σ' → ∃ Z', Sim P Θ n σ' a w Z' G
  | [], σ, σ', Z, S, h => by simp only [St.freezes, Option.some.injEq] at h; subst h; exact ⟨Z, S⟩
  | id :: r, σ, σ', Z, S, h => by
    unfold St.freezes at h
    split at h
    · rename_i e xs ho
      split at h
      · rename_i m cs hcs
        obtain ⟨m2, cs2, vs, h1, h2, h3⟩ := S.obj id _ ho
        rw [hcs] at h1
        cases h1
        have hx : RepC w (fun b => Z b ∨ blk (G id) = some b) (.sl m cs) (G id) (.l xs) := own_rep (fun _ hb => Or.inl hb) (fun b hb => Or.inr hb) h2 h3
        exact freezes_sim (S.freeze (x := .val (.sl m cs) (.l xs)) ho hx fun b hb => arr_plain (S.obj id _ ho) hb) h
      · cases h
    · cases h
    · cases h
    · exact freezes_sim S h
theorem owned_sim : ∀ {es : List (Option TypeId)} {id : Nat} {acc l cs : List SV} {σ τ : St} {G : Nat → Value} {vs us : List Value}, Sim P Θ n σ a w Z G → owned P id es acc l σ = some (cs, τ) → RepSVs w Z G acc vs → RepSVs w Z G l us →
      ∃ G', Sim P Θ n τ a w Z G' ∧ RepSVs w Z G' cs (vs ++ us)
  | [], id, acc, l, cs, σ, τ, G, vs, us, S, h, ha, hl => by
    simp only [owned, Option.some.injEq, Prod.mk.injEq] at h
    obtain ⟨rfl, rfl⟩ := h
    exact ⟨G, S, ha.app hl⟩
  | e :: es, id, acc, [], cs, σ, τ, G, vs, us, S, h, ha, hl => by
    have hl : us = [] := hl
    subst hl
    cases e <;> (simp only [owned, Option.some.injEq, Prod.mk.injEq] at h; obtain ⟨rfl, rfl⟩ := h; exact ⟨G, S, by simpa using ha⟩)
  | none :: es, id, acc, s :: l, cs, σ, τ, G, vs, us, S, h, ha, hl => by
    obtain ⟨v, t, rfl, hv, ht⟩ := hl
    unfold owned at h
    obtain ⟨G', S', hr⟩ := owned_sim S h (ha.app (m := [s]) (us := [v]) ⟨v, [], rfl, hv, rfl⟩) ht
    exact ⟨G', S', by simpa using hr⟩
  | some e :: es, id, acc, s :: l, cs, σ, τ, G, vs, us, S, h, ha, hl => by
    obtain ⟨v, t, rfl, hv, ht⟩ := hl
    unfold owned at h
    split at h
    · rename_i hn
      have := isNil_eq hn
      subst this
      have hv : v = .slice none 0 0 := hv
      subst hv
      split at h
      · rename_i hsm
        obtain ⟨i, m, ds, z, h1, h2, h3, h4, h5, h6, h7⟩ := smallType_some hsm
        have T : Turns w w Z Z G (fun i => if i = 2 * id then (Value.slice none 0 0) else G i) (2 * id) .unk := { sub := fun _ h => h, same := fun _ _ => rfl, other := fun i hi => if_neg hi, its := trivial }
        have S' := S.newO (id := 2 * id) (o := .arr e []) (v := .slice none 0 0) (row := none) (w' := w) (by omega) ⟨rfl, rfl, rfl, Nat.le_refl _, fun _ _ _ => rfl⟩ (fun b hb => by cases hb) (fun b hb => by cases hb)
          ⟨m, ds, [], h2, by simp only [if_true]; exact World.ownsRow_nil w 0 e ds.length, rfl⟩
        obtain ⟨G', S'', hr⟩ := owned_sim S' h ((RepSVs.sub T _ _ ha).app (m := [.own (2 * id)]) (us := [.slice none 0 0]) ⟨_, [], rfl, by show _ = _; simp, rfl⟩) (RepSVs.sub T _ _ ht)
        exact ⟨G', S'', by simpa using hr⟩
      · cases h
    · obtain ⟨G', S', hr⟩ := owned_sim S h (ha.app (m := [s]) (us := [v]) ⟨v, [], rfl, hv, rfl⟩) ht
      exact ⟨G', S', by simpa using hr⟩
end
end Go.Den

namespace Go.Den
open Go Go.RowKit
theorem RepL.vals {w : World} {Z : Nat → Prop} {G : Nat → Value} : ∀ {cs : List Ct} {vs : List Value} {us : List U}, RepL w Z cs vs us → RepSVs w Z G (vals cs us) vs
  | [], _, _, h => h
  | _ :: _, _, _, h => by
    obtain ⟨v, t, rfl, hr, ht⟩ := h
    exact ⟨v, t, rfl, hr, RepL.vals ht⟩
theorem RepSVs.repL {w : World} {Z : Nat → Prop} {G : Nat → Value} : ∀ {cs : List Ct} {vs : List Value} {us : List U}, RepSVs w Z G (Den.vals cs us) vs → RepL w Z cs vs us
  | [], _, _, h => h
  | _ :: _, _, _, h => by
    obtain ⟨v, t, rfl, hr, ht⟩ := h
    exact ⟨v, t, rfl, hr, RepSVs.repL ht⟩
section
variable {P : Program} {w : World} {Z Zc : Nat → Prop} {G G' : Nat → Value}
theorem toUs_rep {f : Ct → SV → Option U} (hf : ∀ c s u v, f c s = some u → RepSV w Z G s v → RepC w Zc c v u) : ∀ {cs : List Ct} {l : List SV} {us : List U} {vs : List Value}, toUs f cs l = some us → RepSVs w Z G l vs → RepL w Zc cs vs us
  | [], [], us, vs, h, hs => by
    have hs : vs = [] := hs
    subst hs
    rfl
  | [], _ :: _, us, vs, h, hs => by simp [toUs] at h
  | _ :: _, [], us, vs, h, hs => by simp [toUs] at h
  | c :: cs, s :: l, us, vs, h, hs => by
    unfold toUs at h
    split at h
    · rename_i u us' h1 h2
      injection h with h
      subst h
      obtain ⟨v, t, rfl, hv, ht⟩ := hs
      exact ⟨v, t, rfl, hf _ _ _ _ h1 hv, toUs_rep hf h2 ht⟩
    · cases h
theorem flat_rep {f : Ct → SV → Option U} (hf : ∀ c s u v, f c s = some u → RepSV w Z G s v → RepC w Zc c v u) {t : TypeId} {s : SV} {us : List U} {v : Value} (h : flat P f t s = some us) (hs : RepSV w Z G s v) :
    ∃ s', unflat P t us = some s' ∧ RepSV w Zc none_ s' v := by
  unfold flat at h
  split at h
  · rename_i cs hcs
    split at h
    · rename_i l
      obtain ⟨vs, rfl, hr⟩ := hs
      exact ⟨.agg (vals cs us), by simp [unflat, hcs], ⟨vs, rfl, RepL.vals (toUs_rep hf h hr)⟩⟩
    · cases h
  · rename_i cs hcs
    obtain ⟨c, rfl⟩ := Cs_false hcs
    obtain ⟨v', t', hv, hr, _⟩ := toUs_rep hf h (vs := [v]) ⟨v, [], rfl, hs, rfl⟩
    cases hv
    exact ⟨.val c (U.at us 0), by simp [unflat, hcs], hr⟩
  · cases h
theorem flats_rep {f : Ct → SV → Option U} (hf : ∀ c s u v, f c s = some u → RepSV w Z G s v → RepC w Zc c v u) : ∀ {ts : List TypeId} {l : List SV} {us : List (List U)} {vs : List Value}, flats P f ts l = some us → RepSVs w Z G l vs →
    ∃ svs, unflats P ts us = some svs ∧ RepSVs w Zc none_ svs vs
  | [], [], us, vs, h, hs => by
    simp only [flats, Option.some.injEq] at h
    subst h
    exact ⟨[], rfl, hs⟩
  | [], _ :: _, us, vs, h, hs => by simp [flats] at h
  | _ :: _, [], us, vs, h, hs => by simp [flats] at h
  | t :: ts, s :: l, us, vs, h, hs => by
    unfold flats at h
    split at h
    · rename_i u us' h1 h2
      injection h with h
      subst h
      obtain ⟨v, t, rfl, hv, ht⟩ := hs
      obtain ⟨s', h3, h4⟩ := flat_rep hf h1 hv
      obtain ⟨svs, h5, h6⟩ := flats_rep hf h2 ht
      exact ⟨s' :: svs, by simp [unflats, h3, h5], ⟨v, _, rfl, h4, h6⟩⟩
    · cases h
theorem unflat_any {t : TypeId} {us : List U} {s : SV} {v : Value} (h : unflat P t us = some s) (hs : RepSV w Z G s v) : RepSV w Z G' s v := by
  unfold unflat at h
  split at h
  · injection h with h; subst h
    obtain ⟨vs, rfl, hr⟩ := hs
    exact ⟨vs, rfl, RepL.vals (RepSVs.repL hr)⟩
  · injection h with h; subst h; exact hs
  · cases h
theorem unflats_any : ∀ {ts : List TypeId} {us : List (List U)} {svs : List SV} {vs : List Value}, unflats P ts us = some svs → RepSVs w Z G svs vs → RepSVs w Z G' svs vs
  | [], [], svs, vs, h, hs => by simp only [unflats, Option.some.injEq] at h; subst h; exact hs
  | [], _ :: _, svs, vs, h, hs => by simp [unflats] at h
  | _ :: _, [], svs, vs, h, hs => by simp [unflats] at h
  | t :: ts, u :: us, svs, vs, h, hs => by
    unfold unflats at h
    split at h
    · rename_i s l h1 h2
      injection h with h
      subst h
      obtain ⟨v, r, rfl, hv, hr⟩ := hs
      exact ⟨v, r, rfl, unflat_any h1 hv, unflats_any h2 hr⟩
    · cases h
theorem scalarC_rep {Z' : Nat → Prop} {c : Ct} {v : Value} {u : U} (h : scalarC c = true) (hr : RepC w Z c v u) : RepC w Z' c v u := by
  cases c <;> first | exact hr | cases h
theorem scalarCs_rep {Z' : Nat → Prop} : ∀ {cs : List Ct} {vs : List Value} {us : List U}, scalarCs cs = true → RepL w Z cs vs us → RepL w Z' cs vs us
  | [], _, _, _, h => h
  | c :: cs, vs, us, hc, h => by
    unfold scalarCs at hc
    split at hc
    · rename_i h1
      obtain ⟨v, t, rfl, hr, ht⟩ := h
      exact ⟨v, t, rfl, scalarC_rep h1 hr, scalarCs_rep hc ht⟩
    · cases hc
theorem scalars_rep {Z' : Nat → Prop} : ∀ {ts : List TypeId} {us : List (List U)} {svs : List SV} {vs : List Value}, scalars P ts = true → unflats P ts us = some svs → RepSVs w Z none_ svs vs → RepSVs w Z' none_ svs vs
  | [], [], svs, vs, _, h, hs => by simp only [unflats, Option.some.injEq] at h; subst h; exact hs
  | [], _ :: _, svs, vs, _, h, hs => by simp [unflats] at h
  | _ :: _, [], svs, vs, _, h, hs => by simp [unflats] at h
  | t :: ts, u :: us, svs, vs, hsc, h, hs => by
    unfold unflats at h
    split at h
    · rename_i s l h1 h2
      injection h with h
      subst h
      obtain ⟨v, r, rfl, hv, hr⟩ := hs
      unfold scalars at hsc
      split at hsc
      · rename_i m cs hcs
        split at hsc
        · rename_i hcs'
          refine ⟨v, r, rfl, ?_, scalars_rep hsc h2 hr⟩
          unfold unflat at h1
          rw [hcs] at h1
          split at h1
          · rename_i heq
            cases heq
            injection h1 with h1; subst h1
            obtain ⟨vs', rfl, hr'⟩ := hv
            exact ⟨vs', rfl, RepL.vals (scalarCs_rep hcs' (RepSVs.repL hr'))⟩
          · rename_i c heq
            cases heq
            injection h1 with h1; subst h1
            unfold scalarCs at hcs'
            split at hcs'
            · rename_i hc
              exact scalarC_rep hc hv
            · cases hcs'
          · cases h1
        · cases hsc
      · cases hsc
    · cases h
theorem RepRes.any {ts : List TypeId} {us : List (List U)} {svs : List SV} {v : Value} (h : unflats P ts us = some svs) (hr : RepRes w Z svs v) : (∃ s, svs = [s] ∧ RepSV w Z G s v) ∨ ((∀ s, svs ≠ [s]) ∧ RepSV w Z G (.tup svs) v) := by
  unfold RepRes at hr
  split at hr
  · rename_i s
    refine .inl ⟨s, rfl, ?_⟩
    obtain ⟨v', t, hv, hs, _⟩ := unflats_any (G := none_) (G' := G) (vs := [v]) h ⟨v, [], rfl, hr, rfl⟩
    cases hv
    exact hs
  · rename_i hne
    obtain ⟨vs, rfl, hs⟩ := hr
    exact .inr ⟨fun s hs' => hne s hs', ⟨vs, rfl, unflats_any h hs⟩⟩
end
section
variable {P : Program} {Θ : Anc} {n : Nat} {σ : St} {a : Act} {w : World} {Z : Nat → Prop} {G : Nat → Value}
theorem toU_rep (S : Sim P Θ n σ a w Z G) {c : Ct} {s : SV} {u : U} {v : Value} (h : toU P σ.objs c s = some u) (hs : RepSV w Z G s v) : RepC w (fun b => Z b ∨ Live σ G b) c v u := by
  unfold toU at h
  split at h
  · rename_i id
    split at h
    · rename_i m1 cs1 e xs ho
      split at h
      · rename_i m' cs' hcs
        split at h
        · rename_i hb
          have hb := Ct.beq_eq hb
          cases hb
          injection h with h
          subst h
          obtain ⟨m2, cs2, vs, h1, h2, h3⟩ := S.obj id _ ho
          rw [hcs] at h1
          cases h1
          have hs : v = G id := hs
          subst hs
          exact own_rep (fun _ hb => Or.inl hb) (fun b hb => Or.inr ⟨id, _, _, ho, hb⟩) h2 h3
        · cases h
      · cases h
    · cases h
  · exact RepC.mono ⟨fun _ h => Or.inl h, fun _ _ => rfl⟩ _ _ _ (plainU_rep h hs)
theorem Sim.evs_rep (S : Sim P Θ n σ a w Z G) : ∀ xs : List Operand, RepSVs w Z G (evs σ xs) (xs.map a.eval)
  | [] => rfl
  | x :: xs => ⟨a.eval x, _, rfl, S.ev x, S.evs_rep xs⟩
theorem call_wp {C : Ctx} (hC : C.Ok) {o : Oper} {K : Act → World → Prop} {Q : Exit → Act → World → Prop} {k : St → Prop} (S : Sim C.P Θ n σ a w Z G) (hd : ∀ t, o.dst = some t → t < n)
    (hk : ∀ σ' a' w' Z' G', k σ' → Sim C.P Θ n σ' a' w' Z' G' → K a' w')
    {f : FuncId} {fn : Func} {cf : Operand} {args : Array Operand} {ts : Array TypeId} (ho : o.op = .call { callee := .value cf, args := args, argTypes := ts }) (hcf : a.eval cf = .func (.func f) #[] #[]) (hf : C.P.funcs[f]? = some fn)
    {g : Ct → SV → Option U} {Zc : Nat → Prop} (hg : ∀ c s u v, g c s = some u → RepSV w Z G s v → RepC w Zc c v u) (hZc : ∀ b, Zc b → b < w.heap.size)
    (hres : ∀ rs svs w' v Z', unflats C.P fn.resultTypes.toList rs = some svs → RepRes w' Z' svs v → (∀ b, Z' b → Zc b ∨ (w.heap.size ≤ b ∧ Plain w' b)) → (∀ b, Z' b → b < w'.heap.size) → (∀ b, Zc b → Z' b) → ∃ Z'', (∀ b, Z'' b → Z b ∨ (w.heap.size ≤ b ∧ Plain w' b)) ∧ (∀ b, Z b → Z'' b) ∧ (∀ b, Z'' b → b < w'.heap.size) ∧ RepRes w' Z'' svs v)
    (h : opCallIn C g o.dst f fn args.toList σ k) : o.wp C.P a w K Q := by
  unfold opCallIn at h
  split at h
  · cases h
  rename_i us hus
  split at h
  · cases h
  rename_i p rs hrs
  obtain ⟨hp, h⟩ : withP p True ∧ (match unflats C.P fn.resultTypes.toList rs with | none => False | some [v] => k (setD σ o.dst v) | some vs => k (setD σ o.dst (.tup vs))) := by
    generalize unflats C.P fn.resultTypes.toList rs = q at h ⊢
    rcases q with _ | _ | ⟨v, _ | ⟨v2, r⟩⟩
    · exact h.elim
    · cases p with
      | none => exact ⟨trivial, h⟩
      | some p => exact ⟨⟨h.1, trivial⟩, h.2⟩
    · cases p with
      | none => exact ⟨trivial, h⟩
      | some p => exact ⟨⟨h.1, trivial⟩, h.2⟩
    · cases p with
      | none => exact ⟨trivial, h⟩
      | some p => exact ⟨⟨h.1, trivial⟩, h.2⟩
  obtain ⟨hbody, hname, hcalls⟩ := hC.fns f fn us p rs hf hrs hp
  have hc := hcalls w Zc (args.toList.map a.eval) hZc (flats_shape hus) (flats_rep hg hus (S.evs_rep _))
  unfold Oper.wp execOp
  have hrun : (do let d ← resolve a.eval { callee := .value cf, args := args, argTypes := ts } o.type; invoke d.target d.args : Sem Next).run C.P w = .ok (.enter f (args.toList.map a.eval).toArray) w := by
    have harr : args.map a.eval = (args.toList.map a.eval).toArray := by apply Array.ext'; simp
    have hn : ¬ fn.name = "runtime.NumGoroutine" := by simpa using hname
    have hb : ¬ fn.body = none := by intro e; rw [e] at hbody; cases hbody
    simp [resolve, hcf, Deferred.ofValue, invoke, callFunc, hf, hn, hb, harr]
  simp only [ho, hrun, Oper.upon]
  refine hc.mono fun e w' ⟨v, Z', he, hfut, hz1, hz2, hz3, svs, hsv, hrr⟩ => ?_
  subst he
  obtain ⟨Z'', hy1, hy2, hy3, hrr'⟩ := hres rs svs w' v Z' hsv hrr hz2 hz3 hz1
  have hblk : ∀ b, b < w.heap.size → w'.heap[b]? = w.heap[b]? := fun b hb => hfut.block b hb (fun x => x)
  have hK : Stays w w' Z Z'' := ⟨hy2, fun b hb => hblk b (S.lt b hb)⟩
  have S' : Sim C.P Θ n σ a w' Z'' G :=
    { size := S.size, calm := S.calm
      slot := fun t => RepSV.mono hK _ _ (S.slot t)
      obj := fun id o' ho' => RepO.mono hK (fun b hb => hblk b (RepO.lt S ho' hb)) (S.obj id o' ho')
      sep := S.sep
      free := fun id o' b ho' hb => ⟨fun hz => by
        rcases hy1 b hz with h1 | h1
        · exact (S.free id o' b ho' hb).1 h1
        · have h1 := h1.1; have := RepO.lt S ho' hb; omega, (S.free id o' b ho' hb).2⟩
      keep := S.keep
      nlt := S.nlt
      lt := hy3
      fut := S.fut.trans hfut (fun _ h => h) (fun _ _ h => h.elim)
      new := fun b hb => by
        rcases hy1 b hb with h1 | h1
        · exact S.new b h1
        · exact .inr (.inr (.inr (Nat.le_trans S.fut.size h1.1)))
      sub := fun b hb => hy2 b (S.sub b hb)
      flat := S.flat
      odd := S.odd
      row := fun b hb => by
        rcases hy1 b hb with h1 | h1
        · exact (S.row b h1).imp (fun h => h) fun h => h.of (hK.same b h1)
        · exact .inr h1.2 }
  rw [hsv] at h
  rcases RepRes.any (G := G) hsv hrr' with ⟨s, rfl, hs⟩ | ⟨hne, hs⟩
  · exact hk _ _ _ _ _ h (S'.put hs hd)
  · split at h
    · exact h.elim
    · rename_i v' heq; exact absurd (Option.some.inj heq) (hne v')
    · rename_i vs' _ heq
      have := Option.some.inj heq
      subst this
      exact hk _ _ _ _ _ h (S'.put hs hd)
end
end Go.Den

namespace Go.Den
open Go Go.RowKit
theorem evps_parts {P : Program} {Θ : Anc} {n : Nat} {σ : St} {a : Act} {w : World} {Z : Nat → Prop} {G : Nat → Value} (S : Sim P Θ n σ a w Z G) :
    ∀ ps : List (Nat × Operand), PartsRep w Z G (evps σ ps) (ps.map fun x => (x.1, a.eval x.2))
  | [] => rfl
  | (_, x) :: r => ⟨a.eval x, _, rfl, S.ev x, evps_parts S r⟩
theorem plainUs_cells : ∀ {cs : List Ct} {l : List SV} {us : List U}, toUs plainU cs l = some us → areCells l = true
  | [], [], _, _ => rfl
  | [], _ :: _, _, h => by simp [toUs] at h
  | _ :: _, [], _, h => by simp [toUs] at h
  | c :: cs, s :: l, us, h => by
    unfold toUs at h
    split at h
    · rename_i u us' h1 h2
      unfold areCells
      have : isCell s = true := by
        unfold plainU at h1
        split at h1 <;> first | rfl | cases h1
      rw [this]
      exact plainUs_cells h2
    · cases h
theorem litElems_cells {m : Bool} {cs : List Ct} : ∀ {ps : List (Nat × SV)} {xs ys : List U}, litElems m cs ps xs = some ys → ∀ i s, (i, s) ∈ ps → areCells (cellsV s) = true
  | [], _, _, _, i, s, hm => by cases hm
  | (j, v) :: r, xs, ys, h, i, s, hm => by
    unfold litElems at h
    split at h
    · rename_i us hus
      obtain ⟨_, h⟩ := cond_opt h
      rcases List.mem_cons.1 hm with hm | hm
      · cases hm; exact plainUs_cells hus
      · exact litElems_cells h i s hm
    · cases h
theorem zeroElem_rep {P : Program} {w : World} {Z : Nat → Prop} {e : TypeId} {z : U} (h : zeroElem P e = some z) : ∃ i m cs zv, P.info? e = some i ∧ i.zero = some zv ∧ Cs P e = some (m, cs) ∧ RepL w Z cs zv.cells.toList (elemU m z) := by
  unfold zeroElem at h
  split at h
  · rename_i zc m cs hz hcs
    split at h
    · rename_i us hus
      injection h with h
      subst h
      unfold zeroCells at hz
      split at hz
      · rename_i i hi
        split at hz
        · rename_i zv hzv
          injection hz with hz
          subst hz
          refine ⟨i, m, cs, zv, hi, hzv, hcs, RepL.elem (fun hm => by subst hm; exact Cs_false hcs) ?_⟩
          exact plainUs_rep (G := none_) hus (ofConsts_rep _)
        · cases hz
      · cases hz
    · cases h
  · cases h
theorem madeCells_flat (z : Array Value) (hz : 0 < z.size) : ∀ k : Nat, (madeCells z (k * z.size)).toList = (List.replicate k z.toList).flatten
  | 0 => by simp [madeCells]
  | k + 1 => by
    have ih := madeCells_flat z hz k
    rw [List.replicate_succ', List.flatten_append, ← ih]
    simp only [madeCells, Array.toList_map, Array.toList_range, Nat.add_mul, Nat.one_mul, List.range_add, List.map_append, List.map_map, List.flatten_cons, List.flatten_nil, List.append_nil]
    congr 1
    apply List.ext_getElem
    · simp
    · intro i h1 h2
      have hi : i < z.size := by simpa using h1
      simp [Nat.mod_eq_of_lt hi, hi]
section
variable {C : Ctx} {Θ : Anc} {n : Nat} {σ : St} {a : Act} {w : World} {Z : Nat → Prop} {G : Nat → Value} {o : Oper} {K : Act → World → Prop} {Q : Exit → Act → World → Prop} {k : St → Prop}
theorem new_put {d : Nat} {id : Nat} {ob : Obj} {v : Value} {s : SV} {w' : World} {row : Option Nat} (S : Sim C.P Θ n σ a w Z G) (hdst : o.dst = some d) (hd : ∀ t, o.dst = some t → t < n)
    (hk : ∀ σ' a' w' Z' G', k σ' → Sim C.P Θ n σ' a' w' Z' G' → K a' w') (hev : id % 2 = 0) (hg : w.grownBy w' row)
    (hrow : ∀ b, row = some b → blk (G id) = some b ∧ ∃ p, getO σ.objs id = some p ∧ Θ.keeps p = false) (hv : ∀ b, blk v = some b → row = some b ∨ w.heap.size ≤ b)
    (ho : RepO w' Z (fun i => if i = id then v else G i) C.P id ob) (hs : RepSV w' Z (fun i => if i = id then v else G i) s v) (h : k ((σ.new id ob).set d s)) : K (a.put o.dst v) w' := by
  have S' := S.newO hev hg hrow hv ho
  have := S'.put (d := o.dst) hs hd
  rw [hdst] at this ⊢
  exact hk _ _ _ _ _ h this
theorem newBox_sound {d : Nat} {t : TypeId} {cells : List SV} {cur : Array Value} (S : Sim C.P Θ n σ a w Z G) (hdst : o.dst = some d) (hd : ∀ t, o.dst = some t → t < n)
    (hk : ∀ σ' a' w' Z' G', k σ' → Sim C.P Θ n σ' a' w' Z' G' → K a' w') (hc : RepSVs w Z G cells cur.toList) (h : newBox C d t cells σ k) :
    K (a.put o.dst (.pointer (some ⟨w.heap.size, 0, none⟩))) (w.alloc (.cells cur t)) := by
  unfold newBox at h
  split at h
  · rename_i cs σ' hown
    obtain ⟨G', S', hr⟩ := owned_sim S hown (vs := []) rfl hc
    simp only [List.nil_append] at hr
    have hg : w.grownBy (w.alloc (.cells cur t)) none := World.grownBy_alloc w _ none
    have T : Turns w (w.alloc (.cells cur t)) Z Z G' (fun i => if i = 2 * (d * 64) then (Value.pointer (some ⟨w.heap.size, 0, none⟩)) else G' i) (2 * (d * 64)) .unk :=
      { sub := fun _ h => h, same := fun b hb => hg.block b (S'.lt b hb) (by simp), other := fun i hi => if_neg hi, its := trivial }
    refine new_put (s := .ptr (2 * (d * 64)) 0) (v := .pointer (some ⟨w.heap.size, 0, none⟩)) (id := 2 * (d * 64)) (row := none) S' hdst hd hk (by omega) hg (fun b hb => by cases hb) (fun b hb => .inr (by simp [blk] at hb; omega)) ?_ ⟨w.heap.size, by simp, rfl⟩ h
    exact ⟨w.heap.size, t, cur, by simp, heap_alloc_new w _, RepSVs.sub T _ _ hr⟩
  · cases h
theorem append_sound {d : Nat} {e t tx : TypeId} {str : Bool} {p q : Operand} {args : Array Operand} {ts : Array TypeId} (S : Sim C.P Θ n σ a w Z G) (hdst : o.dst = some d) (hd : ∀ t, o.dst = some t → t < n)
    (hk : ∀ σ' a' w' Z' G', k σ' → Sim C.P Θ n σ' a' w' Z' G' → K a' w') (ho : o.op = .call { callee := .builtin .append, args := args, argTypes := ts }) (ha : args.toList = [p, q]) (ht : ts.toList = [t, tx])
    (hka : Θ.ka = false) (hu : C.P.underlying t = some (.slice e)) (hx : if str = true then C.P.underlying tx = some .string else ∃ e, C.P.underlying tx = some (.slice e)) (h : opAppend C d e str (σ.ev p) (σ.ev q) σ k) : o.wp C.P a w K Q := by
  have ha' : args = #[p, q] := by cases args; simp_all
  have ht' : ts = #[t, tx] := by cases ts; simp_all
  subst ha' ht'
  unfold opAppend at h
  split at h
  · cases h
  rename_i m cs hcs
  split at h
  · rename_i ys hsrc hsm
    obtain ⟨i, m', cs', z, h1, h2, h3, h4, h5, h6, h7⟩ := smallType_some hsm
    rw [hcs] at h2
    cases h2
    obtain ⟨news, hnews, hS⟩ := source_rep S (S.ev q) hx hsrc
    have run_op : ∀ v v' w', a.eval p = v → (Builtin.append_ #[t, tx] o.type #[v, a.eval q]).run C.P w = .ok v' w' → K (a.put o.dst v') w' → o.wp C.P a w K Q := by
      intro v v' w' hv hr hkk
      refine wp_value (v := v') (w' := w') ?_ hkk
      simp [execOp, ho, resolve, invoke, builtin, hv, hr]
    split at h
    · rename_i hp
      obtain ⟨hroom, h⟩ := cond_only h
      have hroom : ys.length ≤ room := of_decide_eq_true hroom
      have hv : a.eval p = .slice none 0 0 := by have := S.ev p; rw [hp] at this; exact this
      obtain ⟨v', w', hr, hown, hg, hbl⟩ := run_append_src t tx o.type e i z cs.length hu h1 h3 h5 h6 h7 h4 _ 0 [] (World.ownsRow_nil w 0 e cs.length) (a.eval q) ys.length news hS (by omega)
      refine run_op _ v' w' hv hr (new_put (id := 2 * (d * 64 + 63)) (row := none) (v := v') S hdst hd hk (by omega) hg (fun b hb => by cases hb) (fun b hb => .inr ?_) ?_ (by show _ = _; simp) h)
      · have hb' : v'.ownBlock = some b := by
          rcases hown.2 with ⟨h8, _⟩ | ⟨g, cap, cur, h8, _⟩
          · rw [h8] at hb; cases hb
          · rw [h8] at hb ⊢; exact hb
        rcases hbl with h9 | h9
        · rw [h9] at hb'; cases hb'
        · rw [h9] at hb'; cases hb'; exact Nat.le_refl _
      · have hK : Stays w w' Z Z := ⟨fun _ h => h, fun b hb => hg.block b (S.lt b hb) (by simp [Value.ownBlock])⟩
        refine ⟨m, cs, news, hcs, ?_, RepElems.mono hK hnews⟩
        simp only [if_true]
        simpa using hown
    · rename_i id hp
      have key : opAppend.opAppendOwn d e σ k id ys → o.wp C.P a w K Q := by
        intro h
        unfold opAppend.opAppendOwn at h
        split at h
        · rename_i e' xs hob
          obtain ⟨hb, h⟩ := cond_only h
          have hee := Nat.eq_of_beq_eq_true hb
          subst hee
          obtain ⟨hroom, h⟩ := cond_only h
          simp only [Bool.and_eq_true] at hroom
          obtain ⟨hroom, heven⟩ := hroom
          have heven : id % 2 = 0 := by
            have h1 : oddB id = false := by simpa using heven
            have h2 := Nat.ne_of_beq_eq_false h1
            omega
          have hroom : xs.length + ys.length ≤ room := of_decide_eq_true hroom
          obtain ⟨m2, cs2, vs, g1, g2, g3⟩ := S.obj id _ hob
          rw [hcs] at g1
          cases g1
          have hv : a.eval p = G id := by have := S.ev p; rw [hp] at this; exact this
          obtain ⟨v', w', hr, hown, hg, hbl⟩ := run_append_src t tx o.type e' i z cs.length hu h1 h3 h5 h6 h7 h4 _ xs.length vs g2 (a.eval q) ys.length news hS hroom
          have hblk : ∀ b, (G id).ownBlock = some b → blk (G id) = some b := fun b hb => blk_ownBlock _ _ hb
          refine run_op _ v' w' hv hr (new_put (id := id) (row := (G id).ownBlock) (v := v') S hdst hd hk heven hg (fun b hb => ⟨hblk b hb, _, hob, hka⟩) (fun b hb => ?_) ?_ (by show _ = _; simp) h)
          · have hb' : v'.ownBlock = some b := by
              rcases hown.2 with ⟨h8, _⟩ | ⟨g, cap, cur, h8, _⟩
              · rw [h8] at hb; cases hb
              · rw [h8] at hb ⊢; exact hb
            rcases hbl with h9 | h9
            · exact .inl (h9.symm.trans hb')
            · rw [h9] at hb'; cases hb'; exact .inr (Nat.le_refl _)
          · have hK : Stays w w' Z Z := ⟨fun _ h => h, fun b hb => hg.block b (S.lt b hb) (fun he => (S.free id _ b hob (hblk b he.symm)).1 hb)⟩
            refine ⟨m, cs, vs ++ news, hcs, ?_, RepElems.mono hK (g3.app hnews)⟩
            simp only [if_true, List.length_append]
            exact hown
        · cases h
      split at h
      · obtain ⟨_, h⟩ : (false = true → False) ∧ opAppend.opAppendOwn d e σ k id ys := by
          refine ⟨by simp, ?_⟩
          rcases cond_some h with ⟨_, h⟩ | ⟨_, h⟩
          · cases h
          · exact h
        exact key h
      · exact key h
    · cases h
  · cases h
end
end Go.Den

namespace Go.Den
open Go Go.RowKit
section
variable {C : Ctx} {Θ : Anc} {n : Nat} {σ : St} {a : Act} {w : World} {Z : Nat → Prop} {G : Nat → Value} {o : Oper} {K : Act → World → Prop} {Q : Exit → Act → World → Prop} {k : St → Prop}
theorem build_sound {t : TypeId} {ps : Array (Nat × Operand)} {fs : Array Field} {z cs : List SV} (S : Sim C.P Θ n σ a w Z G) (hd : ∀ t, o.dst = some t → t < n)
    (hk : ∀ σ' a' w' Z' G', k σ' → Sim C.P Θ n σ' a' w' Z' G' → K a' w') (ho : o.op = .build t ps) (hu : C.P.underlying t = some (.struct fs)) (hz : zeroCells C.P t = some z)
    (hs : sizesOk C.P fs.toList = true) (hf : fillParts C.P fs.toList (evps σ ps.toList) z = some cs) (h : k (setD σ o.dst (.agg cs))) : o.wp C.P a w K Q := by
  obtain ⟨out, hr, hrep⟩ := run_build_rep (w := w) (Z := Z) (G := G) S.flat (vs := ps.map fun x => (x.1, a.eval x.2)) hu hz hs hf (by simpa using evps_parts S ps.toList)
  refine wp_value (v := .agg out) (w' := w) ?_ (hk _ _ _ _ _ h (S.put ⟨out, rfl, hrep⟩ hd))
  have heq : (ps.map fun (i, x) => (i, a.eval x)) = ps.map fun x => (x.1, a.eval x.2) := rfl
  simp only [execOp, ho, Sem.run_bind]
  rw [heq, hr w]
  rfl
theorem lit_sound {t e : TypeId} {m : Bool} {cs : List Ct} {ne : Nat} {ps : Array (Nat × Operand)} {d : Nat} {xs : List U} {z : U} (S : Sim C.P Θ n σ a w Z G) (hdst : o.dst = some d) (hd : ∀ t, o.dst = some t → t < n)
    (hk : ∀ σ' a' w' Z' G', k σ' → Sim C.P Θ n σ' a' w' Z' G' → K a' w') (ho : o.op = .buildSlice t ne ps) (hu : C.P.underlying t = some (.slice e)) (hcs : Cs C.P e = some (m, cs)) (hsm : smallType C.P e = true)
    (hz : zeroElem C.P e = some z) (hl : litElems m cs (evps σ ps.toList) (List.replicate ne z) = some xs) (hroom : ne * cs.length ≤ 2 ^ 24) (hne : 0 < ne) (h : k ((σ.new (2 * (d * 64 + 63)) (.arr e xs)).set d (.own (2 * (d * 64 + 63))))) : o.wp C.P a w K Q := by
  obtain ⟨i, m', cs', zv, h1, h2, h3, h4, h5, h6, h7⟩ := smallType_some hsm
  rw [hcs] at h2
  cases h2
  obtain ⟨i', m', cs', zv', g1, g2, g3, g4⟩ := zeroElem_rep (w := w) (Z := Z) hz
  rw [h1] at g1
  cases g1
  rw [h3] at g2
  cases g2
  rw [hcs] at g3
  cases g3
  have hmade : (madeCells zv.cells (ne * i.size)).toList = (List.replicate ne zv.cells.toList).flatten := by
    rw [h5, ← h6]; exact madeCells_flat _ (by omega) ne
  have hz0 : RepElems w Z m cs (List.replicate ne z) (madeCells zv.cells (ne * i.size)).toList := by
    rw [hmade]; exact RepElems.replicate g4 ne
  obtain ⟨out, hf, hrep, hlen, hsz⟩ := litElems_rep S.flat (fun hm => by subst hm; exact Cs_false hcs) hl (by simpa using evps_parts S ps.toList) hz0 (litElems_cells hl) (vs := (ps.map fun x => (x.1, a.eval x.2)).toList)
  have hrun := run_buildSlice w t e ne (ps.map fun x => (x.1, a.eval x.2)) out i zv hu h1 h3 (by rw [h5]; omega) (by rw [h5]; have := Nat.mul_pos hne h7; omega) (by rw [h5] at hf ⊢; exact hf)
  have hg : w.grownBy (w.alloc (.cells out e)) none := World.grownBy_alloc w _ none
  have hlx : xs.length = ne := by rw [hlen]; simp
  refine wp_value (v := .slice (some ⟨w.heap.size, 0, none⟩) ne ne) (w' := w.alloc (.cells out e)) ?_
    (new_put (id := 2 * (d * 64 + 63)) (row := none) S hdst hd hk (by omega) hg (fun b hb => by cases hb) (fun b hb => .inr (by simp [blk] at hb; omega)) ?_ (by show _ = _; simp) h)
  · have heq : (ps.map fun (i, x) => (i, a.eval x)) = ps.map fun x => (x.1, a.eval x.2) := rfl
    simp only [execOp, ho, Sem.run_bind]
    rw [heq, hrun]
    rfl
  · have hK : Stays w (w.alloc (.cells out e)) Z Z := ⟨fun _ h => h, fun b hb => hg.block b (S.lt b hb) (by simp)⟩
    have hos : out.size = ne * cs.length := by rw [hsz, size_madeCells, h5]
    refine ⟨m, cs, out.toList, hcs, ?_, RepElems.mono hK hrep⟩
    simp only [if_true, hlx]
    refine ⟨by simp [hos], .inr ⟨w.heap.size, ne, out, rfl, Nat.zero_le _, heap_alloc_new w _, Nat.le_refl _, ?_, hos, ?_⟩⟩
    · have : ne ≤ ne * cs.length := Nat.le_mul_of_pos_right _ h7
      unfold maxLen; omega
    · rw [← hos, List.take_of_length_le (by simp)]
theorem lit0_sound {t e : TypeId} {ps : Array (Nat × Operand)} {d : Nat} (S : Sim C.P Θ n σ a w Z G) (hdst : o.dst = some d) (hd : ∀ t, o.dst = some t → t < n)
    (hk : ∀ σ' a' w' Z' G', k σ' → Sim C.P Θ n σ' a' w' Z' G' → K a' w') (ho : o.op = .buildSlice t 0 ps) (hu : C.P.underlying t = some (.slice e)) (hsm : smallType C.P e = true) (hps : ps.toList = [])
    (h : k ((σ.new (2 * (d * 64 + 63)) (.arr e [])).set d (.own (2 * (d * 64 + 63))))) : o.wp C.P a w K Q := by
  obtain ⟨i, m, cs, zv, h1, h2, h3, h4, h5, h6, h7⟩ := smallType_some hsm
  have hg : w.grownBy (w.alloc (.cells #[] e)) none := World.grownBy_alloc w _ none
  have hps' : ps = #[] := by apply Array.ext'; simpa using hps
  have hrun : (Instr.buildSlice t 0 #[]).run C.P w = .ok (.slice (some ⟨w.heap.size, 0, none⟩) 0 0) (w.alloc (.cells #[] e)) := by
    have h0 : Array.range 0 = #[] := rfl
    simp [Instr.buildSlice, run_underlying hu, sizeOf, typeInfo, h1, Instr.fill, newRow, h0]
  refine wp_value (v := .slice (some ⟨w.heap.size, 0, none⟩) 0 0) (w' := w.alloc (.cells #[] e)) ?_
    (new_put (id := 2 * (d * 64 + 63)) (row := none) S hdst hd hk (by omega) hg (fun b hb => by cases hb) (fun b hb => .inr (by simp [blk] at hb; omega)) ?_ (by show _ = _; simp) h)
  · subst hps'
    simp only [execOp, ho, Sem.run_bind]
    simp only [Array.map_empty, hrun]
    rfl
  · refine ⟨m, cs, [], h2, ?_, rfl⟩
    simp only [if_true, List.length_nil]
    exact ⟨by simp, .inr ⟨w.heap.size, 0, #[], rfl, Nat.zero_le _, heap_alloc_new w _, Nat.le_refl _, Nat.zero_le _, by simp, by simp⟩⟩
theorem make_sound {t e : TypeId} {x y : Operand} {d : Nat} {kl kc : IntKind} {l c : U} {z : U} (S : Sim C.P Θ n σ a w Z G) (hdst : o.dst = some d) (hd : ∀ t, o.dst = some t → t < n)
    (hk : ∀ σ' a' w' Z' G', k σ' → Sim C.P Θ n σ' a' w' Z' G' → K a' w') (ho : o.op = .makeSlice t x y) (hu : C.P.underlying t = some (.slice e)) (hx : σ.ev x = .val (.int kl) l) (hy : σ.ev y = .val (.int kc) c)
    (hsm : smallType C.P e = true) (hz : zeroElem C.P e = some z) (hb : 0 ≤ l.int ∧ l.int ≤ c.int ∧ c.int ≤ (room : Int)) (h : k ((σ.new (2 * (d * 64 + 63)) (.arr e (List.replicate l.int.toNat z))).set d (.own (2 * (d * 64 + 63))))) : o.wp C.P a w K Q := by
  obtain ⟨i, m, cs, zv, h1, h2, h3, h4, h5, h6, h7⟩ := smallType_some hsm
  obtain ⟨i', m', cs', zv', g1, g2, g3, g4⟩ := zeroElem_rep (w := w) (Z := Z) hz
  rw [h1] at g1
  cases g1
  rw [h3] at g2
  cases g2
  rw [h2] at g3
  cases g3
  have ex : a.eval x = .int kl l.int := by have := S.ev x; rw [hx] at this; exact this.1
  have ey : a.eval y = .int kc c.int := by have := S.ev y; rw [hy] at this; exact this.1
  have hroom : c.int ≤ 1073741824 := hb.2.2
  have hrun := run_make (P := C.P) w t e i zv hu h1 h3 kl kc l.int c.int hb.1 hb.2.1 (by
    have hi : (i.bytes : Int) ≤ 128 := by omega
    have h1' : (i.bytes : Int) * c.int ≤ 128 * c.int := Int.mul_le_mul_of_nonneg_right hi (by omega)
    omega) (by omega)
  have hg : w.grownBy (w.alloc (.cells (madeCells zv.cells (c.int.toNat * i.size)) e)) none := World.grownBy_alloc w _ none
  refine wp_value (v := .slice (some ⟨w.heap.size, 0, none⟩) l.int.toNat c.int.toNat) (w' := w.alloc (.cells (madeCells zv.cells (c.int.toNat * i.size)) e)) ?_
    (new_put (id := 2 * (d * 64 + 63)) (row := none) S hdst hd hk (by omega) hg (fun b hb => by cases hb) (fun b hb => .inr (by simp [blk] at hb; omega)) ?_ (by show _ = _; simp) h)
  · simp [execOp, ho, ex, ey, hrun]
  · have hK : Stays w (w.alloc (.cells (madeCells zv.cells (c.int.toNat * i.size)) e)) Z Z := ⟨fun _ h => h, fun b hb => hg.block b (S.lt b hb) (by simp)⟩
    have hmade : ∀ q : Nat, (madeCells zv.cells (q * i.size)).toList = (List.replicate q zv.cells.toList).flatten := fun q => by
      rw [h5, ← h6]; exact madeCells_flat _ (by omega) q
    have hrep : RepElems w Z m cs (List.replicate l.int.toNat z) (List.replicate l.int.toNat zv.cells.toList).flatten := RepElems.replicate g4 _
    refine ⟨m, cs, _, h2, ?_, RepElems.mono hK hrep⟩
    simp only [if_true, List.length_replicate]
    have hlen := hrep.length
    simp only [List.length_replicate] at hlen
    refine ⟨hlen, .inr ⟨w.heap.size, c.int.toNat, _, rfl, Nat.zero_le _, heap_alloc_new w _, by omega, by unfold maxLen; omega, by rw [size_madeCells, h5], ?_⟩⟩
    rw [hmade, show c.int.toNat = l.int.toNat + (c.int.toNat - l.int.toNat) by omega, ← List.replicate_append_replicate, List.flatten_append, List.take_append_of_le_length (by rw [hlen]; exact Nat.le_refl _), List.take_of_length_le (by rw [hlen]; exact Nat.le_refl _)]
theorem load_sound {t : TypeId} {x : Operand} (S : Sim C.P Θ n σ a w Z G) (hd : ∀ t, o.dst = some t → t < n)
    (hk : ∀ σ' a' w' Z' G', k σ' → Sim C.P Θ n σ' a' w' Z' G' → K a' w') (ho : o.op = .load t x) (h : op1 C o σ k) : o.wp C.P a w K Q := by
  have hx := S.ev x
  simp only [op1, ho] at h
  split at h
  · rename_i id off hp
    rw [hp] at hx
    obtain ⟨b, hG, hv⟩ := hx
    split at h
    · rename_i cells hob
      split at h
      · rename_i s hs
        obtain ⟨b', ty, c, h1, h2, h3⟩ := S.obj id _ hob
        rw [hG] at h1
        cases h1
        obtain ⟨v, hl, hrep⟩ := run_load_part (P := C.P) (o := 0) (b := b) h3 (fun j v hj => by rw [Nat.zero_add, cell_of_row w b j c ty (0, 0) h2]; simpa using hj) hs
        rw [Nat.zero_add] at hl
        exact op_load (P := C.P) ho hv hl (hk _ _ _ _ _ h (S.put hrep hd))
      · cases h
    · cases h
  · rename_i id sz j off hp
    rw [hp] at hx
    obtain ⟨b, n', c, hG, hv⟩ := hx
    split at h
    · rename_i e xs hob
      split at h
      · rename_i m cs hcs
        obtain ⟨hb, h'⟩ := cond_only h
        clear h
        simp only [Bool.and_eq_true] at hb
        have hsz := Nat.eq_of_beq_eq_true hb.1
        have hj : j < xs.length := by simpa [Nat.blt_eq] using hb.2
        subst hsz
        split at h'
        · rename_i s hs
          obtain ⟨m2, cs2, vs, h1, h2, h3⟩ := S.obj id _ hob
          rw [hcs] at h1
          cases h1
          obtain ⟨p, q, r', hvs, hpl, hq⟩ := h3.at_ j hj
          have hcell := World.ownsRow.cells h2 (g := b) (by rw [hG]; rfl)
          obtain ⟨v, hl, hrep⟩ := run_load_part (P := C.P) (o := j * cs.length) (b := b) (G := G) (RepL.vals hq) (fun i v hi => by
            have := hcell (p.length + i) v (by rw [hvs, List.append_assoc, List.getElem?_append_right (by omega), Nat.add_sub_cancel_left, List.getElem?_append_left (by
              have := (List.getElem?_eq_some_iff.1 hi).1; omega)]; exact hi)
            rw [addr_add, hpl] at this
            simpa using this) hs
          exact op_load (P := C.P) ho hv hl (hk _ _ _ _ _ h' (S.put hrep hd))
        · cases h'
      · cases h
    · cases h
  · rename_i cs us hp
    rw [hp] at hx
    obtain ⟨b, off, hv, hb, hr⟩ := hx
    split at h
    · rename_i s hs
      obtain ⟨vs, hl, hvs, hcell⟩ := RepCs.vals (G := G) hr
      obtain ⟨v, hl', hrep⟩ := run_load_part (P := C.P) (o := off) (b := b) hvs hcell hs
      exact op_load (P := C.P) ho hv hl' (hk _ _ _ _ _ h (S.put hrep hd))
    · cases h
  · cases h
theorem cellsV_ok (S : Sim C.P Θ n σ a w Z G) {x : Operand} (h : areCells (cellsV (σ.ev x)) = true) : RepSVs w Z G (cellsV (σ.ev x)) (a.eval x).cells.toList ∧ ∀ u ∈ (a.eval x).cells.toList, u.oneCell' = true :=
  cellsV_rep S.flat h (S.ev x)
theorem op_store {t : TypeId} {x y : Operand} {p : Addr} {w' : World} (ho : o.op = .store t x y) (hx : a.eval x = .pointer (some p)) (hs : (storeVar t p (a.eval y)).run C.P w = .ok () w') (hk : K (a.put o.dst undef) w') : o.wp C.P a w K Q :=
  wp_skip_ (by simp [execOp, ho, hx, Instr.storeAt, Instr.sureAddr, hs]) hk
theorem RepL.front : ∀ {ds cs : List Ct} {q v : List Value} {us xs : List U}, RepL w Z ds v xs → cs.take ds.length = ds → xs.length = ds.length → RepL w Z cs q us → RepL w Z cs (v ++ q.drop v.length) (xs ++ us.drop xs.length)
  | [], cs, q, v, us, xs, hv, _, hx, hq => by
    have hv : v = [] := hv
    have hx : xs = [] := List.eq_nil_of_length_eq_zero hx
    subst hv hx
    simpa using hq
  | d :: ds, [], q, v, us, xs, _, ht, _, _ => by simp at ht
  | d :: ds, c :: cs, q, v, us, [], _, _, hx, _ => by simp at hx
  | d :: ds, c :: cs, q, v, us, x :: xs, hv, ht, hx, hq => by
    obtain ⟨v0, v', rfl, hr, hv'⟩ := hv
    obtain ⟨q0, q', rfl, _, hq'⟩ := hq
    simp only [List.length_cons, List.take_succ_cons, List.cons.injEq] at ht
    obtain ⟨rfl, ht⟩ := ht
    refine ⟨v0, _, rfl, hr, ?_⟩
    have := RepL.front hv' ht (by simpa using hx) hq'
    simpa using this
theorem patchU_rep : ∀ {off : Nat} {cs ds : List Ct} {q v : List Value} {us xs : List U}, RepL w Z cs q us → RepL w Z ds v xs → (cs.drop off).take ds.length = ds → off + ds.length ≤ cs.length → xs.length = ds.length →
    RepL w Z cs (q.take off ++ v ++ q.drop (off + v.length)) (patchU us off xs)
  | 0, cs, ds, q, v, us, xs, hq, hv, hd, _, hx => by
    have := RepL.front hv (by simpa using hd) hx hq
    simpa [patchU, firsts] using this
  | off + 1, [], ds, q, v, us, xs, _, _, _, hle, _ => by simp at hle
  | off + 1, c :: cs, ds, q, v, us, xs, hq, hv, hd, hle, hx => by
    obtain ⟨q0, q', rfl, hr, hq'⟩ := hq
    have := patchU_rep (off := off) hq' hv (by simpa using hd) (by simp at hle; omega) hx
    refine ⟨q0, _, rfl, hr, ?_⟩
    have e1 : (q0 :: q').drop (off + 1 + v.length) = q'.drop (off + v.length) := by rw [show off + 1 + v.length = (off + v.length) + 1 by omega]; rfl
    have e2 : us.drop (off + 1 + xs.length) = us.tail.drop (off + xs.length) := by
      rw [show off + 1 + xs.length = (off + xs.length) + 1 by omega]
      cases us <;> simp
    simp only [patchU, firsts, List.cons_append, e1, e2] at this ⊢
    exact this
theorem store_sound {t : TypeId} {x y : Operand} (hkb : Θ.kb = false) (hka : Θ.ka = false) (S : Sim C.P Θ n σ a w Z G) (hd : o.dst = none)
    (hk : ∀ σ' a' w' Z' G', k σ' → Sim C.P Θ n σ' a' w' Z' G' → K a' w') (ho : o.op = .store t x y) (h : op1 C o σ k) : o.wp C.P a w K Q := by
  simp only [op1, ho] at h
  split at h
  · rename_i id off ne hp hsz
    obtain ⟨hb, h'⟩ := cond_only h
    clear h
    simp only [Bool.and_eq_true] at hb
    have hlen := Nat.eq_of_beq_eq_true hb.1
    obtain ⟨hcv, hone⟩ := cellsV_ok S hb.2
    split at h'
    · rename_i cs σ' hown
      obtain ⟨G', S', hr⟩ := owned_sim S hown (vs := []) rfl hcv
      simp only [List.nil_append] at hr
      have hx := S'.ev x
      split at h'
      · rename_i id' off' hp'
        rw [hp'] at hx
        obtain ⟨b, hG, hv⟩ := hx
        split at h'
        · rename_i cells hob
          obtain ⟨hb2, h''⟩ := cond_only h'
          clear h'
          have hle := Nat.le_of_ble_eq_true hb2
          obtain ⟨b', ty, cur, h1, h2, h3⟩ := S'.obj id' _ hob
          rw [hG] at h1
          cases h1
          have hvl : (a.eval y).cells.size = ne := by have := hcv.length; rw [hlen] at this; simpa using this.symm
          have hcl : cells.length = cur.size := by have := h3.length; simpa using this
          have hst := run_storeVar_block (P := C.P) (w := w) (o := off') hsz hvl hone h2 (by omega)
          obtain ⟨cur', g1, g2, g3⟩ := setCells_block b ty (a.eval y).cells.toList off' w cur h2 (by simp; omega)
          have hg := setCells_grown b (a.eval y).cells.toList off' w
          have hK : Stays w (w.setCells b off' (a.eval y).cells.toList) Z Z := ⟨fun _ h => h, fun c hc => hg.block c (S'.lt c hc) (fun e => by
            cases e; exact (S'.free id' _ b hob (by rw [hG]; rfl)).1 hc)⟩
          have hcl2 : cs.length = (a.eval y).cells.toList.length := hr.length
          have Snew := S'.stored (o' := .box (patch cells off' cs)) hob (by rw [hG]; rfl) hg (setCells_plain b _ _ w).2.2.2 hkb ⟨b, ty, cur', hG, g1, by
            rw [g2]
            exact RepSVs.mono hK _ _ (h3.patch hr off')⟩
          have hput : a.put o.dst undef = a := by rw [hd]; rfl
          exact op_store (C := C) ho hv hst (by rw [hput]; exact hk _ _ _ _ _ h'' Snew)
        · cases h'
      · cases h'
    · cases h'
  · rename_i ne hp hsz
    split at h
    · rename_i σ' hfr
      obtain ⟨Z', S'⟩ := freezes_sim S hfr
      have hx := S'.ev x
      split at h
      · rename_i id sz j off hp'
        rw [hp'] at hx
        obtain ⟨b, n', c, hG, hv⟩ := hx
        split at h
        · rename_i e xs hob
          split at h
          · rename_i m cs mt ds hcs hct
            split at h
            · rename_i us hus hbq
              obtain ⟨hb, h'⟩ := cond_only h
              clear h
              simp only [Bool.and_eq_true] at hb
              obtain ⟨⟨⟨⟨hb1, hb5⟩, hb2⟩, hb3⟩, hb4⟩ := hb
              have hul := Nat.eq_of_beq_eq_true hb1
              have hdl := Nat.eq_of_beq_eq_true hb5
              have hle := Nat.le_of_ble_eq_true hb2
              have hszz := Nat.eq_of_beq_eq_true hb3
              have hj : j < xs.length := by simpa [Nat.blt_eq] using hb4
              have hds := beqs_eq hbq
              obtain ⟨m2, cs2, vs, h1, h2, h3⟩ := S'.obj id _ hob
              rw [hcs] at h1
              cases h1
              obtain ⟨hcv, hone⟩ := cellsV_ok S' (plainUs_cells hus)
              have hrv : RepL w Z' ds (a.eval y).cells.toList us := plainUs_rep hus hcv
              have hvl : (a.eval y).cells.size = ne := by have := hrv.length; simp at this; omega
              rcases h2.2 with ⟨h4, _⟩ | ⟨g, cap, cur, h4, _, h5, h6, h7, h8, h9⟩
              · rw [hG] at h4; cases h4
              rw [hG] at h4
              cases h4
              obtain ⟨p, q, r', hvs, hpl, hq⟩ := h3.at_ j hj
              have hql := hq.length
              have hvsl := h3.length
              have hfit : j * cs.length + cs.length ≤ xs.length * cs.length := by rw [← Nat.succ_mul]; exact Nat.mul_le_mul_right _ hj
              have hcapl : xs.length * cs.length ≤ c * cs.length := Nat.mul_le_mul_right _ h6
              have hst := run_storeVar_block (P := C.P) (w := w) (o := j * sz + off) hsz hvl hone h5 (by rw [← hszz]; omega)
              obtain ⟨cur', g1, g2, g3⟩ := setCells_block b e (a.eval y).cells.toList (j * sz + off) w cur h5 (by rw [← hszz]; simp; omega)
              have hg := setCells_grown b (a.eval y).cells.toList (j * sz + off) w
              have hK : Stays w (w.setCells b (j * sz + off) (a.eval y).cells.toList) Z' Z' := ⟨fun _ h => h, fun c hc => hg.block c (S'.lt c hc) (fun e => by
                cases e; exact (S'.free id _ b hob (by rw [hG]; rfl)).1 hc)⟩
              have hrep := patchU_rep (off := off) hq hrv (by rw [hdl]; exact hds) (by omega) (by omega)
              have hset := h3
              rw [hvs] at hset
              have hset := RepElems.set_ (x := ofElem m (patchU (elemU m (U.at xs j)) off us)) hset hj hpl hql (RepL.elem (fun hm => by subst hm; exact Cs_false hcs) hrep)
              have Snew := S'.stored (o' := .arr e (xs.set j (ofElem m (patchU (elemU m (U.at xs j)) off us)))) hob (by rw [hG]; rfl) hg (setCells_plain b _ _ w).2.2.2 hka ⟨m, cs, _, hcs, ?_, RepElems.mono hK hset⟩
              · have hput : a.put o.dst undef = a := by rw [hd]; rfl
                exact op_store (C := C) ho hv hst (by rw [hput]; exact hk _ _ _ _ _ h' Snew)
              · rw [hG, List.length_set]
                refine ⟨?_, .inr ⟨b, c, cur', rfl, Nat.zero_le _, g1, h6, h7, by rw [g3, h8], ?_⟩⟩
                · have := (RepElems.set_ (x := ofElem m (patchU (elemU m (U.at xs j)) off us)) (by rw [← hvs]; exact h3) hj hpl hql (RepL.elem (fun hm => by subst hm; exact Cs_false hcs) hrep)).length
                  simpa using this
                · rw [g2]
                  have hcurl : cur.toList.length = c * cs.length := by simp [h8]
                  have hvq : (a.eval y).cells.toList.length = ne := by simpa using hvl
                  have hcur : cur.toList = (p ++ q ++ r') ++ cur.toList.drop (xs.length * cs.length) := by
                    rw [← hvs, ← h9, List.take_append_drop]
                  have hpq : p.length + q.length ≤ xs.length * cs.length := by omega
                  have hplen : j * sz + off = p.length + off := by rw [hpl, hszz]
                  rw [hplen]
                  generalize cur.toList.drop (xs.length * cs.length) = tl at hcur
                  rw [hcur]
                  have e1 : (p ++ q ++ r' ++ tl).take (p.length + off) = p ++ q.take off := by
                    rw [List.append_assoc, List.append_assoc, List.take_append, List.take_append]
                    simp [List.take_of_length_le, show off - q.length = 0 by omega]
                  have e2 : (p ++ q ++ r' ++ tl).drop (p.length + off + (a.eval y).cells.toList.length) = q.drop (off + (a.eval y).cells.toList.length) ++ r' ++ tl := by
                    rw [List.append_assoc, List.append_assoc, List.drop_append, List.drop_append]
                    have z1 : p.drop (p.length + off + (a.eval y).cells.toList.length) = [] := List.drop_of_length_le (by omega)
                    have z2 : p.length + off + (a.eval y).cells.toList.length - p.length = off + (a.eval y).cells.toList.length := by omega
                    have z3 : off + (a.eval y).cells.toList.length - q.length = 0 := by omega
                    rw [z1, z2, z3]
                    simp
                  rw [e1, e2]
                  have htot : (p ++ (q.take off ++ (a.eval y).cells.toList ++ q.drop (off + (a.eval y).cells.toList.length)) ++ r').length = xs.length * cs.length := by
                    have hl1 : (p ++ q ++ r').length = xs.length * cs.length := by rw [← hvs]; exact hvsl
                    simp only [List.length_append, List.length_take, List.length_drop] at hl1 ⊢
                    omega
                  have : p ++ q.take off ++ (a.eval y).cells.toList ++ (q.drop (off + (a.eval y).cells.toList.length) ++ r' ++ tl) = (p ++ (q.take off ++ (a.eval y).cells.toList ++ q.drop (off + (a.eval y).cells.toList.length)) ++ r') ++ tl := by simp [List.append_assoc]
                  rw [this, ← htot, List.take_left]
            · cases h
          · cases h
        · cases h
      · cases h
    · cases h
  · cases h
end
end Go.Den

namespace Go.Den
open Go Go.RowKit
theorem memB_iff {i : Nat} : ∀ {l : List Nat}, memB i l = true ↔ i ∈ l
  | [] => by simp [memB]
  | j :: r => by
    unfold memB
    by_cases h : i = j
    · subst h; simp
    · rw [nbeq_ne h, cond_false, memB_iff]; simp [h]
theorem nodupB_cons {i : Nat} {r : List Nat} (h : nodupB (i :: r) = true) : i ∉ r ∧ nodupB r = true := by
  unfold nodupB at h
  cases hm : memB i r with
  | true => rw [hm] at h; cases h
  | false => rw [hm] at h; exact ⟨(fun hi => by rw [memB_iff.2 hi] at hm; cases hm), h⟩
theorem lk_cons (a b i : Nat) (r : List (Nat × Nat)) : lk ((a, b) :: r) i = if a = i then some b else lk r i := by
  show (bif Nat.beq a i then some b else lk r i) = _
  by_cases h : a = i
  · subst h; simp
  · simp [h, nbeq_ne h]
theorem lk_mem : ∀ {m : List (Nat × Nat)} {i j : Nat}, lk m i = some j → (i, j) ∈ m
  | [], _, _, h => by cases h
  | (a, b) :: r, i, j, h => by
    rw [lk_cons] at h
    split at h
    · rename_i hai; injection h with h; subst hai h; exact List.mem_cons_self ..
    · exact List.mem_cons_of_mem _ (lk_mem h)
theorem mem_fsts : ∀ {m : List (Nat × Nat)} {i j : Nat}, (i, j) ∈ m → i ∈ fsts m
  | (a, b) :: r, i, j, h => by
    rcases List.mem_cons.1 h with h | h
    · cases h; exact List.mem_cons_self ..
    · exact List.mem_cons_of_mem _ (mem_fsts h)
theorem lk_of_mem : ∀ {m : List (Nat × Nat)} {i j : Nat}, nodupB (fsts m) = true → (i, j) ∈ m → lk m i = some j
  | (a, b) :: r, i, j, hn, h => by
    obtain ⟨h1, h2⟩ := nodupB_cons hn
    rw [lk_cons]
    rcases List.mem_cons.1 h with h | h
    · cases h; rw [if_pos rfl]
    · rw [if_neg (fun e => h1 (by rw [e]; exact mem_fsts h))]; exact lk_of_mem h2 h
theorem fsts_swaps : ∀ m : List (Nat × Nat), fsts (swaps m) = snds m
  | [] => rfl
  | (a, b) :: r => by show b :: fsts (swaps r) = b :: snds r; rw [fsts_swaps r]
theorem mem_swaps : ∀ {m : List (Nat × Nat)} {i j : Nat}, (i, j) ∈ swaps m ↔ (j, i) ∈ m
  | [], i, j => by simp [swaps]
  | (a, b) :: r, i, j => by
    show (i, j) ∈ (b, a) :: swaps r ↔ _
    simp only [List.mem_cons, Prod.mk.injEq, mem_swaps (m := r)]
    constructor <;> (rintro (⟨h1, h2⟩ | h) <;> first | exact .inl ⟨h2, h1⟩ | exact .inr h)
theorem lk_swaps {m : List (Nat × Nat)} (hs : nodupB (snds m) = true) {i j : Nat} (h : lk m i = some j) : lk (swaps m) j = some i :=
  lk_of_mem (by rw [fsts_swaps]; exact hs) (mem_swaps.2 (lk_mem h))
section
variable {w : World} {Z : Nat → Prop} {G G' : Nat → Value} {m : List (Nat × Nat)}
mutual
theorem RepSV.ren (H : ∀ i j, lk m i = some j → G' j = G i) : ∀ (s : SV) (v : Value), RepSV w Z G s v → RepSV w Z G' (SV.ren m s) v
  | .val _ _, _, h => h
  | .agg cs, v, h => by
    obtain ⟨vs, hv, hr⟩ := h
    exact ⟨vs, hv, RepSVs.ren H cs _ hr⟩
  | .nil, _, h => h
  | .own i, v, h => by
    unfold SV.ren
    have h : v = G i := h
    split
    · rename_i j hj; show v = G' j; rw [H i j hj]; exact h
    · trivial
  | .ptr i off, v, h => by
    unfold SV.ren
    obtain ⟨b, h1, h2⟩ := h
    split
    · rename_i j hj; exact ⟨b, (H i j hj).trans h1, h2⟩
    · trivial
  | .osl i k z, v, h => by
    unfold SV.ren
    have h : v = slFrom k z (G i) := h
    split
    · rename_i j hj; show v = slFrom k z (G' j); rw [H i j hj]; exact h
    · trivial
  | .aptr i sz k off, v, h => by
    unfold SV.ren
    obtain ⟨b, n, c, h1, h2⟩ := h
    split
    · rename_i j hj; exact ⟨b, n, c, (H i j hj).trans h1, h2⟩
    · trivial
  | .rptr _ _, _, h => h
  | .nilp, _, h => h
  | .tup l, v, h => by
    obtain ⟨vs, hv, hr⟩ := h
    exact ⟨vs, hv, RepSVs.ren H l _ hr⟩
  | .clo _ l, v, h => by
    obtain ⟨vs, hv, hr⟩ := h
    exact ⟨vs, hv, RepSVs.ren H l _ hr⟩
  | .mp i, v, h => by
    unfold SV.ren
    obtain ⟨b, h1, h2⟩ := h
    split
    · rename_i j hj; exact ⟨b, (H i j hj).trans h1, h2⟩
    · trivial
  | .ifc _ s, v, h => by
    obtain ⟨x, hv, hr⟩ := h
    exact ⟨x, hv, RepSV.ren H s x hr⟩
  | .nili, _, h => h
  | .und, _, h => h
  | .unk, _, _ => trivial
theorem RepSVs.ren (H : ∀ i j, lk m i = some j → G' j = G i) : ∀ (l : List SV) (vs : List Value), RepSVs w Z G l vs → RepSVs w Z G' (SV.ren.rens m l) vs
  | [], _, h => h
  | s :: r, vs, h => by
    obtain ⟨v, t, hv, hs, hr⟩ := h
    exact ⟨v, t, hv, RepSV.ren H s v hs, RepSVs.ren H r t hr⟩
end
theorem RepO.ren {P : Program} (H : ∀ i j, lk m i = some j → G' j = G i) {i j : Nat} {o : Obj} (hij : lk m i = some j) (h : RepO w Z G P i o) : RepO w Z G' P j (o.ren m) := by
  cases o with
  | box cells =>
    obtain ⟨b, ty, c, h1, h2, h3⟩ := h
    exact ⟨b, ty, c, (H i j hij).trans h1, h2, RepSVs.ren H _ _ h3⟩
  | arr e xs =>
    obtain ⟨mm, cs, vs, h1, h2, h3⟩ := h
    refine ⟨mm, cs, vs, h1, ?_, h3⟩
    rw [H i j hij]; exact h2
  | map t es =>
    obtain ⟨b, ents, kt, vt, km, kcs, vm, vcs, h1, h2⟩ := h
    exact ⟨b, ents, kt, vt, km, kcs, vm, vcs, (H i j hij).trans h1, h2⟩
end
theorem mem_pickR {objs : Objs} {m : List (Nat × Nat)} : ∀ {l : List (Nat × Nat)} {j : Nat} {o' : Obj}, (j, o') ∈ pickR objs m l → ∃ i o, (i, j) ∈ l ∧ getO objs i = some o ∧ o' = o.ren m
  | [], _, _, h => by cases h
  | (i, k) :: r, j, o', h => by
    unfold pickR at h
    split at h
    · rename_i o ho
      rcases List.mem_cons.1 h with h | h
      · cases h; exact ⟨i, o, List.mem_cons_self .., ho, rfl⟩
      · obtain ⟨i', o'', h1, h2⟩ := mem_pickR h
        exact ⟨i', o'', List.mem_cons_of_mem _ h1, h2⟩
    · obtain ⟨i', o'', h1, h2⟩ := mem_pickR h
      exact ⟨i', o'', List.mem_cons_of_mem _ h1, h2⟩
theorem getO_mem : ∀ {l : Objs} {j : Nat} {o : Obj}, getO l j = some o → (j, o) ∈ l
  | [], _, _, h => by cases h
  | (k, p) :: r, j, o, h => by
    rw [getO_cons] at h
    split at h
    · rename_i hk; injection h with h; subst hk h; exact List.mem_cons_self ..
    · exact List.mem_cons_of_mem _ (getO_mem h)
theorem getO_pickR {objs : Objs} {m l : List (Nat × Nat)} {j : Nat} {o' : Obj} (h : getO (pickR objs m l) j = some o') : ∃ i o, (i, j) ∈ l ∧ getO objs i = some o ∧ o' = o.ren m := mem_pickR (getO_mem h)
theorem getO_some_of_mem : ∀ {l : Objs} {j : Nat} {o : Obj}, (j, o) ∈ l → ∃ o', getO l j = some o'
  | (k, p) :: r, j, o, h => by
    rw [getO_cons]
    split
    · exact ⟨p, rfl⟩
    · rename_i hk
      rcases List.mem_cons.1 h with h | h
      · cases h; exact absurd rfl hk
      · exact getO_some_of_mem h
theorem pickR_mem {objs : Objs} {m : List (Nat × Nat)} : ∀ {l : List (Nat × Nat)} {i j : Nat} {o : Obj}, (i, j) ∈ l → getO objs i = some o → (j, o.ren m) ∈ pickR objs m l
  | (a, b) :: r, i, j, o, h, ho => by
    unfold pickR
    rcases List.mem_cons.1 h with h | h
    · cases h; rw [ho]; exact List.mem_cons_self ..
    · split
      · exact List.mem_cons_of_mem _ (pickR_mem h ho)
      · exact pickR_mem h ho
theorem canonMap_obj {objs : Objs} : ∀ {ids : List Nat} {k i j : Nat}, (i, j) ∈ canonMap objs k ids → ∃ o, getO objs i = some o
  | [], _, _, _, h => by cases h
  | a :: r, k, i, j, h => by
    unfold canonMap at h
    split at h
    · rename_i o ho
      rcases List.mem_cons.1 h with h | h
      · cases h; exact ⟨o, ho⟩
      · exact canonMap_obj h
    · exact canonMap_obj h
theorem mem_keysO : ∀ {l : Objs} {j : Nat} {o : Obj}, (j, o) ∈ l → j ∈ keysO l
  | (a, b) :: r, j, o, h => by
    rcases List.mem_cons.1 h with h | h
    · cases h; exact List.mem_cons_self ..
    · exact List.mem_cons_of_mem _ (mem_keysO h)
theorem backMap_mem {m : List (Nat × Nat)} : ∀ {l : List Nat} {b c i : Nat}, (c, i) ∈ backMap m b l → lk m c = some i ∨ (lk m c = none ∧ i % 2 = 0)
  | [], _, _, _, h => by cases h
  | a :: r, b, c, i, h => by
    unfold backMap at h
    split at h
    · rename_i x hx
      rcases List.mem_cons.1 h with h | h
      · cases h; exact .inl hx
      · exact backMap_mem h
    · rename_i hx
      rcases List.mem_cons.1 h with h | h
      · cases h; exact .inr ⟨hx, by omega⟩
      · exact backMap_mem h
theorem mem_newNames {m : List (Nat × Nat)} : ∀ {l : List (Nat × Nat)} {c i : Nat}, (c, i) ∈ l → lk m c = none → i ∈ newNames m l
  | (a, b) :: r, c, i, h, hn => by
    unfold newNames
    rcases List.mem_cons.1 h with h | h
    · cases h; rw [hn]; exact List.mem_cons_self ..
    · split
      · exact mem_newNames h hn
      · exact List.mem_cons_of_mem _ (mem_newNames h hn)
theorem mem_evenNames : ∀ {l : List (Nat × Nat)} {i j : Nat}, (i, j) ∈ l → oddB j = false → i ∈ evenNames l
  | (a, b) :: r, i, j, h, hn => by
    unfold evenNames
    rcases List.mem_cons.1 h with h | h
    · cases h; rw [hn, cond_false]; exact List.mem_cons_self ..
    · cases oddB b with
      | true => exact mem_evenNames h hn
      | false => exact List.mem_cons_of_mem _ (mem_evenNames h hn)
theorem allEven_mem : ∀ {l : List Nat} {i : Nat}, allEven l = true → i ∈ l → i % 2 = 0
  | a :: r, i, h, hm => by
    unfold allEven at h
    cases ho : oddB a with
    | true => rw [ho] at h; cases h
    | false =>
      rw [ho] at h
      rcases List.mem_cons.1 hm with hm | hm
      · subst hm
        have := Nat.ne_of_beq_eq_false ho
        omega
      · exact allEven_mem h hm
theorem getO_dropsO : ∀ {l : List (Nat × Nat)} {objs : Objs} {j : Nat} {o : Obj}, getO (dropsO objs l) j = some o → j ∉ fsts l ∧ getO objs j = some o
  | [], _, _, _, h => ⟨by simp [fsts], h⟩
  | (a, b) :: r, objs, j, o, h => by
    obtain ⟨h1, h2⟩ := getO_dropsO (l := r) h
    by_cases hj : j = a
    · subst hj; rw [getO_dropO_same] at h2; cases h2
    · rw [getO_dropO_other _ hj] at h2
      exact ⟨by simp [fsts, hj, h1], h2⟩
theorem getO_layO : ∀ {l objs : Objs} {j : Nat} {o : Obj}, getO (layO objs l) j = some o → (j, o) ∈ l ∨ getO objs j = some o
  | [], _, _, _, h => .inr h
  | (a, p) :: r, objs, j, o, h => by
    rcases getO_layO (l := r) h with h1 | h1
    · exact .inl (List.mem_cons_of_mem _ h1)
    · rw [getO_cons] at h1
      split at h1
      · rename_i hk; injection h1 with h2; subst hk h2; exact .inl (List.mem_cons_self ..)
      · rename_i hk
        rw [getO_dropO_other _ (Ne.symm hk)] at h1
        exact .inr h1
section
variable {P : Program} {Θ : Anc} {n : Nat} {σ : St} {a : Act} {w w' : World} {Z Z' : Nat → Prop} {G G' : Nat → Value}
theorem Sim.wipe1 (S : Sim P Θ n σ a w Z G) (id : Nat) {v : Value} (hf : v.oneCell' = true) (ho : id % 2 = 1 → v = Θ.G0 id) : Sim P Θ n ⟨subE id .unk σ.env, subO id .unk (dropO σ.objs id)⟩ a w Z (fun i => if i = id then v else G i) := by
  have T : Turns w w Z Z G (fun i => if i = id then v else G i) id .unk := { sub := fun _ h => h, same := fun _ _ => rfl, other := fun i hi => if_neg hi, its := trivial }
  have hobj : ∀ j o', getO (subO id .unk (dropO σ.objs id)) j = some o' → j ≠ id ∧ ∃ p, getO σ.objs j = some p ∧ o' = p.sub id .unk := by
    intro j o' h
    rw [getO_subO] at h
    obtain ⟨p, h1, h2⟩ := Option.map_eq_some_iff.1 h
    by_cases hj : j = id
    · subst hj; rw [getO_dropO_same] at h1; cases h1
    · rw [getO_dropO_other _ hj] at h1; exact ⟨hj, p, h1, h2.symm⟩
  refine { size := S.size, calm := S.calm, slot := ?_, obj := ?_, sep := ?_, free := ?_, keep := ?_, nlt := S.nlt, lt := S.lt, fut := S.fut, new := S.new, sub := S.sub, flat := ?_, odd := ?_, row := S.row }
  · intro t
    show RepSV w Z _ (get (subE id .unk σ.env) t) _
    rw [get_subE]
    exact RepSV.sub T _ _ (S.slot t)
  · intro j o' hj
    obtain ⟨h, p, hp, rfl⟩ := hobj j o' hj
    exact RepO.sub T h (fun _ _ => rfl) (S.obj j p hp)
  · intro j j' p p' b hp hp' hb hb'
    obtain ⟨h, q, hq, _⟩ := hobj j p hp
    obtain ⟨h', q', hq', _⟩ := hobj j' p' hp'
    simp only [if_neg h] at hb
    simp only [if_neg h'] at hb'
    exact S.sep j j' q q' b hq hq' hb hb'
  · intro j p b hp hb
    obtain ⟨h, q, hq, _⟩ := hobj j p hp
    simp only [if_neg h] at hb
    exact S.free j q b hq hb
  · intro j p b hp hb hN
    obtain ⟨h, q, hq, rfl⟩ := hobj j p hp
    simp only [if_neg h] at hb
    have h2 := S.keep j q b hq hb hN
    cases q <;> exact h2
  · intro j
    by_cases h : j = id
    · simp only [h, if_true]; exact hf
    · simp only [if_neg h]; exact S.flat j
  · intro j hj
    by_cases h : j = id
    · subst h; simp only [if_true]; exact ho hj
    · simp only [if_neg h]; exact S.odd j hj
theorem Sim.wipe : ∀ (l : List Nat) {σ : St} {G G' : Nat → Value}, Sim P Θ n σ a w Z G → (∀ i, i ∉ l → G' i = G i) → (∀ i, (G' i).oneCell' = true) → (∀ i, i % 2 = 1 → G' i = Θ.G0 i) → Sim P Θ n (σ.wipe l) a w Z G'
  | [], σ, G, G', S, h, _, _ => by
    have : G' = G := funext fun i => h i (by simp)
    rw [this]; exact S
  | id :: r, σ, G, G', S, h, hf, ho => by
    have S1 := S.wipe1 id (v := G' id) (hf id) (ho id)
    refine Sim.wipe r S1 (fun i hi => ?_) hf ho
    by_cases hid : i = id
    · simp [hid]
    · rw [if_neg hid]; exact h i (by simp [hid, hi])
theorem wipe_obj : ∀ {l : List Nat} {σ : St} {j : Nat} {o : Obj}, getO (σ.wipe l).objs j = some o → j ∉ l ∧ ∃ p, getO σ.objs j = some p
  | [], _, _, o, h => ⟨by simp, o, h⟩
  | id :: r, σ, j, o, h => by
    obtain ⟨h1, p, hp⟩ := wipe_obj (l := r) h
    have hp : getO (subO id .unk (dropO σ.objs id)) j = some p := hp
    rw [getO_subO] at hp
    obtain ⟨q, h3, _⟩ := Option.map_eq_some_iff.1 hp
    by_cases hj : j = id
    · subst hj; rw [getO_dropO_same] at h3; cases h3
    · rw [getO_dropO_other _ hj] at h3; exact ⟨by simp [hj, h1], q, h3⟩
theorem Sim.goes (S : Sim P Θ n σ a w Z G) {B : Nat → Prop} (hB : ∀ b, B b → (Θ.M b ∨ Θ.w.heap.size ≤ b) ∧ b < w.heap.size ∧ ¬ Z b) (hl : ∀ id o b, getO σ.objs id = some o → blk (G id) = some b → ¬ B b) (hf : Fut B w w')
    (h1 : ∀ b, Z b → Z' b) (h2 : ∀ b, Z' b → Z b ∨ B b ∨ w.heap.size ≤ b) (h3 : ∀ b, Z' b → b < w'.heap.size) (h4 : ∀ b, Z' b → Z b ∨ Plain w' b) : Sim P Θ n σ a w' Z' G := by
  have hK : Stays w w' Z Z' := ⟨h1, fun b hb => hf.block b (S.lt b hb) (fun hm => (hB b hm).2.2 hb)⟩
  have hob : ∀ id o b, getO σ.objs id = some o → blk (G id) = some b → w'.heap[b]? = w.heap[b]? := fun id o b h hb => hf.block b (RepO.lt S h hb) (hl id o b h hb)
  exact { size := S.size, calm := S.calm, sep := S.sep, keep := S.keep, nlt := S.nlt, flat := S.flat, odd := S.odd
          row := fun b hb => (h4 b hb).elim (fun h => (S.row b h).imp (fun h => h) fun h5 => h5.of (hK.same b h)) .inr
          slot := fun t => RepSV.mono hK _ _ (S.slot t)
          obj := fun id o h => RepO.mono hK (fun b hb => hob id o b h hb) (S.obj id o h)
          free := fun id o b h hb => ⟨fun hz => by
            rcases h2 b hz with h4 | h4 | h4
            · exact (S.free id o b h hb).1 h4
            · exact hl id o b h hb h4
            · have := RepO.lt S h hb; omega, (S.free id o b h hb).2⟩
          lt := h3
          fut := S.fut.trans hf (fun _ h => h) (fun b hb hm => by
            rcases (hB b hm).1 with h4 | h4
            · exact h4
            · omega)
          new := fun b hb => by
            rcases h2 b hb with h4 | h4 | h4
            · exact S.new b h4
            · exact (hB b h4).1.elim (fun h => .inr (.inl h)) (fun h => .inr (.inr (.inr h)))
            · exact .inr (.inr (.inr (Nat.le_trans S.fut.size h4)))
          sub := fun b hb => h1 b (S.sub b hb) }
theorem Sim.lay (S : Sim P Θ n σ a w Z G) {L : Objs} (ho : ∀ id o, (id, o) ∈ L → RepO w Z G P id o) (hfree : ∀ id o b, (id, o) ∈ L → blk (G id) = some b → ¬ Z b ∧ (Θ.M b ∨ Θ.w.heap.size ≤ b)) (hkeep : ∀ id o b, (id, o) ∈ L → blk (G id) = some b → Θ.N b → Θ.keeps o = true)
    (hsep : ∀ id id' o o' b, (id, o) ∈ L → (id', o') ∈ L → blk (G id) = some b → blk (G id') = some b → id = id') (hold : ∀ id id' o o' b, (id, o) ∈ L → getO σ.objs id' = some o' → blk (G id) = some b → blk (G id') ≠ some b) :
    Sim P Θ n ⟨σ.env, layO σ.objs L⟩ a w Z G :=
  { size := S.size, calm := S.calm, slot := S.slot, nlt := S.nlt, lt := S.lt, fut := S.fut, new := S.new, sub := S.sub, flat := S.flat, odd := S.odd, row := S.row
    obj := fun id o h => by
      rcases getO_layO h with h | h
      · exact ho id o h
      · exact S.obj id o h
    sep := fun id id' o o' b h h' hb hb' => by
      rcases getO_layO h with h | h <;> rcases getO_layO h' with h' | h'
      · exact hsep id id' o o' b h h' hb hb'
      · exact absurd hb' (hold id id' o o' b h h' hb)
      · exact absurd hb (hold id' id o' o b h' h hb')
      · exact S.sep id id' o o' b h h' hb hb'
    free := fun id o b h hb => by
      rcases getO_layO h with h | h
      · obtain ⟨h1, h2⟩ := hfree id o b h hb
        exact ⟨h1, h2.elim .inl (fun h => .inr (.inr h))⟩
      · exact S.free id o b h hb
    keep := fun id o b h hb hN => by
      rcases getO_layO h with h | h
      · exact hkeep id o b h hb hN
      · exact S.keep id o b h hb hN }
end
section
variable {C : Ctx} {Θ : Anc} {n : Nat} {σ : St} {a : Act} {w : World} {Z : Nat → Prop} {G : Nat → Value}
theorem plainV_rep {P : Program} {t : TypeId} {s : SV} {v : Value} (h : RepSV w Z G s v) : RepSV w Z G (plainV P t s) v := by
  unfold plainV
  split
  · rename_i us hus
    obtain ⟨s', h1, h2⟩ := flat_rep (Zc := Z) (fun c s u v hu hs => plainU_rep hu hs) hus h
    rw [h1]
    exact unflat_any h1 h2
  · exact h
theorem plainVs_rep {P : Program} : ∀ {fs : List Bool} {ts : List TypeId} {l : List SV} {vs : List Value}, RepSVs w Z G l vs → RepSVs w Z G (plainVs P fs ts l) vs
  | _, [], [], _, h => h
  | _, _ :: _, [], _, h => h
  | _, [], _ :: _, _, h => h
  | fs, t :: ts, s :: l, _, h => by
    obtain ⟨v, r, hv, hs, hr⟩ := h
    refine ⟨v, r, hv, ?_, plainVs_rep hr⟩
    split
    · exact hs
    · exact plainV_rep hs
theorem callT_sound (hC : C.Ok) {o : Oper} {K : Act → World → Prop} {Q : Exit → Act → World → Prop} {k : St → Prop} {q : Bool} (hkq : q = false → Θ.kb = false ∧ Θ.ka = false) (S : Sim C.P Θ n σ a w Z G) (hd : ∀ t, o.dst = some t → t < n)
    (hk : ∀ σ' a' w' Z' G', k σ' → Sim C.P Θ n σ' a' w' Z' G' → K a' w') (hp : ∀ s σ' w' Z' G' v, C.pan s σ' → Sim C.P Θ n σ' a w' Z' G' → RepSV w' Z' G' s v → Q (.panic [{ v := v, recovered := false }]) a w')
    {f : FuncId} {fn : Func} {cf : Operand} {args : Array Operand} {ts : Array TypeId} {cs : List SV} {fs : List Bool} {F : Tr} (ho : o.op = .call { callee := .value cf, args := args, argTypes := ts }) (hcf : σ.ev cf = .clo f cs) (hf : C.P.funcs[f]? = some fn)
    (hF : C.trs f = some (fs, F)) (h : opCallT C o.dst q fs F fn args.toList cf σ k) : o.wp C.P a w K Q := by
  obtain ⟨hbody, hname, hcalls⟩ := hC.trs f fn fs F hf hF
  unfold opCallT at h
  split at h
  · cases h
  rename_i σ1 hfr
  simp only [force_eq, forceM_eq, forceSVs_eq, forceOs_eq] at h
  obtain ⟨Z1, S1⟩ := freezes_sim S hfr
  split at h
  case h_2 => cases h
  rename_i f' caps hcf'
  obtain ⟨hb, h⟩ := cond_only h
  simp only [Bool.and_eq_true] at hb
  obtain ⟨⟨⟨hn1, hn2⟩, hcan⟩, hqm⟩ := hb
  generalize hm : canonMap σ1.objs 0 (reach σ1.objs 400 (SV.hs.hss (plainVs C.P fs fn.params.toList (evs σ1 args.toList) ++ caps)) []) = m at h hn1 hn2 hcan hqm
  have hkk : ∀ {i j : Nat}, lk m i = some j → Θ.kb = false ∧ Θ.ka = false := fun {i j} hij => hkq (by
    cases q with
    | false => rfl
    | true =>
      cases m with
      | nil => cases hij
      | cons x r => simp [isNilM] at hqm)
  obtain ⟨cv, hcv, _⟩ : ∃ vs, a.eval cf = .func (.func f) #[] vs ∧ RepSVs w Z G cs vs.toList := by have := S.ev cf; rw [hcf] at this; exact this
  obtain ⟨cv', hcv', hcaps⟩ : ∃ vs, a.eval cf = .func (.func f') #[] vs ∧ RepSVs w Z1 G caps vs.toList := by have := S1.ev cf; rw [hcf'] at this; exact this
  have hcveq : cv' = cv := by rw [hcv] at hcv'; cases hcv'; rfl
  subst hcveq
  let Gc : Nat → Value := fun j => match lk (swaps m) j with | some i => G i | none => .pointer none
  have hGc : ∀ i j, lk m i = some j → Gc j = G i := fun i j hij => by show (match lk (swaps m) j with | some i => G i | none => .pointer none) = _; rw [lk_swaps hn2 hij]
  have hargs : RepSVs w Z1 Gc (SV.ren.rens m (plainVs C.P fs fn.params.toList (evs σ1 args.toList) ++ caps)) (args.toList.map a.eval ++ cv'.toList) :=
    RepSVs.ren hGc _ _ ((plainVs_rep (S1.evs_rep _)).app hcaps)
  have hpk : ∀ j o', getO (pickR σ1.objs m m) j = some o' → ∃ i p, lk m i = some j ∧ getO σ1.objs i = some p ∧ o' = p.ren m ∧ Gc j = G i := fun j o' hj => by
    obtain ⟨i, p, h1, h2, h3⟩ := getO_pickR hj
    exact ⟨i, p, lk_of_mem hn1 h1, h2, h3, hGc i j (lk_of_mem hn1 h1)⟩
  have hst : Stand C.P w Z1 Gc (pickR σ1.objs m m) :=
    { lt := S1.lt
      flat := fun j => by
        show (match lk (swaps m) j with | some i => G i | none => Value.pointer none).oneCell' = true
        split
        · exact S1.flat _
        · rfl
      obj := fun j o' hj => by
        obtain ⟨i, p, h1, h2, rfl, _⟩ := hpk j o' hj
        exact RepO.ren hGc h1 (S1.obj i p h2)
      sep := fun j j' o1 o2 b hj hj' hb hb' => by
        obtain ⟨i, p, h1, h2, _, h3⟩ := hpk j o1 hj
        obtain ⟨i', p', h1', h2', _, h3'⟩ := hpk j' o2 hj'
        rw [h3] at hb
        rw [h3'] at hb'
        have := S1.sep i i' p p' b h2 h2' hb hb'
        subst this
        rw [h1] at h1'
        exact Option.some.inj h1'
      free := fun j o' b hj hb => by
        obtain ⟨i, p, h1, h2, _, h3⟩ := hpk j o' hj
        rw [h3] at hb
        exact (S1.free i p b h2 hb).1 }
  have hc := hcalls _ _ _ hcan h w Z1 Gc (args.toList.map a.eval ++ cv'.toList) hargs hst
  unfold Oper.wp execOp
  have hrun : (do let d ← resolve a.eval { callee := .value cf, args := args, argTypes := ts } o.type; invoke d.target d.args : Sem Next).run C.P w = .ok (.enter f (args.toList.map a.eval ++ cv'.toList).toArray) w := by
    have harr : args.map a.eval ++ cv' = (args.toList.map a.eval ++ cv'.toList).toArray := by apply Array.ext'; simp
    have hn : ¬ fn.name = "runtime.NumGoroutine" := by simpa using hname
    have hb : ¬ fn.body = none := by intro e; rw [e] at hbody; cases hbody
    simp [resolve, hcv, Deferred.ofValue, invoke, callFunc, hf, hn, hb, harr]
  simp only [ho, hrun, Oper.upon]
  refine hc.mono fun e w' ⟨out, objs', Z', G', hR, hout, A⟩ => ?_
  unfold afterCall at hR
  simp only [force_eq, forceM_eq, forceSV_eq, forceSVs_eq] at hR
  generalize hbm : backMap (swaps m) ((match o.dst with | some d => d | none => 0) * 64 + 8) (keysO objs') = b at hR
  obtain ⟨hb, hR⟩ := cond_only hR
  simp only [Bool.and_eq_true] at hb
  obtain ⟨⟨hb1, hb2⟩, hev⟩ := hb
  have hbmem : ∀ c i, (c, i) ∈ b → lk (swaps m) c = some i ∨ (lk (swaps m) c = none ∧ i % 2 = 0) := fun c i hci => backMap_mem (by rw [hbm]; exact hci)
  let G2 : Nat → Value := fun id => match lk (swaps b) id with | some c => G' c | none => G id
  have hG2 : ∀ c i, lk b c = some i → G2 i = G' c := fun c i hci => by show (match lk (swaps b) i with | some c => G' c | none => G i) = _; rw [lk_swaps hb2 hci]
  have hmobj : ∀ i j, (i, j) ∈ m → ∃ p, getO σ1.objs i = some p := fun i j hij => canonMap_obj (by rw [hm]; exact hij)
  have hsame : ∀ i, i ∉ evenNames m ++ newNames (swaps m) b → G2 i = G i := by
    intro i hi
    have hi1 : i ∉ evenNames m := fun hx => hi (List.mem_append.2 (.inl hx))
    have hi2 : i ∉ newNames (swaps m) b := fun hx => hi (List.mem_append.2 (.inr hx))
    show (match lk (swaps b) i with | some c => G' c | none => G i) = _
    split
    · rename_i c hc'
      have hci : (c, i) ∈ b := mem_swaps.1 (lk_mem hc')
      rcases hbmem c i hci with h1 | ⟨h1, _⟩
      · have him : (i, c) ∈ m := mem_swaps.1 (lk_mem h1)
        have hoc : c % 2 = 1 := by
          cases hod : oddB c with
          | true => exact Nat.eq_of_beq_eq_true hod
          | false => exact absurd (mem_evenNames him hod) hi1
        obtain ⟨p, hp'⟩ := hmobj i c him
        obtain ⟨p', hp''⟩ := getO_some_of_mem (pickR_mem (m := m) him hp')
        rw [A.keep c p' hp'' hoc, hGc i c (lk_of_mem hn1 him)]
      · exact absurd (mem_newNames hci h1) hi2
    · rfl
  have hflat : ∀ i, (G2 i).oneCell' = true := fun i => by
    show (match lk (swaps b) i with | some c => G' c | none => G i).oneCell' = true
    split
    · exact A.stand.flat _
    · exact S1.flat _
  have hodd : ∀ i, i % 2 = 1 → G2 i = Θ.G0 i := fun i hi => by
    rw [hsame i (fun hm' => by have := allEven_mem hev hm'; omega)]
    exact S1.odd i hi
  have S2 : Sim C.P Θ n ⟨σ1.env, dropsO σ1.objs m⟩ a w Z1 G := S1.less (fun t => .inl rfl) (fun id o' ho' => (getO_dropsO ho').2)
  have S3 := Sim.wipe (evenNames m ++ newNames (swaps m) b) S2 hsame hflat hodd
  generalize hσ3 : St.wipe ⟨σ1.env, dropsO σ1.objs m⟩ (evenNames m ++ newNames (swaps m) b) = σ3 at S3 hR
  have hold : ∀ id o', getO σ3.objs id = some o' → id ∉ fsts m ∧ G2 id = G id ∧ ∃ p, getO σ1.objs id = some p := by
    intro id o' hid
    rw [← hσ3] at hid
    obtain ⟨h1, p, h2⟩ := wipe_obj hid
    obtain ⟨h3, h4⟩ := getO_dropsO h2
    exact ⟨h3, hsame id h1, p, h4⟩
  have hB : ∀ c, Blocks Gc (pickR σ1.objs m m) c → ∃ i j p, lk m i = some j ∧ getO σ1.objs i = some p ∧ blk (G i) = some c := fun c ⟨j, o', hj, hbj⟩ => by
    obtain ⟨i, p, h1, h2, _, h3⟩ := hpk j o' hj
    rw [h3] at hbj
    exact ⟨i, j, p, h1, h2, hbj⟩
  have hBM : ∀ c, Blocks Gc (pickR σ1.objs m m) c → (Θ.M c ∨ Θ.w.heap.size ≤ c) ∧ c < w.heap.size ∧ ¬ Z1 c := fun c hc' => by
    obtain ⟨i, j, p, h1, h2, h3⟩ := hB c hc'
    obtain ⟨h4, h5⟩ := S1.free i p c h2 h3
    refine ⟨?_, RepO.lt S1 h2 h3, h4⟩
    rcases h5 with h5 | h5 | h5
    · exact .inl h5
    · have := S1.keep i p c h2 h3 h5
      obtain ⟨hkb, hka⟩ := hkk h1
      cases p <;> simp [Anc.keeps, hkb, hka] at this
    · exact .inr h5
  have hnot : ∀ id o' c, getO σ3.objs id = some o' → blk (G2 id) = some c → ¬ Blocks Gc (pickR σ1.objs m m) c ∧ c < w.heap.size := by
    intro id o' c hid hbc
    obtain ⟨h1, h2, p, h3⟩ := hold id o' hid
    rw [h2] at hbc
    refine ⟨fun hc' => ?_, RepO.lt S1 h3 hbc⟩
    obtain ⟨i, j, q, h4, h5, h6⟩ := hB c hc'
    have := S1.sep id i p q c h3 h5 hbc h6
    subst this
    exact h1 (mem_fsts (lk_mem h4))
  have S4 := S3.goes hBM (fun id o' c hid hbc => (hnot id o' c hid hbc).1) A.fut A.sub A.new A.stand.lt A.row
  have hL : ∀ id o', (id, o') ∈ pickR objs' b b → ∃ c p, lk b c = some id ∧ getO objs' c = some p ∧ o' = p.ren b ∧ G2 id = G' c := fun id o' hid => by
    obtain ⟨c, p, h1, h2, h3⟩ := mem_pickR hid
    exact ⟨c, p, lk_of_mem hb1 h1, h2, h3, hG2 c id (lk_of_mem hb1 h1)⟩
  have hown : ∀ c p d, getO objs' c = some p → blk (G' c) = some d → ¬ Z' d ∧ (Θ.M d ∨ Θ.w.heap.size ≤ d) := fun c p d hc' hbd => by
    refine ⟨A.stand.free c p d hc' hbd, ?_⟩
    rcases A.own c p d hc' hbd with h1 | h1
    · exact (hBM d h1).1
    · exact .inr (Nat.le_trans S1.fut.size h1)
  have S5 : Sim C.P Θ n ⟨σ3.env, layO σ3.objs (pickR objs' b b)⟩ a w' Z' G2 := by
    refine S4.lay ?_ ?_ ?_ ?_ ?_
    · intro id o' hid
      obtain ⟨c, p, h1, h2, rfl, _⟩ := hL id o' hid
      exact RepO.ren hG2 h1 (A.stand.obj c p h2)
    · intro id o' d hid hbd
      obtain ⟨c, p, h1, h2, _, h3⟩ := hL id o' hid
      rw [h3] at hbd
      exact hown c p d h2 hbd
    · intro id o' d hid hbd hN
      obtain ⟨c, p, h1, h2, _, h3⟩ := hL id o' hid
      rw [h3] at hbd
      rcases A.own c p d h2 hbd with h4 | h4
      · obtain ⟨i, j, q, h5, h6, h7⟩ := hB d h4
        have := S1.keep i q d h6 h7 hN
        obtain ⟨hkb, hka⟩ := hkk h5
        cases q <;> simp [Anc.keeps, hkb, hka] at this
      · have h5 := S1.nlt d hN
        have h6 := S1.fut.size
        omega
    · intro id id' o1 o2 d hid hid' hbd hbd'
      obtain ⟨c, p, h1, h2, _, h3⟩ := hL id o1 hid
      obtain ⟨c', p', h1', h2', _, h3'⟩ := hL id' o2 hid'
      rw [h3] at hbd
      rw [h3'] at hbd'
      have := A.stand.sep c c' p p' d h2 h2' hbd hbd'
      subst this
      rw [h1] at h1'
      exact Option.some.inj h1'
    · intro id id' o1 o2 d hid hid' hbd hbd'
      obtain ⟨c, p, h1, h2, _, h3⟩ := hL id o1 hid
      rw [h3] at hbd
      obtain ⟨h4, h5⟩ := hnot id' o2 d hid' hbd'
      rcases A.own c p d h2 hbd with h6 | h6
      · exact h4 h6
      · omega
  cases out with
  | ret vs =>
    match vs, hout, hR with
    | [v], ⟨x, he, hx⟩, hR =>
      subst he
      exact hk _ _ _ _ _ hR (S5.put (RepSV.ren hG2 _ _ hx) hd)
    | [], ⟨x, he, hx⟩, hR =>
      subst he
      exact hk _ _ _ _ _ hR (S5.put (RepSV.ren hG2 (.tup []) _ hx) hd)
    | v :: v' :: vs, ⟨x, he, hx⟩, hR =>
      subst he
      exact hk _ _ _ _ _ hR (S5.put (RepSV.ren hG2 (.tup (v :: v' :: vs)) _ hx) hd)
  | pan s =>
    obtain ⟨x, he, hx⟩ := hout
    subst he
    exact hp _ _ _ _ _ _ hR S5 (RepSV.ren hG2 _ _ hx)
end
end Go.Den

namespace Go.Den
open Go Go.RowKit
theorem run_getMap {P : Program} {w : World} {r : Nat} {es : Array MapEntry} {clock : Nat} (hb : w.heap[r]? = some (.map es clock)) : (getObj r).run P w = .ok (.map es clock) w := by
  simp [getObj, Sem.run, hb]
theorem run_setMap {P : Program} {w : World} {r : Nat} {es : Array MapEntry} {clock : Nat} (o : Go.Obj) (hb : w.heap[r]? = some (.map es clock)) : (setObj r o).run P w = .ok () { w with heap := w.heap.setIfInBounds r o } := by
  simp [setObj, Sem.run, hb]
theorem grown_set (w : World) (r : Nat) (o : Go.Obj) : w.grownBy { w with heap := w.heap.setIfInBounds r o } (some r) :=
  ⟨rfl, rfl, rfl, by simp, fun k hk hne => by
    have : k ≠ r := fun e => hne (by rw [e])
    simp [Ne.symm this]⟩
theorem heap_set {w : World} {r : Nat} {o o' : Go.Obj} (h : w.heap[r]? = some o') : (({ w with heap := w.heap.setIfInBounds r o } : World)).heap[r]? = some o := by
  have : r < w.heap.size := (Array.getElem?_eq_some_iff.1 h).1
  simp [this]
section
variable {P : Program} {w : World} {Z : Nat → Prop} {G : Nat → Value}
theorem RepEnts.length {km vm : Bool} {kcs vcs : List Ct} : ∀ {es : List (U × U)} {n : Nat} {l : List MapEntry}, RepEnts w Z km kcs vm vcs n es l → l.length = es.length
  | [], _, _, h => by have h : _ = [] := h; subst h; rfl
  | (_, _) :: _, _, _, h => by
    obtain ⟨e, t, rfl, _, _, _, ht⟩ := h
    simp [RepEnts.length ht]
theorem keyCt_some {t : TypeId} {kc : Ct} (h : keyCt P t = some kc) : ∃ d, P.underlying t = some d ∧ ((∃ k, d = .int k ∧ kc = .int k) ∨ (d = .bool ∧ kc = .bool) ∨ (d = .string ∧ kc = .str)) ∧ Cs P t = some (false, [kc]) := by
  unfold keyCt at h
  split at h
  · rename_i k hu
    injection h with h; subst h
    refine ⟨_, hu, .inl ⟨k, rfl, rfl⟩, ?_⟩
    unfold Cs cts; rw [hu]
  · rename_i hu
    injection h with h; subst h
    refine ⟨_, hu, .inr (.inl ⟨rfl, rfl⟩), ?_⟩
    unfold Cs cts; rw [hu]
  · rename_i hu
    injection h with h; subst h
    refine ⟨_, hu, .inr (.inr ⟨rfl, rfl⟩), ?_⟩
    unfold Cs cts; rw [hu]
  · cases h
theorem mapOf_some {t : TypeId} {kc : Ct} {vt : TypeId} {vm : Bool} {vcs : List Ct} (h : mapOf P t = some (kc, vt, vm, vcs)) : ∃ kt, P.underlying t = some (.map kt vt) ∧ keyCt P kt = some kc ∧ Cs P vt = some (vm, vcs) := by
  unfold mapOf at h
  split at h
  · rename_i kt vt' hu
    split at h
    · rename_i kc' vm' vcs' h1 h2
      injection h with h
      cases h
      exact ⟨kt, hu, h1, h2⟩
    · cases h
  · cases h
theorem checkKey_ok {kt : TypeId} {kc : Ct} (h : keyCt P kt = some kc) (e : Bool) (v : Value) : (Instr.checkKey e 10000 kt v).run P w = .ok () w := by
  obtain ⟨d, hu, hd, _⟩ := keyCt_some h
  have key : ∀ n : Nat, (Instr.checkKey e (n + 1) kt v).run P w = .ok () w := fun n => by
    rcases hd with ⟨k, rfl, _⟩ | ⟨rfl, _⟩ | ⟨rfl, _⟩ <;> simp [Instr.checkKey, run_underlying hu]
  exact key 9999
theorem sameNow_key {kt : TypeId} {kc : Ct} {d : TypeDesc} (hu : P.underlying kt = some d) (h : keyCt P kt = some kc) {v x : Value} {u a : U} (hv : RepC w Z kc v u) (hx : RepC w Z kc x a) : Instr.sameNow d v x = some (ueq kc u a) := by
  obtain ⟨d', hu', hd, _⟩ := keyCt_some h
  rw [hu] at hu'
  cases hu'
  rcases hd with ⟨k, rfl, rfl⟩ | ⟨rfl, rfl⟩ | ⟨rfl, rfl⟩
  · have hv : v = .int k u.int := hv.1
    have hx : x = .int k a.int := hx.1
    subst hv hx
    simp only [Instr.sameNow, ueq, if_true, Option.some.injEq]
    rw [Bool.eq_iff_iff]
    simp
  · have hv : v = .bool u.bool := hv
    have hx : x = .bool a.bool := hx
    subst hv hx
    rfl
  · have hv : v = .string u.str := hv.1
    have hx : x = .string a.str := hx.1
    subst hv hx
    have e : (u.str == a.str) = (u.str.data == a.str.data) := rfl
    simp only [Instr.sameNow, ueq, Option.some.injEq, e]
    rw [Bool.eq_iff_iff]
    simp only [beq_iff_eq]
    exact ⟨fun h => by rw [h], fun h => Array.ext' h⟩
theorem ueq_bits {kc : Ct} {v x : Value} {u a : U} (hs : scalarC kc = true) (hv : RepC w Z kc v u) (hx : RepC w Z kc x a) (h : ueq kc u a = true) : v = x := by
  cases kc with
  | int k =>
    have hv : v = .int k u.int := hv.1
    have hx : x = .int k a.int := hx.1
    have : u.int = a.int := of_decide_eq_true h
    rw [hv, hx, this]
  | bool =>
    have hv : v = .bool u.bool := hv
    have hx : x = .bool a.bool := hx
    have : u.bool = a.bool := by simpa [ueq] using h
    rw [hv, hx, this]
  | str =>
    have hv : v = .string u.str := hv.1
    have hx : x = .string a.str := hx.1
    have h : u.str.data.toList = a.str.data.toList := by simp only [ueq, beq_iff_eq] at h; exact h
    have : u.str = a.str := by
      have : u.str.data = a.str.data := Array.ext' h
      cases hu : u.str; cases ha : a.str
      rw [hu, ha] at this
      cases this
      rfl
    rw [hv, hx, this]
  | sl m cs => cases hs
  | oth => cases hs
theorem elemSV_rep {vm : Bool} {vcs : List Ct} {v : Value} {u : U} (h : RepK w Z vm vcs v u) : RepSV w Z G (elemSV vm vcs u) v := by
  cases vm with
  | true => obtain ⟨vs, rfl, hr⟩ := h; exact ⟨vs, rfl, RepL.vals hr⟩
  | false => obtain ⟨c, rfl, hr⟩ := h; exact hr
theorem find_rep {kt : TypeId} {kc : Ct} {d : TypeDesc} (hu : P.underlying kt = some d) (hkc : keyCt P kt = some kc) {vm : Bool} {vcs : List Ct} {kv : Value} {ku : U} (hkv : RepC w Z kc kv ku) (z : U) :
    ∀ {es : List (U × U)} {n : Nat} {l : List MapEntry} (i : Nat), RepEnts w Z false [kc] vm vcs n es l →
      (mhas kc ku es = false ∧ Instr.findNow d kv l i = some none ∧ mval kc ku z es = z ∧ mpos kc ku es = es.length) ∨
      (mhas kc ku es = true ∧ ∃ x, Instr.findNow d kv l i = some (some (i + mpos kc ku es, x)) ∧ RepK w Z vm vcs x (mval kc ku z es) ∧ mpos kc ku es < es.length ∧ ∃ e, l[mpos kc ku es]? = some e ∧ e.val = x ∧ e.born = n + mpos kc ku es ∧ e.key = kv)
  | [], n, l, i, h => by
    have h : l = [] := h
    subst h
    exact .inl ⟨rfl, rfl, rfl, rfl⟩
  | (a, x) :: r, n, l, i, h => by
    obtain ⟨e, t, rfl, hb, ⟨c, hc, hk⟩, hx, ht⟩ := h
    cases hc
    have hs := sameNow_key hu hkc hkv hk
    unfold Instr.findNow mhas mval mpos
    rw [hs]
    cases hq : ueq kc ku a with
    | true =>
      have hsc : scalarC kc = true := by
        obtain ⟨d', _, hd, _⟩ := keyCt_some hkc
        rcases hd with ⟨k, _, rfl⟩ | ⟨_, rfl⟩ | ⟨_, rfl⟩ <;> rfl
      have := ueq_bits hsc hkv hk hq
      exact .inr ⟨rfl, e.val, by simp, hx, by simp, e, by simp, rfl, by simp [hb], this.symm⟩
    | false =>
      rcases find_rep hu hkc hkv z (i + 1) ht with ⟨h1, h2, h3, h4⟩ | ⟨h1, y, h2, h3, h4, e', h5, h6, h7, h8⟩
      · exact .inl ⟨by simpa using h1, by simpa using h2, by simpa using h3, by simp [h4]⟩
      · refine .inr ⟨by simpa using h1, y, ?_, by simpa using h3, by simpa using h4, e', by simpa using h5, h6, by simp [h7]; omega, h8⟩
        simp only [cond_false]
        rw [h2, show i + 1 + mpos kc ku r = i + (mpos kc ku r + 1) by omega]
theorem findKey_run {kt : TypeId} {d : TypeDesc} (hu : P.underlying kt = some d) {kv : Value} {l : List MapEntry} {x : Option (Nat × Value)} (h : Instr.findNow d kv l 0 = some x) : (Instr.findKey kt kv l).run P w = .ok x w := by
  simp [Instr.findKey, run_underlying hu, h]
theorem RepK.ofL {vm : Bool} {vcs : List Ct} {v : Value} {us : List U} {vt : TypeId} (hcs : Cs P vt = some (vm, vcs)) (hv : aggM vm v = true) (h : RepL w Z vcs v.cells.toList us) : RepK w Z vm vcs v (ofElem vm us) := by
  cases vm with
  | true =>
    cases v <;> simp [aggM, aggVal] at hv
    exact ⟨_, rfl, h⟩
  | false =>
    obtain ⟨c, rfl⟩ := Cs_false hcs
    refine ⟨c, rfl, ?_⟩
    have hc : v.cells = #[v] := by cases v <;> simp [aggM, aggVal] at hv <;> rfl
    rw [hc] at h
    obtain ⟨v', t, hv, hr, _⟩ := h
    cases hv
    exact hr
theorem zero_rep {e : TypeId} {z : U} {vm : Bool} {vcs : List Ct} (hcs : Cs P e = some (vm, vcs)) (h : zeroM P e vm = some z) : ∃ i zv, P.info? e = some i ∧ i.zero = some zv ∧ RepK w Z vm vcs zv z := by
  unfold zeroM at h
  split at h
  · rename_i i hi
    split at h
    · rename_i zv hzv
      obtain ⟨hb, h⟩ := cond_opt h
      obtain ⟨i', m, cs, zv', h1, h2, h3, h4⟩ := zeroElem_rep (w := w) (Z := Z) h
      rw [hi] at h1
      cases h1
      rw [hzv] at h2
      cases h2
      rw [hcs] at h3
      cases h3
      refine ⟨i, zv, hi, hzv, ?_⟩
      have := RepK.ofL (P := P) hcs hb h4
      cases vm with
      | true =>
        obtain ⟨vs, hv, hr⟩ := this
        exact ⟨vs, hv, hr⟩
      | false =>
        obtain ⟨c, hc, hr⟩ := this
        exact ⟨c, hc, hr⟩
    · cases h
  · cases h
end
theorem put_rep {w : World} {Z : Nat → Prop} {kc : Ct} {vm : Bool} {vcs : List Ct} {kv xv : Value} {ku xu : U} (hs : scalarC kc = true) (hkv : RepC w Z kc kv ku) (hxv : RepK w Z vm vcs xv xu) :
    ∀ {es : List (U × U)} {n : Nat} {l : List MapEntry}, RepEnts w Z false [kc] vm vcs n es l →
      (mhas kc ku es = false → RepEnts w Z false [kc] vm vcs n (mput kc ku xu es) (l ++ [{ key := kv, val := xv, born := n + es.length }]) ∧ (mput kc ku xu es).length = es.length + 1) ∧
      (mhas kc ku es = true → RepEnts w Z false [kc] vm vcs n (mput kc ku xu es) (l.modify (mpos kc ku es) fun e => { e with key := kv, val := xv }) ∧ (mput kc ku xu es).length = es.length)
  | [], n, l, h => by
    have h : l = [] := h
    subst h
    exact ⟨fun _ => ⟨⟨_, [], rfl, rfl, ⟨kc, rfl, hkv⟩, hxv, rfl⟩, rfl⟩, fun h => by cases h⟩
  | (a, x) :: r, n, l, h => by
    obtain ⟨e, t, rfl, hb, ⟨c, hc, hk⟩, hx, ht⟩ := h
    cases hc
    obtain ⟨i1, i2⟩ := put_rep hs hkv hxv ht
    unfold mhas mput mpos
    cases hq : ueq kc ku a with
    | true =>
      refine ⟨fun h => by simp at h, fun _ => ⟨?_, by simp⟩⟩
      simp only [cond_true, List.modify_zero_cons]
      exact ⟨_, t, rfl, hb, ⟨kc, rfl, hkv⟩, hxv, ht⟩
    | false =>
      simp only [Bool.false_or, cond_false]
      refine ⟨fun h => ?_, fun h => ?_⟩
      · obtain ⟨j1, j2⟩ := i1 h
        refine ⟨⟨e, t ++ [_], rfl, hb, ⟨kc, rfl, hk⟩, hx, ?_⟩, by simp [j2]⟩
        simpa [Nat.add_assoc, Nat.add_comm 1] using j1
      · obtain ⟨j1, j2⟩ := i2 h
        refine ⟨⟨e, _, by rw [List.modify_succ_cons], hb, ⟨kc, rfl, hk⟩, hx, j1⟩, by simp [j2]⟩
theorem set_rep {w : World} {Z : Nat → Prop} {km : Bool} {kcs : List Ct} {vm : Bool} {vcs : List Ct} {xv : Value} {xu : U} (hxv : RepK w Z vm vcs xv xu) :
    ∀ {es : List (U × U)} {n : Nat} {l : List MapEntry} (j : Nat), RepEnts w Z km kcs vm vcs n es l → j < es.length →
      RepEnts w Z km kcs vm vcs n (mset xu j es) (l.modify j fun e => { e with val := xv }) ∧ (mset xu j es).length = es.length ∧ l.findIdx? (fun e => (e.born : Int) == ((n + j : Nat) : Int)) = some j
  | [], n, l, j, _, hj => absurd hj (by simp)
  | (a, x) :: r, n, l, 0, h, _ => by
    obtain ⟨e, t, rfl, hb, hk, hx, ht⟩ := h
    refine ⟨⟨{ e with val := xv }, t, by simp, hb, hk, hxv, ht⟩, rfl, ?_⟩
    simp [List.findIdx?_cons, hb]
  | (a, x) :: r, n, l, j + 1, h, hj => by
    obtain ⟨e, t, rfl, hb, hk, hx, ht⟩ := h
    obtain ⟨h1, h2, h3⟩ := set_rep hxv j ht (by simpa using hj)
    refine ⟨⟨e, _, by rw [List.modify_succ_cons], hb, hk, hx, h1⟩, by simp [mset, h2], ?_⟩
    have hne : ((e.born : Int) == ((n + (j + 1) : Nat) : Int)) = false := by simp [hb]; omega
    rw [List.findIdx?_cons, hne]
    rw [show n + (j + 1) = n + 1 + j by omega, h3]
    rfl
section
variable {C : Ctx} {Θ : Anc} {n : Nat} {σ : St} {a : Act} {w : World} {Z : Nat → Prop} {G : Nat → Value} {o : Oper} {K : Act → World → Prop} {Q : Exit → Act → World → Prop} {k : St → Prop}
theorem op_len_map {t kt vt : TypeId} {args : Array Operand} {x : Operand} {r : Nat} {es : Array MapEntry} {clock : Nat} {ts : Array TypeId} (ho : o.op = .call { callee := .builtin .len, args := args, argTypes := ts }) (ha : args.toList = [x]) (ht : ts.toList = [t])
    (hu : C.P.underlying t = some (.map kt vt)) (hx : a.eval x = .map (some r)) (hr : w.heap[r]? = some (.map es clock)) (hk : K (a.put o.dst (.int .i64 (es.size : Int))) w) : o.wp C.P a w K Q := by
  refine wp_value (v := .int .i64 (es.size : Int)) (w' := w) ?_ hk
  have ha' : args = #[x] := by cases args; simp_all
  have ht' : ts = #[t] := by cases ts; simp_all
  subst ha' ht'
  simp [execOp, ho, resolve, invoke, builtin, Builtin.len_, run_underlying hu, hx, run_getMap hr, goInt]
theorem map_at (S : Sim C.P Θ n σ a w Z G) {x i : Operand} {t : TypeId} {kc : Ct} {vt : TypeId} {vm : Bool} {vcs : List Ct} {id : Nat} {es : List (U × U)} {ku : U} (hm : mapOf C.P t = some (kc, vt, vm, vcs)) (hx : σ.ev x = .mp id) (ho : getO σ.objs id = some (.map t es)) (hi : plainU kc (σ.ev i) = some ku) :
    ∃ b ents kt d, C.P.underlying t = some (.map kt vt) ∧ C.P.underlying kt = some d ∧ keyCt C.P kt = some kc ∧ scalarC kc = true ∧ G id = .pointer (some ⟨b, 0, none⟩) ∧ a.eval x = .map (some b) ∧ w.heap[b]? = some (.map ents es.length) ∧ RepEnts w Z false [kc] vm vcs 0 es ents.toList ∧ RepC w Z kc (a.eval i) ku ∧
      Cs C.P kt = some (false, [kc]) ∧ Cs C.P vt = some (vm, vcs) := by
  obtain ⟨kt, h1, h2, h3⟩ := mapOf_some hm
  obtain ⟨d, h4, hd, h5⟩ := keyCt_some h2
  obtain ⟨b, hG, hv⟩ : ∃ b, G id = .pointer (some ⟨b, 0, none⟩) ∧ a.eval x = .map (some b) := by have := S.ev x; rw [hx] at this; exact this
  obtain ⟨b', ents, kt', vt', km, kcs, vm', vcs', g1, g2, g3, g4, g5, g6⟩ := S.obj id _ ho
  rw [hG] at g1
  cases g1
  rw [h1] at g3
  cases g3
  rw [h5] at g4
  cases g4
  rw [h3] at g5
  cases g5
  refine ⟨b, ents, kt, d, h1, h4, h2, ?_, hG, hv, g2, g6, plainU_rep hi (S.ev i), h5, h3⟩
  rcases hd with ⟨k, _, rfl⟩ | ⟨_, rfl⟩ | ⟨_, rfl⟩ <;> rfl
theorem lookup_sound {t : TypeId} {x i : Operand} {ok : Bool} (S : Sim C.P Θ n σ a w Z G) (hd : ∀ t, o.dst = some t → t < n)
    (hk : ∀ σ' a' w' Z' G', k σ' → Sim C.P Θ n σ' a' w' Z' G' → K a' w') (ho : o.op = .lookup t x i ok) (h : op1 C o σ k) : o.wp C.P a w K Q := by
  simp only [op1, ho] at h
  split at h
  · rename_i kc vt vm vcs id hm hx
    split at h
    · rename_i t' es ku z hob hku hz
      obtain ⟨hb, h'⟩ := cond_only h
      clear h
      have htt := Nat.eq_of_beq_eq_true hb
      subst htt
      obtain ⟨b, ents, kt, d, h1, h2, h3, h4, h5, h6, h7, h8, h9, h10, h11⟩ := map_at S hm hx hob hku
      obtain ⟨zi, zv, z1, z2, hzk⟩ := zero_rep (w := w) (Z := Z) h11 hz
      have hch : (Instr.checkKey ents.isEmpty 10000 kt (a.eval i)).run C.P w = .ok () w := checkKey_ok h3 _ _
      have hfin : ∃ v, RepK w Z vm vcs v (mval kc ku z es) ∧ (execOp a.eval o).run C.P w = .ok (.value (if ok then .tuple #[v, .bool (mhas kc ku es)] else v)) w := by
        rcases find_rep h2 h3 h9 z 0 h8 with ⟨g1, g2, g3, _⟩ | ⟨g1, y, g2, g3, _⟩
        · refine ⟨zv, by rw [g3]; exact hzk, ?_⟩
          have hf := findKey_run (w := w) h2 g2
          cases ok <;> simp [execOp, ho, Instr.lookup, run_underlying h1, h6, run_getMap h7, hch, hf, zeroValue, typeInfo, z1, z2, g1]
        · refine ⟨y, g3, ?_⟩
          have hf := findKey_run (w := w) h2 g2
          cases ok <;> simp [execOp, ho, Instr.lookup, run_underlying h1, h6, run_getMap h7, hch, hf, g1]
      obtain ⟨v, hv, hrun⟩ := hfin
      refine wp_value hrun ?_
      cases ok with
      | true => exact hk _ _ _ _ _ h' (S.put (s := .tup [elemSV vm vcs (mval kc ku z es), .val .bool (.b (mhas kc ku es))]) ⟨_, rfl, _, _, rfl, elemSV_rep hv, _, [], rfl, rfl, rfl⟩ hd)
      | false => exact hk _ _ _ _ _ h' (S.put (elemSV_rep hv) hd)
    · cases h
  · cases h
theorem stays_key {kc : Ct} {kv : Value} {u : U} {e : MapEntry} (hs : scalarC kc = true) (h : RepC w Z kc kv u) (he : e.key = kv) : (Instr.keyThatStays e.key kv).run C.P w = .ok kv w := by
  have : Instr.sameBits (9999 + 1) kv kv = true := by
    cases kc with
    | int k => have h : kv = .int k u.int := h.1; subst h; simp [Instr.sameBits]
    | bool => have h : kv = .bool u.bool := h; subst h; simp [Instr.sameBits]
    | str =>
      have h : kv = .string u.str := h.1
      subst h
      have e : (u.str == u.str) = (u.str.data == u.str.data) := rfl
      simp [Instr.sameBits, e]
    | sl m cs => cases hs
    | oth => cases hs
  simp [Instr.keyThatStays, he, this]
theorem aggV_val (hG : ∀ id, (G id).oneCell' = true) {vm : Bool} {s : SV} {v : Value} {us : List U} {vcs : List Ct} (hus : toUs plainU vcs (cellsV s) = some us) (h : aggV vm s = true) (hr : RepSV w Z G s v) : aggM vm v = true := by
  have hc := plainUs_cells hus
  have one : isCell s = true → aggV vm s = !vm → aggM vm v = true := fun h1 h2 => by
    rw [h2] at h
    have hvm : vm = false := by simpa using h
    subst hvm
    have := isCell_one hG h1 hr
    cases v <;> first | rfl | cases this
  cases s with
  | agg cs =>
    obtain ⟨vs, rfl, _⟩ := hr
    have : vm = true := h
    subst this; rfl
  | tup l => simp [cellsV, areCells, isCell] at hc
  | und => simp [cellsV, areCells, isCell] at hc
  | unk => simp [cellsV, areCells, isCell] at hc
  | osl _ _ _ => simp [cellsV, areCells, isCell] at hc
  | _ => exact one rfl rfl
theorem update_sound {t : TypeId} {x i v : Operand} (hkb : Θ.kb = false) (S : Sim C.P Θ n σ a w Z G) (hd : o.dst = none)
    (hk : ∀ σ' a' w' Z' G', k σ' → Sim C.P Θ n σ' a' w' Z' G' → K a' w') (ho : o.op = .mapUpdate t x i v) (h : op1 C o σ k) : o.wp C.P a w K Q := by
  simp only [op1, ho] at h
  split at h
  · rename_i kc vt vm vcs id hm hx
    split at h
    · rename_i t' es ku us hob hku hus
      obtain ⟨hb, h'⟩ := cond_only h
      clear h
      simp only [Bool.and_eq_true] at hb
      obtain ⟨hb, hag⟩ := hb
      have htt := Nat.eq_of_beq_eq_true hb
      subst htt
      obtain ⟨b, ents, kt, d, h1, h2, h3, h4, h5, h6, h7, h8, h9, h10, h11⟩ := map_at S hm hx hob hku
      have hch : (Instr.checkKey false 10000 kt (a.eval i)).run C.P w = .ok () w := checkKey_ok h3 _ _
      obtain ⟨hcv, _⟩ := cellsV_ok S (plainUs_cells hus)
      have hxv : RepK w Z vm vcs (a.eval v) (ofElem vm us) := RepK.ofL h11 (aggV_val S.flat hus hag (S.ev v)) (plainUs_rep hus hcv)
      have hlt : b < w.heap.size := (Array.getElem?_eq_some_iff.1 h7).1
      have hgo : ∀ ents' : Array MapEntry, RepEnts w Z false [kc] vm vcs 0 (mput kc ku (ofElem vm us) es) ents'.toList →
          (execOp a.eval o).run C.P w = .ok .skip { w with heap := w.heap.setIfInBounds b (.map ents' (mput kc ku (ofElem vm us) es).length) } → o.wp C.P a w K Q := by
        intro ents' hrep hrun
        have hg := grown_set w b (.map ents' (mput kc ku (ofElem vm us) es).length)
        have hK : Stays w { w with heap := w.heap.setIfInBounds b (.map ents' (mput kc ku (ofElem vm us) es).length) } Z Z := ⟨fun _ h => h, fun c hc => hg.block c (S.lt c hc) (fun e => by
          cases e; exact (S.free id _ b hob (by rw [h5]; rfl)).1 hc)⟩
        have S' := S.stored (o' := .map t' (mput kc ku (ofElem vm us) es)) hob (by rw [h5]; rfl) hg (by simp) hkb ⟨b, ents', kt, vt, false, [kc], vm, vcs, h5, heap_set h7, h1, h10, h11, RepEnts.mono hK hrep⟩
        refine wp_skip_ hrun ?_
        have hput : a.put o.dst undef = a := by rw [hd]; rfl
        rw [hput]
        exact hk _ _ _ _ _ h' S'
      obtain ⟨p1, p2⟩ := put_rep h4 h9 hxv h8
      rcases find_rep h2 h3 h9 (.i 0) 0 h8 with ⟨g1, g2, _⟩ | ⟨g1, y, g2, g3, g4, e, g5, g6, g7, g8⟩
      · have hf := findKey_run (w := w) h2 g2
        obtain ⟨q1, q2⟩ := p1 g1
        refine hgo (ents.push { key := a.eval i, val := a.eval v, born := es.length }) (by simpa using q1) ?_
        rw [q2]
        simp [execOp, ho, Instr.mapUpdate, run_underlying h1, h6, run_getMap h7, hch, hf, run_setMap _ h7]
      · have hf := findKey_run (w := w) h2 g2
        obtain ⟨q1, q2⟩ := p2 g1
        have hst := stays_key (C := C) (w := w) (Z := Z) h4 h9 g8
        refine hgo (ents.modify (mpos kc ku es) fun e => { e with key := a.eval i, val := a.eval v }) (by simpa using q1) ?_
        rw [q2]
        have hge : ents[mpos kc ku es]? = some e := by simpa using g5
        rw [Nat.zero_add] at hf
        simp [execOp, ho, Instr.mapUpdate, run_underlying h1, h6, run_getMap h7, hch, hf, hge, hst, run_setMap _ h7]
    · cases h
  · cases h
theorem entry_sound {t : TypeId} {x i : Operand} (hkb : Θ.kb = false) (S : Sim C.P Θ n σ a w Z G) (hd : ∀ t, o.dst = some t → t < n)
    (hk : ∀ σ' a' w' Z' G', k σ' → Sim C.P Θ n σ' a' w' Z' G' → K a' w') (ho : o.op = .mapEntry t x i) (h : op1 C o σ k) : o.wp C.P a w K Q := by
  simp only [op1, ho] at h
  split at h
  · rename_i kc vt vm vcs id hm hx
    split at h
    · rename_i t' es ku z hob hku hz
      obtain ⟨hb, h'⟩ := cond_only h
      clear h
      simp only [Bool.and_eq_true] at hb
      obtain ⟨hb, hroom⟩ := hb
      have hroom := Nat.le_of_ble_eq_true hroom
      have htt := Nat.eq_of_beq_eq_true hb
      subst htt
      obtain ⟨b, ents, kt, d, h1, h2, h3, h4, h5, h6, h7, h8, h9, h10, h11⟩ := map_at S hm hx hob hku
      obtain ⟨zi, zv, z1, z2, hzk⟩ := zero_rep (w := w) (Z := Z) h11 hz
      have hpos : mpos kc ku es ≤ maxLen := by
        have : mpos kc ku es ≤ es.length := by
          rcases find_rep h2 h3 h9 z 0 h8 with ⟨_, _, _, g⟩ | ⟨_, _, _, _, g, _⟩ <;> omega
        unfold room at hroom; unfold maxLen; omega
      have hch : (Instr.checkKey false 10000 kt (a.eval i)).run C.P w = .ok () w := checkKey_ok h3 _ _
      have hgo : ∀ (ents' : Array MapEntry) (v : Value), RepEnts w Z false [kc] vm vcs 0 (mput kc ku (mval kc ku z es) es) ents'.toList → RepK w Z vm vcs v (mval kc ku z es) →
          (execOp a.eval o).run C.P w = .ok (.value (.tuple #[v, .int .i64 (mpos kc ku es)])) { w with heap := w.heap.setIfInBounds b (.map ents' (mput kc ku (mval kc ku z es) es).length) } → o.wp C.P a w K Q := by
        intro ents' v hrep hv hrun
        have hg := grown_set w b (.map ents' (mput kc ku (mval kc ku z es) es).length)
        have hK : Stays w { w with heap := w.heap.setIfInBounds b (.map ents' (mput kc ku (mval kc ku z es) es).length) } Z Z := ⟨fun _ h => h, fun c hc => hg.block c (S.lt c hc) (fun e => by
          cases e; exact (S.free id _ b hob (by rw [h5]; rfl)).1 hc)⟩
        have S' := S.stored (o' := .map t' (mput kc ku (mval kc ku z es) es)) hob (by rw [h5]; rfl) hg (by simp) hkb ⟨b, ents', kt, vt, false, [kc], vm, vcs, h5, heap_set h7, h1, h10, h11, RepEnts.mono hK hrep⟩
        refine wp_value hrun ?_
        exact hk _ _ _ _ _ h' (S'.put (s := .tup [elemSV vm vcs (mval kc ku z es), .val (.int .i64) (.i (mpos kc ku es))]) ⟨_, rfl, _, _, rfl, elemSV_rep (RepK.mono hK hv), _, [], rfl, rep_len hpos, rfl⟩ hd)
      rcases find_rep h2 h3 h9 z 0 h8 with ⟨g1, g2, g3, g4⟩ | ⟨g1, y, g2, g3, g4, e, g5, g6, g7, g8⟩
      · have hf := findKey_run (w := w) h2 g2
        obtain ⟨q1, q2⟩ := (put_rep h4 h9 hzk h8).1 g1
        rw [g3] at hgo
        refine hgo (ents.push { key := a.eval i, val := zv, born := es.length }) zv (by simpa using q1) hzk ?_
        rw [q2, g4]
        simp [execOp, ho, Instr.mapEntry, run_underlying h1, h6, run_getMap h7, hch, hf, zeroValue, typeInfo, z1, z2, run_setMap _ h7, goInt]
      · have hf := findKey_run (w := w) h2 g2
        obtain ⟨q1, q2⟩ := (put_rep h4 h9 g3 h8).2 g1
        have hst := stays_key (C := C) (w := w) (Z := Z) h4 h9 g8
        have hge : ents[mpos kc ku es]? = some e := by simpa using g5
        rw [Nat.zero_add] at hf
        refine hgo (ents.modify (mpos kc ku es) fun e => { e with key := a.eval i }) y ?_ g3 ?_
        · have : (ents.modify (mpos kc ku es) fun e => { e with key := a.eval i }) = (ents.modify (mpos kc ku es) fun e => { e with key := a.eval i, val := y }) := by
            apply Array.ext
            · simp
            · intro j hj1 hj2
              simp only [Array.getElem_modify]
              split
              · rename_i hj
                subst hj
                have hjl : mpos kc ku es < ents.size := by simpa using hj1
                have : ents[mpos kc ku es]'hjl = e := by
                  have := Array.getElem?_eq_getElem (xs := ents) (i := mpos kc ku es) hjl
                  rw [hge] at this
                  exact (Option.some.inj this).symm
                rw [this, ← g6]
              · rfl
          rw [this]
          simpa using q1
        · rw [q2]
          simp [execOp, ho, Instr.mapEntry, run_underlying h1, h6, run_getMap h7, hch, hf, hge, hst, run_setMap _ h7, goInt, g7]
    · cases h
  · cases h
theorem entryStore_sound {t : TypeId} {x i v : Operand} (hkb : Θ.kb = false) (S : Sim C.P Θ n σ a w Z G) (hd : o.dst = none)
    (hk : ∀ σ' a' w' Z' G', k σ' → Sim C.P Θ n σ' a' w' Z' G' → K a' w') (ho : o.op = .entryStore t x i v) (h : op1 C o σ k) : o.wp C.P a w K Q := by
  simp only [op1, ho] at h
  split at h
  · rename_i kc vt vm vcs id kd j hm hx hi
    split at h
    · rename_i t' es us hob hus
      obtain ⟨hb, h'⟩ := cond_only h
      clear h
      simp only [Bool.and_eq_true] at hb
      obtain ⟨⟨hb, hag⟩, hj⟩ := hb
      obtain ⟨hj0, hj1⟩ := of_decide_eq_true hj
      have htt := Nat.eq_of_beq_eq_true hb
      subst htt
      obtain ⟨kt, h1, h2, h3⟩ := mapOf_some hm
      obtain ⟨b, hG, hv⟩ : ∃ b, G id = .pointer (some ⟨b, 0, none⟩) ∧ a.eval x = .map (some b) := by have := S.ev x; rw [hx] at this; exact this
      obtain ⟨b', ents, kt', vt', km, kcs, vm', vcs', g1, g2, g3, g4, g5, g6⟩ := S.obj id _ hob
      rw [hG] at g1
      cases g1
      rw [h1] at g3
      cases g3
      rw [h3] at g5
      cases g5
      have hi' : a.eval i = .int kd j.int := by have := S.ev i; rw [hi] at this; exact this.1
      obtain ⟨hcv, _⟩ := cellsV_ok S (plainUs_cells hus)
      have hxv : RepK w Z vm vcs (a.eval v) (ofElem vm us) := RepK.ofL h3 (aggV_val S.flat hus hag (S.ev v)) (plainUs_rep hus hcv)
      obtain ⟨p1, p2, p3⟩ := set_rep hxv j.int.toNat g6 (by omega)
      have hg := grown_set w b (.map (ents.modify j.int.toNat fun e => { e with val := a.eval v }) es.length)
      have hK : Stays w { w with heap := w.heap.setIfInBounds b (.map (ents.modify j.int.toNat fun e => { e with val := a.eval v }) es.length) } Z Z := ⟨fun _ h => h, fun c hc => hg.block c (S.lt c hc) (fun e => by
        cases e; exact (S.free id _ b hob (by rw [hG]; rfl)).1 hc)⟩
      have S' := S.stored (o' := .map t' (mset (ofElem vm us) j.int.toNat es)) hob (by rw [hG]; rfl) hg (by simp) hkb ⟨b, ents.modify j.int.toNat fun e => { e with val := a.eval v }, kt, vt, km, kcs, vm, vcs, hG, by rw [p2]; exact heap_set g2, h1, g4, h3, RepEnts.mono hK (by simpa using p1)⟩
      have hrun : (execOp a.eval o).run C.P w = .ok .skip { w with heap := w.heap.setIfInBounds b (.map (ents.modify j.int.toNat fun e => { e with val := a.eval v }) es.length) } := by
        have hfi : ents.findIdx? (fun e => (e.born : Int) == j.int) = some j.int.toNat := by
          have : ((0 + j.int.toNat : Nat) : Int) = j.int := by omega
          rw [this] at p3
          rw [← p3]
          cases ents
          simp
        simp [execOp, ho, Instr.entryStore, hv, hi', run_getMap g2, asInt, asIntOf, hfi, run_setMap _ g2]
      refine wp_skip_ hrun ?_
      have hput : a.put o.dst undef = a := by rw [hd]; rfl
      rw [hput]
      exact hk _ _ _ _ _ h' S'
    · cases h
  · cases h
end
end Go.Den

namespace Go.Den
open Go Go.RowKit
section
variable {C : Ctx} {Θ : Anc} {n : Nat} {σ : St} {a : Act} {w : World} {Z : Nat → Prop} {G : Nat → Value} {o : Oper} {K : Act → World → Prop} {Q : Exit → Act → World → Prop} {k : St → Prop}
theorem lst_rep (S : Sim C.P Θ n σ a w Z G) {x : Option Operand} {v : Option Int} (h : lst σ x = some v) : (x = none ∧ v = none) ∨ ∃ y kd i, x = some y ∧ v = some i ∧ a.eval y = .int kd i := by
  unfold lst at h
  split at h
  · injection h with h; exact .inl ⟨rfl, h.symm⟩
  · rename_i y
    split at h
    · rename_i kd u hu
      injection h with h
      have := S.ev y
      rw [hu] at this
      exact .inr ⟨y, kd, u.int, rfl, h.symm, this.1⟩
    · cases h
theorem run_bounds {P : Program} {isSlice : Bool} {len cap : Nat} {lo hi mx : Option Operand} {l h m : Option Int} (hcap : len ≤ cap)
    (hl : (lo = none ∧ l = none) ∨ ∃ y kd i, lo = some y ∧ l = some i ∧ a.eval y = .int kd i) (hh : (hi = none ∧ h = none) ∨ ∃ y kd i, hi = some y ∧ h = some i ∧ a.eval y = .int kd i)
    (hm : (mx = none ∧ m = none) ∨ ∃ y kd i, mx = some y ∧ m = some i ∧ a.eval y = .int kd i) (hmh : m.isSome = true → h.isSome = true)
    (hb : 0 ≤ l.getD 0 ∧ l.getD 0 ≤ h.getD len ∧ h.getD len ≤ m.getD (h.getD len) ∧ m.getD (h.getD len) ≤ len) :
    (Instr.sliceBounds isSlice len cap (lo.map a.eval) (hi.map a.eval) (mx.map a.eval)).run P w = .ok ((l.getD 0).toNat, (h.getD len).toNat, (m.getD cap).toNat) w := by
  obtain ⟨b1, b2, b3, b4⟩ := hb
  have bound : ∀ (k : IntKind) (i : Int) (y : Nat) (code : BoundsCode), 0 ≤ i → i ≤ y → (Instr.sliceBound (.int k i) y code).run P w = .ok i.toNat w := fun k i y code h0 h1 => run_sliceBound w k i y code h0 h1
  rcases hm with ⟨rfl, rfl⟩ | ⟨ym, km, im, rfl, rfl, em⟩
  · simp only [Option.getD_none, Option.map_none] at *
    rcases hh with ⟨rfl, rfl⟩ | ⟨yh, kh, ih, rfl, rfl, eh⟩
    · simp only [Option.getD_none, Option.map_none] at *
      rcases hl with ⟨rfl, rfl⟩ | ⟨yl, kl, il, rfl, rfl, el⟩
      · simp [Instr.sliceBounds]
      · simp only [Option.getD_some, Option.map_some] at *
        simp [Instr.sliceBounds, el, bound kl il len _ b1 b2]
    · simp only [Option.getD_some, Option.map_some] at *
      have c1 : ih ≤ (cap : Int) := by omega
      rcases hl with ⟨rfl, rfl⟩ | ⟨yl, kl, il, rfl, rfl, el⟩
      · simp only [Option.getD_none, Option.map_none] at *
        simp [Instr.sliceBounds, eh, bound kh ih cap _ (by omega) c1]
      · simp only [Option.getD_some, Option.map_some] at *
        simp [Instr.sliceBounds, eh, el, bound kh ih cap _ (by omega) c1, bound kl il ih.toNat _ b1 (by omega)]
  · rcases hh with ⟨rfl, rfl⟩ | ⟨yh, kh, ih, rfl, rfl, eh⟩
    · exact absurd (hmh rfl) (by simp)
    · simp only [Option.getD_some, Option.map_some] at *
      have c1 : im ≤ (cap : Int) := by omega
      rcases hl with ⟨rfl, rfl⟩ | ⟨yl, kl, il, rfl, rfl, el⟩
      · simp only [Option.getD_none, Option.map_none] at *
        simp [Instr.sliceBounds, em, eh, bound km im cap _ (by omega) c1, bound kh ih im.toNat _ (by omega) (by omega)]
      · simp only [Option.getD_some, Option.map_some] at *
        simp [Instr.sliceBounds, em, eh, el, bound km im cap _ (by omega) c1, bound kh ih im.toNat _ (by omega) (by omega), bound kl il ih.toNat _ b1 (by omega)]
theorem slice_sound {t e : TypeId} {x : Operand} {lo hi mx : Option Operand} {l h m : Option Int} {mm : Bool} {cs : List Ct} {u : U} (S : Sim C.P Θ n σ a w Z G) (hd : ∀ t, o.dst = some t → t < n)
    (hk : ∀ σ' a' w' Z' G', k σ' → Sim C.P Θ n σ' a' w' Z' G' → K a' w') (ho : o.op = .slice t x lo hi mx) (hu : C.P.underlying t = some (.slice e)) (hs : sizeT C.P e = some cs.length)
    (hl : lst σ lo = some l) (hh : lst σ hi = some h) (hm : lst σ mx = some m) (hmh : m.isSome = true → h.isSome = true) (hx : σ.ev x = .val (.sl mm cs) u)
    (hb : 0 ≤ l.getD 0 ∧ l.getD 0 ≤ h.getD u.list.length ∧ h.getD u.list.length ≤ m.getD (h.getD u.list.length) ∧ m.getD (h.getD u.list.length) ≤ u.list.length)
    (hkk : k (setD σ o.dst (.val (.sl mm cs) (.l ((u.list.take (h.getD u.list.length).toNat).drop (l.getD 0).toNat))))) : o.wp C.P a w K Q := by
  have hv := S.ev x
  rw [hx] at hv
  obtain ⟨A, c, hv, hc, hcm, hel⟩ := hv
  have hbr := run_bounds (P := C.P) (isSlice := true) (w := w) hc (lst_rep S hl) (lst_rep S hh) (lst_rep S hm) hmh hb
  obtain ⟨b1, b2, b3, b4⟩ := hb
  have hm' : (m.getD c).toNat = c ∨ (∃ im, m = some im ∧ (m.getD c).toNat = im.toNat) := by cases m with
    | none => left; simp
    | some im => right; exact ⟨im, rfl, rfl⟩
  refine wp_value (v := .slice (if (m.getD c).toNat = (l.getD 0).toNat then A else A.map (·.add ((l.getD 0).toNat * cs.length))) ((h.getD u.list.length).toNat - (l.getD 0).toNat) ((m.getD c).toNat - (l.getD 0).toNat)) (w' := w) ?_ (hk _ _ _ _ _ hkk (S.put ?_ hd))
  · simp [execOp, ho, hv, Instr.sliceAt, Instr.slice, run_underlying hu, hbr, run_size hs]
  · have hlen : ((u.list.take (h.getD u.list.length).toNat).drop (l.getD 0).toNat).length = (h.getD u.list.length).toNat - (l.getD 0).toNat := by
      simp only [List.length_drop, List.length_take]; omega
    have hcapm : (h.getD u.list.length).toNat ≤ (m.getD c).toNat := by
      cases m with
      | none => simp only [Option.getD_none] at *; omega
      | some im => simp only [Option.getD_some] at *; omega
    refine ⟨_, _, by rw [U.list_l, hlen], by rw [U.list_l, hlen]; omega, ?_, fun i hi => ?_⟩
    · cases m with
      | none => simp only [Option.getD_none] at *; omega
      | some im => simp only [Option.getD_some] at *; omega
    rw [U.list_l, hlen] at hi
    obtain ⟨b, off, hA, hZ, hr⟩ := hel ((l.getD 0).toNat + i) (by omega)
    rw [if_neg (by omega), hA]
    refine ⟨b, off + (l.getD 0).toNat * cs.length, by simp [addr_add], hZ, ?_⟩
    have hat : U.at (U.l ((u.list.take (h.getD u.list.length).toNat).drop (l.getD 0).toNat)).list i = U.at u.list ((l.getD 0).toNat + i) := by
      rw [U.list_l, at_getElem _ _ (by rw [hlen]; exact hi), at_getElem _ _ (by omega)]
      simp
    rw [hat, Nat.add_assoc, ← Nat.add_mul]
    exact hr
theorem sliceOwn_sound {t e e' : TypeId} {x : Operand} {lo hi mx : Option Operand} {l : Option Int} {m : Bool} {cs : List Ct} {id : Nat} {xs : List U} (S : Sim C.P Θ n σ a w Z G) (hd : ∀ t, o.dst = some t → t < n)
    (hk : ∀ σ' a' w' Z' G', k σ' → Sim C.P Θ n σ' a' w' Z' G' → K a' w') (ho : o.op = .slice t x lo hi mx) (hu : C.P.underlying t = some (.slice e)) (hs : sizeT C.P e = some cs.length)
    (hl : lst σ lo = some l) (hh : lst σ hi = some none) (hm : lst σ mx = some none) (hx : σ.ev x = .own id) (hob : getO σ.objs id = some (.arr e' xs)) (hcs : Cs C.P e' = some (m, cs))
    (hb : 0 ≤ l.getD 0 ∧ l.getD 0 ≤ xs.length) (hkk : k (setD σ o.dst (.osl id (l.getD 0).toNat cs.length))) : o.wp C.P a w K Q := by
  have hv : a.eval x = G id := by have := S.ev x; rw [hx] at this; exact this
  obtain ⟨m2, cs2, vs, h1, h2, h3⟩ := S.obj id _ hob
  obtain ⟨A, c, hG, hc⟩ : ∃ A c, G id = .slice A xs.length c ∧ xs.length ≤ c := by
    rcases h2.2 with ⟨h4, h5⟩ | ⟨g, cap, cur, h4, _, _, h6, _⟩
    · exact ⟨none, 0, by rw [h4, h5], by omega⟩
    · exact ⟨_, cap, h4, h6⟩
  rw [hG] at hv
  have hbr := run_bounds (P := C.P) (isSlice := true) (w := w) hc (lst_rep S hl) (lst_rep S hh) (lst_rep S hm) (by simp) (by simp only [Option.getD_none]; omega)
  refine wp_value (v := slFrom (l.getD 0).toNat cs.length (G id)) (w' := w) ?_ (hk _ _ _ _ _ hkk (S.put (s := .osl _ _ _) rfl hd))
  simp [execOp, ho, hv, Instr.sliceAt, Instr.slice, run_underlying hu, hbr, run_size hs, slFrom, hG]
theorem RepElems.take1 {w : World} {Z : Nat → Prop} {c : Ct} : ∀ {us : List U} {vs : List Value}, RepElems w Z false [c] us vs → ∀ n, RepElems w Z false [c] (us.take n) (vs.take n)
  | [], vs, h, n => by have h : vs = [] := h; subst h; simp; exact rfl
  | u :: us, vs, h, 0 => by simp; exact rfl
  | u :: us, vs, h, n + 1 => by
    obtain ⟨p, q, rfl, hp, hq⟩ := h
    have hl := hp.length
    match p, hl with
    | [x], _ => exact ⟨[x], q.take n, rfl, hp, hq.take1 n⟩
theorem RepElems.drop1 {w : World} {Z : Nat → Prop} {c : Ct} : ∀ {us : List U} {vs : List Value}, RepElems w Z false [c] us vs → ∀ n, RepElems w Z false [c] (us.drop n) (vs.drop n)
  | [], vs, h, n => by have h : vs = [] := h; subst h; simp; exact rfl
  | u :: us, vs, h, 0 => h
  | u :: us, vs, h, n + 1 => by
    obtain ⟨p, q, rfl, hp, hq⟩ := h
    have hl := hp.length
    match p, hl with
    | [x], _ => exact hq.drop1 n
theorem source_cells {P : Program} (S : Sim P Θ n σ a w Z G) {s : SV} {v : Value} {ys : List U} (hs : RepSV w Z G s v) (h : source P σ.objs false [.int .u8] false s = some ys) :
    ∃ A c news, v = .slice A ys.length c ∧ RepElems w Z false [.int .u8] ys news ∧ (ys ≠ [] → ∃ b o, A = some ⟨b, o, none⟩ ∧ ∀ j u, news[j]? = some u → w.cell? ⟨b, o + j, none⟩ = some u) := by
  unfold source at h
  simp only at h
  split at h
  · rename_i u hu
    injection h with h
    subst h
    have plain : RepC w Z (.sl false [.int .u8]) v u → ∃ A c news, v = .slice A u.list.length c ∧ RepElems w Z false [.int .u8] u.list news ∧ (u.list ≠ [] → ∃ b o, A = some ⟨b, o, none⟩ ∧ ∀ j x, news[j]? = some x → w.cell? ⟨b, o + j, none⟩ = some x) := by
      rintro ⟨A, c, rfl, hc, _, hk'⟩
      cases hl : u.list with
      | nil => exact ⟨A, c, [], rfl, rfl, fun h => absurd rfl h⟩
      | cons x l =>
        rw [← hl]
        obtain ⟨b, o, hA, _⟩ := hk' 0 (by simp [hl])
        subst hA
        obtain ⟨vs, h1, h2⟩ := elems_values (us := u.list) (o := o) (b := b) (fun k hkk => by
          obtain ⟨b', o', hA, _, hr⟩ := hk' k hkk
          injection hA with hA
          injection hA with hb ho
          subst hb ho
          exact hr)
        exact ⟨_, c, vs, rfl, h1, fun _ => ⟨b, o, rfl, h2⟩⟩
    unfold toU at hu
    split at hu
    · rename_i id
      split at hu
      · rename_i m1 cs1 e xs heq ho
        split at hu
        · rename_i m' cs' hcs
          split at hu
          · rename_i hb
            have hb := Ct.beq_eq hb
            cases hb
            cases heq
            injection hu with hu
            subst hu
            obtain ⟨m2, cs2, vs, h1, h2, h3⟩ := S.obj id _ ho
            rw [hcs] at h1
            cases h1
            have hs : v = G id := hs
            subst hs
            rcases h2.2 with ⟨h4, h5⟩ | ⟨g, cap, cur, h4, _⟩
            · have hx : xs = [] := List.eq_nil_of_length_eq_zero h5
              subst hx
              exact ⟨none, 0, vs, h4, h3, fun h => absurd rfl h⟩
            · have hc := World.ownsRow.cells h2 (g := g) (by rw [h4]; rfl)
              exact ⟨_, cap, vs, h4, h3, fun _ => ⟨g, 0, rfl, fun j u hj => by have := hc j u hj; rwa [addr_add] at this⟩⟩
          · cases hu
        · cases hu
      · cases hu
    · exact plain (plainU_rep hu hs)
  · cases h
theorem Sim.setO_same {P : Program} (S : Sim P Θ n σ a w Z G) {id : Nat} {ob : Obj} (h : getO σ.objs id = some ob) : Sim P Θ n (σ.setO id ob) a w Z G := by
  have he : ∀ j, getO (σ.setO id ob).objs j = getO σ.objs j := by
    intro j
    show getO ((id, ob) :: dropO σ.objs id) j = _
    rw [getO_cons]
    by_cases e : id = j
    · subst e; rw [if_pos rfl, h]
    · rw [if_neg e, getO_dropO_other _ (Ne.symm e)]
  exact { size := S.size, calm := S.calm, slot := S.slot, obj := fun i o' hi => S.obj i o' (by rw [← he i]; exact hi), sep := fun i i' o1 o2 b h1 h2 => S.sep i i' o1 o2 b (by rw [← he i]; exact h1) (by rw [← he i']; exact h2),
          free := fun i o1 b h1 => S.free i o1 b (by rw [← he i]; exact h1), keep := fun i o1 b h1 => S.keep i o1 b (by rw [← he i]; exact h1), nlt := S.nlt, lt := S.lt, fut := S.fut, new := S.new, sub := S.sub, flat := S.flat, odd := S.odd, row := S.row }
theorem slFrom_zero (z : Nat) (v : Value) (hv : ∀ A n c, v = .slice A n c → A = none ∨ ∃ b o, A = some ⟨b, o, none⟩) : slFrom 0 z v = v := by
  cases v <;> try rfl
  rename_i A n c
  show Value.slice (if c = 0 then A else A.map (·.add (0 * z))) (n - 0) (c - 0) = _
  have : A.map (·.add (0 * z)) = A := by
    rcases hv _ _ _ rfl with rfl | ⟨b, o, rfl⟩
    · rfl
    · simp [addr_add]
  rw [this]; simp
theorem copy_sound {t tx e : TypeId} {p q : Operand} {args : Array Operand} {ts : Array TypeId} {id j : Nat} {ys : List U} (S : Sim C.P Θ n σ a w Z G) (hd : ∀ t, o.dst = some t → t < n)
    (hk : ∀ σ' a' w' Z' G', k σ' → Sim C.P Θ n σ' a' w' Z' G' → K a' w') (ho : o.op = .call { callee := .builtin .copy, args := args, argTypes := ts }) (ha : args.toList = [p, q]) (ht : ts.toList = [t, tx])
    (hka : Θ.ka = false) (hu : C.P.underlying t = some (.slice e)) (hcs : Cs C.P e = some (false, [.int .u8])) (hsz : sizeT C.P e = some 1)
    (hsrc : source C.P σ.objs false [.int .u8] false (σ.ev q) = some ys) (hdst : a.eval p = slFrom j 1 (G id)) (h : opCopy C o e id j ys σ k) : o.wp C.P a w K Q := by
  have ha' : args = #[p, q] := by cases args; simp_all
  have ht' : ts = #[t, tx] := by cases ts; simp_all
  subst ha' ht'
  have hsz' : (C.P.info? e).map (·.size) = some 1 := by
    unfold sizeT at hsz
    cases hi : C.P.info? e with
    | none => rw [hi] at hsz; cases hsz
    | some i => rw [hi] at hsz; simpa using hsz
  unfold opCopy at h
  split at h
  · rename_i e' xs hob
    obtain ⟨hb, h⟩ := cond_only h
    simp only [Bool.and_eq_true] at hb
    have hee := Nat.eq_of_beq_eq_true hb.1
    subst hee
    have hj : j ≤ xs.length := of_decide_eq_true hb.2
    obtain ⟨m2, cs2, vs, g1, g2, g3⟩ := S.obj id _ hob
    rw [hcs] at g1
    cases g1
    obtain ⟨A, c, news, hq, hnews, hcells⟩ := source_cells (ys := ys) S (S.ev q) hsrc
    have hnl : news.length = ys.length := by have := hnews.length; simpa using this
    have hvl : vs.length = xs.length := by have := g3.length; simpa using this
    have htl : (ys.take (xs.length - j)).length = min (xs.length - j) ys.length := List.length_take
    have hmax : xs.length ≤ maxLen := (S.obj id _ hob).ok.1
    have fin : ∀ w', (Builtin.copy_ #[t, tx] o.type #[a.eval p, a.eval q]).run C.P w = .ok (goInt (ys.take (xs.length - j)).length) w' → Sim C.P Θ n (σ.setO id (.arr e' (overU xs j ys))) a w' Z G → o.wp C.P a w K Q := by
      intro w' hr S'
      refine wp_value (v := goInt (ys.take (xs.length - j)).length) (w' := w') ?_ (hk _ _ _ _ _ h (S'.put (s := .val _ _) ?_ hd))
      · simp [execOp, ho, resolve, invoke, builtin, hr]
      · refine ⟨rfl, ?_, ?_⟩
        · show (-(2 : Int) ^ 63) ≤ _
          simp only [U.int_i]; omega
        · show (((ys.take (xs.length - j)).length : Nat) : Int) ≤ 9223372036854775807
          have : (maxLen : Nat) = 9223372036854775807 := by decide
          omega
    obtain ⟨gA, gc, hGid⟩ : ∃ gA gc, G id = .slice gA xs.length gc := by
      rcases g2.2 with ⟨h4, h5⟩ | ⟨g, cap, cur, h4, _⟩
      · exact ⟨none, 0, by rw [h4, h5]⟩
      · exact ⟨_, cap, h4⟩
    rw [hGid] at hdst
    have hdst : a.eval p = .slice (if gc = j then gA else gA.map (·.add (j * 1))) (xs.length - j) (gc - j) := hdst
    by_cases hz : min (xs.length - j) ys.length = 0
    · have htk : ys.take (xs.length - j) = [] := List.eq_nil_of_length_eq_zero (by rw [htl]; exact hz)
      have hov : overU xs j ys = xs := by unfold overU; rw [htk]; simp
      have hrun := run_copy_none (P := C.P) w t tx o.type e' (if gc = j then gA else gA.map (·.add (j * 1))) A (xs.length - j) (gc - j) ys.length c hu hsz' (by show min ys.length (xs.length - j) = 0; omega)
      refine fin w ?_ ?_
      · rw [hdst, hq, htk]; exact hrun
      · rw [hov]; exact S.setO_same hob
    · rcases g2.2 with ⟨h4, h5⟩ | ⟨g, cap, cur, h4, h40, h5, h6, h7, h8, h9⟩
      · omega
      rw [hGid] at h4
      injection h4 with hA0 _ hc0
      subst hA0 hc0
      have hyne : ys ≠ [] := fun e => by rw [e] at hz; simp at hz
      obtain ⟨b, off, rfl, hcell⟩ := hcells hyne
      have hjc : ¬ gc = j := by omega
      rw [if_neg hjc] at hdst
      have hdst : a.eval p = .slice (some ⟨g, j, none⟩) (xs.length - j) (gc - j) := by
        rw [hdst]; simp [addr_add]
      have hcl : (news.take (xs.length - j)).length = min (xs.length - j) ys.length := by rw [List.length_take, hnl]
      have h1 : ∀ v ∈ news.take (xs.length - j), v.oneCell' = true := fun v hv => hnews.one v (List.mem_of_mem_take hv)
      have hat : ∀ i, i < gc → (w.cell? ⟨g, i, none⟩).isSome = true := fun i hi => by
        have : i < cur.size := by rw [h8]; simpa using hi
        simp [World.cell?, h5, this]
      have hfr : ∀ i, w.frozen? ⟨g, i, none⟩ = false := fun i => by simp [World.frozen?, h5]
      have hrun := run_copy_cells (P := C.P) w t tx o.type e' g j (xs.length - j) (gc - j) ⟨b, off, none⟩ ys.length c (news.take (xs.length - j)) hu hsz' (by rw [hcl]; show _ = min ys.length (xs.length - j); omega)
        (fun i v hi => by
          rw [addr_add]
          refine hcell i v ?_
          rw [List.getElem?_take] at hi
          split at hi
          · exact hi
          · cases hi) (fun i hi => hat _ (by omega)) (fun i _ => hfr _) h1
      have hg := setCells_grown g (news.take (xs.length - j)) j w
      obtain ⟨cur', k1, k2, k3⟩ := setCells_block g e' (news.take (xs.length - j)) j w cur h5 (by rw [hcl, h8]; simp; omega)
      have hbk : blk (G id) = some g := by rw [hGid]; rfl
      have hK : Stays w (w.setCells g j (news.take (xs.length - j))) Z Z := ⟨fun _ h => h, fun c hc => hg.block c (S.lt c hc) (fun e => by
        cases e; exact (S.free id _ g hob hbk).1 hc)⟩
      have hel : RepElems w Z false [.int .u8] (overU xs j ys) (vs.take j ++ news.take (xs.length - j) ++ vs.drop (j + (news.take (xs.length - j)).length)) := by
        have e1 : (news.take (xs.length - j)).length = (ys.take (xs.length - j)).length := by rw [hcl, htl]
        rw [e1]
        exact ((g3.take1 j).app (hnews.take1 _)).app (g3.drop1 _)
      have hol : (overU xs j ys).length = xs.length := by
        have := hel.length
        simp only [List.length_append, List.length_take, List.length_drop, List.length_cons, List.length_nil, Nat.mul_one] at this
        omega
      refine fin _ ?_ (S.stored hob hbk hg (setCells_plain g _ _ w).2.2.2 hka ⟨false, [.int .u8], _, hcs, ?_, hel.mono hK⟩)
      · rw [hdst, hq, htl, ← hcl]; exact hrun
      · rw [hol, hGid]
        have hel' := hel.length
        refine ⟨by rw [hel', hol], .inr ⟨g, gc, cur', rfl, Nat.zero_le _, k1, h6, h7, by rw [k3, h8], ?_⟩⟩
        rw [k2]
        have hcurl : cur.toList.length = gc := by simp [h8]
        have hcur : cur.toList = vs ++ cur.toList.drop xs.length := by
          have h9 : cur.toList.take xs.length = vs := by simpa using h9
          rw [← h9, List.take_append_drop]
        generalize cur.toList.drop xs.length = tl at hcur
        rw [hcur]
        have hle : j + (news.take (xs.length - j)).length ≤ vs.length := by rw [hcl, hvl]; omega
        rw [List.take_append_of_le_length (l₁ := vs) (l₂ := tl) (i := j) (by omega), List.drop_append_of_le_length hle, ← List.append_assoc]
        have htot : (vs.take j ++ news.take (xs.length - j) ++ vs.drop (j + (news.take (xs.length - j)).length)).length = xs.length * [Ct.int IntKind.u8].length := by rw [hel', hol]
        rw [← htot, List.take_left]
  · cases h
theorem nth_val {l : List SV} {i : Nat} {c : Ct} {u : U} (h : nth .unk l i = .val c u) : i < l.length := by
  induction l generalizing i with
  | nil => simp at h
  | cons x r ih => cases i with
    | zero => simp
    | succ i => have := ih (i := i) h; simp; omega
theorem ext_sound {f : FuncId} {cf : Operand} {args : Array Operand} {ts : Array TypeId} {e : Ext} (he : ExtOk C.P f e) (hkb : Θ.kb = false) (S : Sim C.P Θ n σ a w Z G) (hd : ∀ t, o.dst = some t → t < n)
    (hk : ∀ σ' a' w' Z' G', k σ' → Sim C.P Θ n σ' a' w' Z' G' → K a' w')
    (ho : o.op = .call { callee := .value cf, args := args, argTypes := ts }) (hev : a.eval cf = .func (.func f) #[] #[]) (h : opExt o.dst e (evs σ args.toList) σ k) : o.wp C.P a w K Q := by
  unfold opExt at h
  split at h
  · rename_i id off hargs
    obtain ⟨x, hx, hxv⟩ : ∃ x, args.toList = [x] ∧ σ.ev x = .ptr id off := by
      cases hl : args.toList with
      | nil => rw [hl] at hargs; cases hargs
      | cons x r => cases r with
        | nil => rw [hl] at hargs; exact ⟨x, rfl, by injection hargs⟩
        | cons y s => rw [hl] at hargs; simp [evs] at hargs
    have hx' : args = #[x] := by apply Array.ext'; simpa using hx
    obtain ⟨b, hG, hv⟩ : ∃ b, G id = .pointer (some ⟨b, 0, none⟩) ∧ a.eval x = .pointer (some ⟨b, off, none⟩) := by have := S.ev x; rw [hxv] at this; exact this
    split at h
    · rename_i cells hob
      split at h
      · rename_i u hc
        obtain ⟨b', ty, cur, h1, h2, h3⟩ := S.obj id _ hob
        rw [hG] at h1
        cases h1
        have hcl : cells.length = cur.size := by have := h3.length; simpa using this
        have hlt : off < cur.size := by have := nth_val hc; omega
        have hr := h3.nth off cur[off] (by simp)
        rw [hc] at hr
        have hcell : cur[off] = .int .i64 u.int := hr.1
        have hw : w.cell? ⟨b, off, none⟩ = some (.int .i64 u.int) := by rw [cell_of_row w b off cur ty (0, 0) h2, Array.getElem?_eq_getElem hlt, hcell]
        refine wp_value (v := .int .i64 u.int) (w' := w) ?_ (hk _ _ _ _ _ h (S.put (by rw [← hcell]; exact hr) hd))
        have := he _ _ _ hw
        simp [execOp, ho, resolve, hev, Deferred.ofValue, invoke, hx', hv, this]
      · cases h
    · cases h
  · rename_i id off y hargs
    obtain ⟨x, x2, hx, hxv, hxv2⟩ : ∃ x x2, args.toList = [x, x2] ∧ σ.ev x = .ptr id off ∧ σ.ev x2 = .val (.int .i64) y := by
      cases hl : args.toList with
      | nil => rw [hl] at hargs; cases hargs
      | cons x r => cases r with
        | nil => rw [hl] at hargs; simp [evs] at hargs
        | cons x2 s => cases s with
          | nil => rw [hl] at hargs; simp only [evs, List.cons.injEq, and_true] at hargs; exact ⟨x, x2, rfl, hargs.1, hargs.2⟩
          | cons y s => rw [hl] at hargs; simp [evs] at hargs
    have hx' : args = #[x, x2] := by apply Array.ext'; simpa using hx
    obtain ⟨b, hG, hv⟩ : ∃ b, G id = .pointer (some ⟨b, 0, none⟩) ∧ a.eval x = .pointer (some ⟨b, off, none⟩) := by have := S.ev x; rw [hxv] at this; exact this
    have hv2 : a.eval x2 = .int .i64 y.int := by have := S.ev x2; rw [hxv2] at this; exact this.1
    split at h
    · rename_i cells hob
      split at h
      · rename_i u hc
        obtain ⟨b', ty, cur, h1, h2, h3⟩ := S.obj id _ hob
        rw [hG] at h1
        cases h1
        have hcl : cells.length = cur.size := by have := h3.length; simpa using this
        have hlt : off < cur.size := by have := nth_val hc; omega
        have hr := h3.nth off cur[off] (by simp)
        rw [hc] at hr
        have hcell : cur[off] = .int .i64 u.int := hr.1
        have hw : w.cell? ⟨b, off, none⟩ = some (.int .i64 u.int) := by rw [cell_of_row w b off cur ty (0, 0) h2, Array.getElem?_eq_getElem hlt, hcell]
        have hrun := he _ _ y.int _ hw (by simp [World.frozen?, h2])
        obtain ⟨cur', g1, g2, g3⟩ := setCells_block b ty [.int .i64 (IntKind.wrap .i64 (u.int + y.int))] off w cur h2 (by simp; omega)
        have hg := setCells_grown b [.int .i64 (IntKind.wrap .i64 (u.int + y.int))] off w
        have hK : Stays w (w.setCells b off [.int .i64 (IntKind.wrap .i64 (u.int + y.int))]) Z Z := ⟨fun _ h => h, fun c hc => hg.block c (S.lt c hc) (fun e => by
          cases e; exact (S.free id _ b hob (by rw [hG]; rfl)).1 hc)⟩
        have hnew : ∀ w' : World, RepSV w' Z G (.val (.int .i64) (.i (IntKind.wrap .i64 (u.int + y.int)))) (.int .i64 (IntKind.wrap .i64 (u.int + y.int))) := fun w' => rep_wrap _ _
        have Snew := S.stored (o' := .box (patch cells off [.val (.int .i64) (.i (IntKind.wrap .i64 (u.int + y.int)))])) hob (by rw [hG]; rfl) hg (setCells_plain b _ _ w).2.2.2 hkb ⟨b, ty, cur', hG, g1, by
          rw [g2]
          exact RepSVs.mono hK _ _ (h3.patch (m := [.val (.int .i64) (.i (IntKind.wrap .i64 (u.int + y.int)))]) ⟨_, [], rfl, hnew w, rfl⟩ off)⟩
        refine wp_value (v := .int .i64 (IntKind.wrap .i64 (u.int + y.int))) (w' := w.setCells b off [.int .i64 (IntKind.wrap .i64 (u.int + y.int))]) ?_ (hk _ _ _ _ _ h (Snew.put (hnew _) hd))
        simp [execOp, ho, resolve, hev, Deferred.ofValue, invoke, hx', hv, hv2, hrun]
        rfl
      · cases h
    · cases h
  · cases h
theorem call_sound {f : FuncId} {cf : Operand} {args : Array Operand} {ts : Array TypeId} {cs : List SV} (hC : C.Ok) (hT : Θ.lets C o = true) (S : Sim C.P Θ n σ a w Z G) (hd : ∀ t, o.dst = some t → t < n)
    (hk : ∀ σ' a' w' Z' G', k σ' → Sim C.P Θ n σ' a' w' Z' G' → K a' w') (hp : ∀ s σ' w' Z' G' v, C.pan s σ' → Sim C.P Θ n σ' a w' Z' G' → RepSV w' Z' G' s v → Q (.panic [{ v := v, recovered := false }]) a w')
    (ho : o.op = .call { callee := .value cf, args := args, argTypes := ts }) (hcf : σ.ev cf = .clo f cs) (h : opCall C o.dst f cf args.toList σ k) : o.wp C.P a w K Q := by
  unfold opCall at h
  split at h
  · cases h
  rename_i fn hf
  split at h
  · rename_i e hE
    split at h
    case h_2 => cases h
    rename_i f' hcf2
    rw [hcf] at hcf2
    cases hcf2
    have hev : a.eval cf = .func (.func f) #[] #[] := by
      have := S.ev cf
      rw [hcf] at this
      obtain ⟨vs, h1, h2⟩ := this
      have h2 : vs.toList = [] := h2
      have : vs = #[] := by apply Array.ext'; simpa using h2
      rw [h1, this]
    have ht : Θ.kb = false := by
      have htc : touchC C o = true := by
        unfold touchC
        rw [ho]
        cases cf with
        | func g =>
          have : g = f := by
            have : SV.clo g [] = SV.clo f [] := hcf
            cases this; rfl
          subst this
          simp [hE]
        | tmp t => rfl
        | const v => rfl
        | global g => rfl
      have hb : touchB C o = true := by unfold touchB; rw [ho]; exact htc
      unfold Anc.lets at hT
      rw [hb] at hT
      simp only [Bool.and_eq_true, Bool.or_eq_true] at hT
      simpa using hT.1
    exact ext_sound (hC.exts f e hE) ht S hd hk ho hev h
  rename_i hE
  split at h
  · rename_i fs F hF
    have ht : C.calm f = false → Θ.kb = false ∧ Θ.ka = false := by
      intro hcalm
      have htc : touchC C o = true := by
        unfold touchC
        rw [ho]
        cases cf with
        | func g =>
          have : g = f := by
            have : SV.clo g [] = SV.clo f cs := hcf
            cases this; rfl
          subst this
          simp [hE, hF, hcalm]
        | tmp t => rfl
        | const v => rfl
        | global g => rfl
      have hb : touchB C o = true := by unfold touchB; rw [ho]; exact htc
      have ha : touchA C o = true := by unfold touchA; rw [ho]; exact htc
      unfold Anc.lets at hT
      simpa [hb, ha] using hT
    exact callT_sound hC ht S hd hk hp ho hcf hf hF h
  · split at h
    case h_2 => cases h
    rename_i f' hcf2
    rw [hcf] at hcf2
    cases hcf2
    have hev : a.eval cf = .func (.func f) #[] #[] := by
      have := S.ev cf
      rw [hcf] at this
      obtain ⟨vs, h1, h2⟩ := this
      have h2 : vs.toList = [] := h2
      have : vs = #[] := by apply Array.ext'; simpa using h2
      rw [h1, this]
    split at h
    · rename_i hsc
      refine call_wp hC S hd hk ho hev hf (g := toU C.P σ.objs) (Zc := fun b => Z b ∨ Live σ G b) (fun c s u v hu hs => toU_rep S hu hs) ?_ ?_ h
      · rintro b (hb | ⟨id, e, ob, h1, h2⟩)
        · exact S.lt b hb
        · exact RepO.lt S h1 h2
      · intro rs svs w' v Z' hsv hrr h1 h2 h3
        refine ⟨fun b => Z b, fun b hb => .inl hb, fun b hb => hb, fun b hb => h2 b (h3 b (.inl hb)), ?_⟩
        unfold RepRes at hrr ⊢
        split at hrr
        · rename_i s
          obtain ⟨v', t', hv, hs, _⟩ := scalars_rep (Z' := Z) hsc hsv (vs := [v]) ⟨v, [], rfl, hrr, rfl⟩
          cases hv
          exact hs
        · rename_i hne
          obtain ⟨vs, rfl, hs⟩ := hrr
          exact ⟨vs, rfl, scalars_rep hsc hsv hs⟩
    · split at h
      · rename_i σ' hfr
        obtain ⟨Z', S'⟩ := freezes_sim S hfr
        exact call_wp hC S' hd hk ho hev hf (g := plainU) (Zc := Z') (fun c s u v hu hs => plainU_rep hu hs) S'.lt
          (fun rs svs w' v Z'' hsv hrr h1 h2 h3 => ⟨Z'', h1, h3, h2, hrr⟩) h
      · cases h
theorem op1_sound (hC : C.Ok) (hT : Θ.lets C o = true) (S : Sim C.P Θ n σ a w Z G) (hd : ∀ t, o.dst = some t → t < n) (hst : ∀ t x y, o.op = .store t x y → o.dst = none) (hst' : ∀ {t x i v}, o.op = .mapUpdate t x i v → o.dst = none) (hst'' : ∀ {t x i v}, o.op = .entryStore t x i v → o.dst = none)
    (h : op1 C o σ k) (hk : ∀ σ' a' w' Z' G', k σ' → Sim C.P Θ n σ' a' w' Z' G' → K a' w') (hp : ∀ s σ' w' Z' G' v, C.pan s σ' → Sim C.P Θ n σ' a w' Z' G' → RepSV w' Z' G' s v → Q (.panic [{ v := v, recovered := false }]) a w') : o.wp C.P a w K Q := by
  have h0 := h
  unfold op1 at h
  split at h
  · rename_i x ho
    exact op_move ho (hk _ _ _ _ _ h (S.put (S.ev x) hd))
  · rename_i x ho
    split at h
    · rename_i d e hn hdst hnc
      split at h
      · rename_i hsm
        have hv : a.eval x = .slice none 0 0 := by have := S.ev x; rw [isNil_eq hn] at this; exact this
        obtain ⟨i, m, cs, z, h1, h2, h3, h4, h5, h6, h7⟩ := smallType_some hsm
        refine op_assign ho ?_
        rw [hv]
        exact new_put (ob := .arr e []) (s := .own (2 * (d * 64 + 62))) (id := 2 * (d * 64 + 62)) (row := none) (v := .slice none 0 0) S hdst hd hk (by omega) ⟨rfl, rfl, rfl, Nat.le_refl _, fun _ _ _ => rfl⟩ (fun b hb => by cases hb) (fun b hb => by cases hb)
          ⟨m, cs, [], h2, by simp only [if_true]; exact World.ownsRow_nil w 0 e cs.length, rfl⟩ (by show _ = _; simp) h
      · cases h
    · exact op_assign ho (hk _ _ _ _ _ h (S.put (S.ev x) hd))
  · rename_i c x y ho
    split at h
    · rename_i u hu
      have hc : a.eval c = .bool u.bool := by have := S.ev c; rw [hu] at this; exact this
      refine op_pick ho hc ?_
      rcases cond_some h with ⟨hb, h⟩ | ⟨hb, h⟩
      · rw [hb]; exact hk _ _ _ _ _ h (S.put (S.ev x) hd)
      · rw [hb]; exact hk _ _ _ _ _ h (S.put (S.ev y) hd)
    · cases h
  · rename_i t x ho
    split at h
    · rename_i d hdst
      obtain ⟨hb, h⟩ := cond_only h
      exact op_box ho (newBox_sound S hdst hd hk (cellsV_ok S hb).1 h)
    · cases h
  · rename_i t ho
    split at h
    · rename_i d z hdst hz
      unfold zeroCells at hz
      split at hz
      · rename_i i hi
        split at hz
        · rename_i zv hzv
          injection hz with hz
          subst hz
          exact op_alloc ho hi hzv (newBox_sound S hdst hd hk (ofConsts_rep _) h)
        · cases hz
      · cases hz
    · cases h
  · rename_i t ps ho
    split at h
    · rename_i fs z hu hz
      split at h
      · rename_i cs hs hf
        exact build_sound S hd hk ho hu hz hs hf h
      · cases h
    · cases h
  · rename_i t ne ps ho
    split at h
    · rename_i e d hnc hdst
      split at h
      · rename_i m cs σ' hcs hsm hfr
        obtain ⟨Z', S'⟩ := freezes_sim S hfr
        split at h
        · rename_i z hz
          split at h
          · rename_i hps
            exact lit0_sound S' hdst hd hk ho (nilCell_some hnc) hsm hps h
          · cases h
        · rename_i z hz
          split at h
          · rename_i v hps
            split at h
            · rename_i us hus
              obtain ⟨h1, h2⟩ : Nat.ble cs.length 16777216 = true ∧ k ((σ'.new (2 * (d * 64 + 63)) (.arr e [ofElem m us])).set d (.own (2 * (d * 64 + 63)))) := cond_only h
              refine lit_sound S' hdst hd hk ho (nilCell_some hnc) hcs hsm hz (xs := [ofElem m us]) ?_ (by have := Nat.le_of_ble_eq_true h1; omega) (by omega) h2
              rw [hps]
              simp only [litElems, hus]
              rfl
            · cases h
          · cases h
        · rename_i z hne hz
          split at h
          · rename_i xs hl
            obtain ⟨h1, h2⟩ := cond_only h
            simp only [Bool.and_eq_true] at h1
            exact lit_sound S' hdst hd hk ho (nilCell_some hnc) hcs hsm hz hl (by have := Nat.le_of_ble_eq_true h1.1; omega) (by have := h1.2; simpa [Nat.blt_eq] using this) h2
          · cases h
        · cases h
      · cases h
    · cases h
  · rename_i t l c ho
    split at h
    · rename_i e d kl ul kc uc hnc hdst hl hc
      split at h
      · rename_i z hsm hz
        obtain ⟨hb, h⟩ := cond_only h
        exact make_sound S hdst hd hk ho (nilCell_some hnc) hl hc hsm hz (of_decide_eq_true hb) h
      · cases h
    · cases h
  · rename_i t x ho
    exact load_sound S hd hk ho h0
  · rename_i t x y ho
    have hT : !Θ.kb && !Θ.ka := by unfold Anc.lets touchB touchA at hT; rw [ho] at hT; exact hT
    simp only [Bool.and_eq_true, Bool.not_eq_true'] at hT
    exact store_sound hT.1 hT.2 S (hst _ _ _ ho) hk ho h0
  · rename_i x ho
    have hx := S.ev x
    split at h
    · rename_i id off hp
      rw [hp] at hx
      obtain ⟨b, hG, hv⟩ := hx
      exact op_nilCheck ho hv (hk _ _ _ _ _ h (S.put ⟨b, hG, rfl⟩ hd))
    · rename_i id sz j off hp
      rw [hp] at hx
      obtain ⟨b, n', c, hG, hv⟩ := hx
      exact op_nilCheck ho hv (hk _ _ _ _ _ h (S.put ⟨b, n', c, hG, rfl⟩ hd))
    · rename_i cs us hp
      rw [hp] at hx
      obtain ⟨b, off, hv, hb, hr⟩ := hx
      exact op_nilCheck ho hv (hk _ _ _ _ _ h (S.put ⟨b, off, rfl, hb, hr⟩ hd))
    · cases h
  · rename_i op t x y t2 ho
    exact op_bin hC ho (S.ev x) (S.ev y) h (fun s v hs hv => hk _ _ _ _ _ hs (S.put hv hd))
  · rename_i t x ho
    split at h
    · rename_i u hu
      have hx : a.eval x = .bool u.bool := by have := S.ev x; rw [hu] at this; exact this
      exact op_not ho hx (hk _ _ _ _ _ h (S.put rfl hd))
    · cases h
  · rename_i t x ho
    split at h
    · rename_i i u hu
      have hx : a.eval x = .int i u.int := by have := S.ev x; rw [hu] at this; exact this.1
      exact op_neg ho hx (hk _ _ _ _ _ h (S.put (s := .val _ _) (rep_wrap _ _) hd))
    · cases h
  · rename_i t x ho
    split at h
    · rename_i i u hu
      have hx : a.eval x = .int i u.int := by have := S.ev x; rw [hu] at this; exact this.1
      exact op_compl ho hx (hk _ _ _ _ _ h (S.put (s := .val _ _) (rep_wrap _ _) hd))
    · cases h
  · rename_i s t x ho
    have hx := S.ev x
    split at h
    · rename_i i1 i kd u hs ht hp
      rw [hp] at hx
      have hx : a.eval x = .int kd u.int := hx.1
      refine wp_value (v := .int i (i.wrap u.int)) (w' := w) ?_ (hk _ _ _ _ _ h (S.put (s := .val _ _) (rep_wrap _ _) hd))
      simp [execOp, ho, hx, convert, run_underlying hs, run_underlying ht, Conv.intToInt]
    · rename_i e hs ht
      split at h
      · rename_i he
        split at h
        · rename_i u hu
          have hr := toU_rep S hu hx
          have hrun := run_toString (C := C) hr
          refine wp_value (v := .string ⟨(u.list.map fun x : U => UInt8.ofNat x.int.toNat).toArray⟩) (w' := w) ?_ (hk _ _ _ _ _ h (S.put (s := .val .str _) ⟨rfl, by have := hr.ok.1; simpa [ByteArray.size] using this⟩ hd))
          obtain ⟨A, c, hv, _⟩ := hr
          rw [hv] at hrun
          simp [execOp, ho, hv, convert, run_underlying hs, run_underlying ht, run_underlying he, hrun]
        · cases h
      · cases h
    · rename_i u hs ht hp
      rw [hp] at hx
      obtain ⟨hx, hxs⟩ : a.eval x = .string u.str ∧ u.str.size ≤ maxLen := hx
      refine wp_value (v := .string u.str) (w' := w) ?_ (hk _ _ _ _ _ h (S.put (s := .val .str _) ⟨rfl, hxs⟩ hd))
      simp [execOp, ho, hx, convert, run_underlying hs, run_underlying ht]
    · cases h
  · rename_i s x f ho
    split at h
    · rename_i fd hf
      split at h
      · rename_i k' hs
        have hx := S.ev x
        split at h
        · rename_i id off hp
          rw [hp] at hx
          obtain ⟨b, hG, hv⟩ := hx
          exact op_fieldAddr ho hf hs hv (hk _ _ _ _ _ h (S.put ⟨b, hG, rfl⟩ hd))
        · rename_i id sz j off hp
          rw [hp] at hx
          obtain ⟨b, n', c, hG, hv⟩ := hx
          exact op_fieldAddr ho hf hs hv (hk _ _ _ _ _ h (S.put ⟨b, n', c, hG, by rw [Nat.add_assoc]⟩ hd))
        · rename_i cs us hp
          rw [hp] at hx
          obtain ⟨b, off, hv, hb, hr⟩ := hx
          exact op_fieldAddr ho hf hs hv (hk _ _ _ _ _ h (S.put ⟨b, off + fd.offset, rfl, hb, hr.drop fd.offset⟩ hd))
        · cases h
      · cases h
    · cases h
  · rename_i s x f ho
    have hx := S.ev x
    split at h
    · rename_i fd cells hf hp
      rw [hp] at hx
      obtain ⟨vs, hv, hr⟩ := hx
      split at h
      · rename_i v hpt
        obtain ⟨v', hrun, hrep⟩ := run_part (P := C.P) hr hpt
        exact op_field ho hf hv (hrun w) (hk _ _ _ _ _ h (S.put hrep hd))
      · cases h
    · cases h
  · rename_i t x i ho
    have hx := S.ev x
    have hi := S.ev i
    split at h
    · rename_i e m cs u kd j hu hp hj
      rw [hp] at hx
      rw [hj] at hi
      obtain ⟨hb1, h⟩ := cond_only h
      obtain ⟨hb, h⟩ := cond_only h
      obtain ⟨h1, h2⟩ := of_decide_eq_true hb
      obtain ⟨A, c, hv, hc, hcm, hel⟩ := hx
      obtain ⟨b, off, hA, hZ, hr⟩ := hel j.int.toNat (by omega)
      rw [hA] at hv
      exact op_indexAddr ho hu (isSize_some hb1) hv hi.1 h1 h2 (hk _ _ _ _ _ h (S.put ⟨b, _, rfl, hZ, hr⟩ hd))
    · rename_i e' id kd j hu hp hj
      rw [hp] at hx
      rw [hj] at hi
      split at h
      · rename_i e xs hob
        split at h
        · rename_i m cs hcs
          obtain ⟨hb1, h⟩ := cond_only h
          obtain ⟨hb, h⟩ := cond_only h
          obtain ⟨h1, h2⟩ := of_decide_eq_true hb
          obtain ⟨m2, cs2, vs, g1, g2, g3⟩ := S.obj id _ hob
          rw [hcs] at g1
          cases g1
          rcases g2.2 with ⟨_, g4⟩ | ⟨g, cap, cur, g4, _⟩
          · omega
          have hx : a.eval x = G id := hx
          rw [g4] at hx
          exact op_indexAddr (off := 0) ho hu (isSize_some hb1) hx hi.1 h1 h2 (hk _ _ _ _ _ h (S.put ⟨g, xs.length, cap, g4, by simp⟩ hd))
        · cases h
      · cases h
    · cases h
  · rename_i t x i ho
    have hx := S.ev x
    have hi := S.ev i
    split at h
    · rename_i s kd j hu hp hj
      rw [hp] at hx
      rw [hj] at hi
      obtain ⟨hb, h⟩ := cond_only h
      obtain ⟨h1, h2⟩ := of_decide_eq_true hb
      exact op_index ho hu hx.1 hi.1 h1 h2 (hk _ _ _ _ _ h (S.put (s := .val _ _) (rep_u8 _) hd))
    · cases h
  · rename_i x i ho
    have hx := S.ev x
    split at h
    · rename_i vs hp
      rw [hp] at hx
      obtain ⟨us, hv, hr⟩ := hx
      obtain ⟨hb, h⟩ := cond_only h
      have hb : i < vs.length := by simpa [Nat.blt_eq] using hb
      have hl := hr.length
      have hi : i < us.size := by simp at hl; omega
      have hget : us[i]? = some us[i] := Array.getElem?_eq_getElem hi
      exact op_extract ho hv hget (hk _ _ _ _ _ h (S.put (hr.nth i _ (by simp [hi])) hd))
    · cases h
  · rename_i t x lo hi mx ho
    split at h
    · rename_i e l h1 m hu hl hh hm
      split at h
      · rename_i mm cs u hx
        obtain ⟨hsz, h⟩ := cond_only h
        unfold op1.sliceK at h
        obtain ⟨hb, h⟩ := cond_only h
        simp only [Bool.and_eq_true] at hb
        refine slice_sound S hd hk ho hu (isSize_some hsz) hl hh hm (fun hms => ?_) hx (of_decide_eq_true hb.1) h
        cases m with
        | none => cases hms
        | some m => cases h1 with
          | none => simp at hb
          | some _ => rfl
      · rename_i id hx
        split at h
        · rename_i e' xs hob
          split at h
          · rename_i mm cs hcs
            obtain ⟨hsz, h⟩ := cond_only h
            obtain ⟨hb, h⟩ := cond_only h
            exact sliceOwn_sound S hd hk ho hu (isSize_some hsz) hl hh hm hx hob hcs (of_decide_eq_true hb) h
          · cases h
        · cases h
      · cases h
    · rename_i l h1 hu hl hh hm
      split at h
      · rename_i u hx
        obtain ⟨hb, h⟩ := cond_only h
        have hb := of_decide_eq_true hb
        obtain ⟨hv, hvs⟩ : a.eval x = .string u.str ∧ u.str.size ≤ maxLen := by have := S.ev x; rw [hx] at this; exact this
        have hbr := run_bounds (P := C.P) (isSlice := false) (w := w) (len := u.str.size) (cap := u.str.size) (Nat.le_refl _) (lst_rep S hl) (lst_rep S hh) (.inl ⟨rfl, rfl⟩) (mx := none) (m := none) (by simp) ⟨hb.1, hb.2.1, by simp, by simpa using hb.2.2⟩
        have hmx : mx = none := by
          rcases lst_rep S hm with ⟨h2, _⟩ | ⟨y, kd, i, _, h2, _⟩
          · exact h2
          · cases h2
        subst hmx
        refine wp_value (v := .string (u.str.extract (l.getD 0).toNat (h1.getD u.str.size).toNat)) (w' := w) ?_ (hk _ _ _ _ _ h (S.put (s := .val .str _) ⟨rfl, by show (u.str.extract _ _).size ≤ maxLen; rw [ByteArray.size_extract]; omega⟩ hd))
        simp only [Option.map_none] at hbr
        simp [execOp, ho, hv, Instr.sliceAt, Instr.slice, run_underlying hu, hbr]
      · cases h
    · cases h
  · rename_i args ts ho
    split at h
    · rename_i s t hargs hts
      obtain ⟨p, hp, rfl⟩ := evs_one hargs
      have hx := S.ev p
      split at h
      · rename_i e m cs u hu hev
        rw [hev] at hx
        have hl : u.list.length ≤ maxLen := (RepC.ok (c := .sl m cs) hx).1
        obtain ⟨A, c, hv, _⟩ := hx
        exact op_len_slice ho hp hts hu hv (hk _ _ _ _ _ h (S.put (s := .val _ _) (rep_len hl) hd))
      · rename_i e id hu hev
        rw [hev] at hx
        split at h
        · rename_i e' xs hob
          obtain ⟨m2, cs2, vs, g1, g2, g3⟩ := S.obj id _ hob
          have hl : xs.length ≤ maxLen := (RepO.ok (S.obj id _ hob)).1
          have hx : a.eval p = G id := hx
          rcases g2.2 with ⟨g4, g5⟩ | ⟨g, cap, cur, g4, _⟩
          · rw [g4] at hx
            rw [g5] at h
            exact op_len_slice ho hp hts hu hx (hk _ _ _ _ _ h (S.put (s := .val _ _) (rep_len (Nat.zero_le _)) hd))
          · rw [g4] at hx
            exact op_len_slice ho hp hts hu hx (hk _ _ _ _ _ h (S.put (s := .val _ _) (rep_len hl) hd))
        · cases h
      · rename_i e hu hev
        rw [hev] at hx
        exact op_len_slice ho hp hts hu hx (hk _ _ _ _ _ h (S.put (s := .val _ _) (rep_len (n := 0) (Nat.zero_le _)) hd))
      · rename_i kt vt id hu hev
        rw [hev] at hx
        split at h
        · rename_i t' es hob
          obtain ⟨b', ents, kt', vt', km, kcs, vm, vcs, g1, g2, g3, g4, g5, g6⟩ := S.obj id _ hob
          obtain ⟨b, hG, hv⟩ := hx
          rw [hG] at g1
          cases g1
          have hl : ents.size = es.length := by simpa using RepEnts.length g6
          obtain ⟨hb, h⟩ := cond_only h
          have hb := Nat.le_of_ble_eq_true hb
          refine op_len_map ho hp hts hu hv g2 ?_
          rw [hl]
          exact hk _ _ _ _ _ h (S.put (s := .val _ _) (rep_len (by unfold room at hb; unfold maxLen; omega)) hd)
        · cases h
      · rename_i u hu hev
        rw [hev] at hx
        exact op_len_string ho hp hts hu hx.1 (hk _ _ _ _ _ h (S.put (s := .val _ _) (rep_len hx.2) hd))
      · cases h
    · cases h
  · rename_i args ts ho
    split at h
    · rename_i i x j y hargs
      obtain ⟨p, q, hp, hx, hy⟩ := evs_two hargs
      obtain ⟨hs, h'⟩ := cond_only h
      have hij := same_eq hs
      subst hij
      have hvx : RepC w Z (.int i) (a.eval p) x := by have := S.ev p; rw [← hx] at this; exact this
      have hvy : RepC w Z (.int i) (a.eval q) y := by have := S.ev q; rw [← hy] at this; exact this
      have ha' : args = #[p, q] := by cases args; simp_all
      subst ha'
      refine wp_value (v := .int i (bif decide (y.int < x.int) then y.int else x.int)) (w' := w) ?_ (hk _ _ _ _ _ h' (S.put (s := .val (.int i) (.i _)) ⟨rfl, ?_⟩ hd))
      · simp [execOp, ho, resolve, invoke, builtin, hvx.1, hvy.1, run_min_int2]
      · have h1 := hvx.2
        have h2 := hvy.2
        show i.min ≤ (bif decide (y.int < x.int) then y.int else x.int) ∧ (bif decide (y.int < x.int) then y.int else x.int) ≤ i.max
        cases decide (y.int < x.int) <;> first | exact h1 | exact h2
    · cases h
  · rename_i args ts ho
    split at h
    · rename_i i x j y hargs
      obtain ⟨p, q, hp, hx, hy⟩ := evs_two hargs
      obtain ⟨hs, h'⟩ := cond_only h
      have hij := same_eq hs
      subst hij
      have hvx : RepC w Z (.int i) (a.eval p) x := by have := S.ev p; rw [← hx] at this; exact this
      have hvy : RepC w Z (.int i) (a.eval q) y := by have := S.ev q; rw [← hy] at this; exact this
      have ha' : args = #[p, q] := by cases args; simp_all
      subst ha'
      refine wp_value (v := .int i (bif decide (x.int < y.int) then y.int else x.int)) (w' := w) ?_ (hk _ _ _ _ _ h' (S.put (s := .val (.int i) (.i _)) ⟨rfl, ?_⟩ hd))
      · simp [execOp, ho, resolve, invoke, builtin, hvx.1, hvy.1, run_max_int2]
      · have h1 := hvx.2
        have h2 := hvy.2
        show i.min ≤ (bif decide (x.int < y.int) then y.int else x.int) ∧ (bif decide (x.int < y.int) then y.int else x.int) ≤ i.max
        cases decide (x.int < y.int) <;> first | exact h1 | exact h2
    · cases h
  · rename_i args ts ho
    split at h
    · rename_i s x t tx d hargs hts hdst
      obtain ⟨p, q, hp, rfl, rfl⟩ := evs_two hargs
      have hka : Θ.ka = false := by unfold Anc.lets touchB touchA at hT; rw [ho] at hT; simp at hT; exact hT.2
      split at h
      · rename_i e e' hnc hu
        exact append_sound (str := false) S hdst hd hk ho hp hts hka (nilCell_some hnc) (by simpa using ⟨e', hu⟩) h
      · rename_i e hnc hu
        exact append_sound (str := true) S hdst hd hk ho hp hts hka (nilCell_some hnc) (by simpa using hu) h
      · cases h
    · cases h
  · rename_i cf args ts ho
    split at h
    · rename_i f cs hcf
      exact call_sound hC hT S hd hk hp ho hcf h
    · cases h
  · rename_i t x i ok ho
    exact lookup_sound S hd hk ho h0
  · rename_i t x i v ho
    have hT : Θ.kb = false := by unfold Anc.lets touchB at hT; rw [ho] at hT; simp at hT; exact hT.1
    exact update_sound hT S (hst' ho) hk ho h0
  · rename_i t x i ho
    have hT : Θ.kb = false := by unfold Anc.lets touchB at hT; rw [ho] at hT; simp at hT; exact hT.1
    exact entry_sound hT S hd hk ho h0
  · rename_i t x i v ho
    have hT : Θ.kb = false := by unfold Anc.lets touchB at hT; rw [ho] at hT; simp at hT; exact hT.1
    exact entryStore_sound hT S (hst'' ho) hk ho h0
  · rename_i f first caps ho
    split at h
    · rename_i hfi
      refine wp_value (v := .func (.func f) #[] (caps.map a.eval)) (w' := w) ?_ (hk _ _ _ _ _ h (S.put ⟨_, rfl, by simpa using S.evs_rep caps.toList⟩ hd))
      have : first = #[] := by apply Array.ext'; simpa using hfi
      simp [execOp, ho, Instr.makeFunc, this]
    · cases h
  · rename_i t x ho
    split at h
    · cases h
    · rename_i d hni hu
      refine wp_value (v := .iface t (a.eval x)) (w' := w) ?_ (hk _ _ _ _ _ h (S.put ⟨_, rfl, S.ev x⟩ hd))
      simp only [execOp, ho, Instr.makeInterface, Sem.run_bind, run_underlying hu, Result.andThen]
      cases d <;> first | rfl | (exact absurd hu (hni _))
    · cases h
  · rename_i x ho
    split at h
    · rename_i t s hx
      have hr := S.ev x
      rw [hx] at hr
      have hr' := hr
      obtain ⟨y, hv, _⟩ := hr
      unfold Oper.wp
      have hrun : (execOp a.eval o).run C.P w = .halt (.panic (.iface t y)) w := by simp [execOp, ho, hv, Instr.panic, goPanic]
      rw [hrun]
      have := hp _ _ _ _ _ _ h S hr'
      rw [hv] at this
      exact this
    · cases h
  · rename_i t ho
    split at h
    · rename_i d kt vt hdst hu
      have hrun : (execOp a.eval o).run C.P w = .ok (.value (.map (some w.heap.size))) (w.alloc (.map #[] 0)) := by
        simp only [execOp, ho, Instr.makeMap, newObj]
        rfl
      obtain ⟨⟨km, kcs⟩, hk1⟩ : ∃ x, Cs C.P kt = some x := by
        cases hx : Cs C.P kt with
        | none => rw [hx] at h; exact h.elim
        | some x => exact ⟨x, rfl⟩
      rw [hk1] at h
      obtain ⟨⟨vm, vcs⟩, hk2⟩ : ∃ x, Cs C.P vt = some x := by
        cases hx : Cs C.P vt with
        | none => rw [hx] at h; exact h.elim
        | some x => exact ⟨x, rfl⟩
      rw [hk2] at h
      have hg : w.grownBy (w.alloc (.map #[] 0)) none := World.grownBy_alloc w _ none
      have S' := S.newO (id := 2 * (d * 64)) (o := .map t []) (v := .pointer (some ⟨w.heap.size, 0, none⟩)) (row := none) (by omega) hg (fun b hb => by cases hb) (fun b hb => .inr (by simp [blk] at hb; omega))
        ⟨w.heap.size, #[], kt, vt, km, kcs, vm, vcs, by simp, heap_alloc_new w _, hu, hk1, hk2, rfl⟩
      have S'' := S'.put (d := o.dst) (s := .mp (2 * (d * 64))) (v := .map (some w.heap.size)) ⟨w.heap.size, by simp, rfl⟩ hd
      refine wp_value hrun ?_
      rw [hdst] at S'' ⊢
      exact hk _ _ _ _ _ h S''
    · cases h
  · rename_i args ts ho
    split at h
    · rename_i d s t tx hev hts
      split at h
      · rename_i e e2 hne hux
        split at h
        · rename_i ys hcs hsrc
          obtain ⟨hsz, h⟩ := cond_only h
          obtain ⟨p, q, hpq, hp, hq⟩ := evs_two hev
          subst hp hq
          have hka : Θ.ka = false := by unfold Anc.lets touchB touchC touchA at hT; rw [ho] at hT; simpa using hT
          split at h
          · rename_i id hd0
            have hx : a.eval p = G id := by have := S.ev p; rw [hd0] at this; exact this
            refine copy_sound S hd hk ho hpq hts hka (nilCell_some hne) hcs (isSize_some hsz) hsrc ?_ h
            rw [hx, slFrom_zero]
            intro A n' c' hG
            have hob : ∃ e' xs, getO σ.objs id = some (.arr e' xs) := by
              unfold opCopy at h
              split at h
              · exact ⟨_, _, by assumption⟩
              · cases h
            obtain ⟨e', xs, hob⟩ := hob
            obtain ⟨_, _, _, _, h2, _⟩ := S.obj id _ hob
            rcases h2.2 with ⟨h3, _⟩ | ⟨g, cap, cur, h3, _⟩
            · rw [hG] at h3; injection h3 with h3; exact .inl h3
            · rw [hG] at h3; injection h3 with h3; exact .inr ⟨_, _, h3⟩
          · rename_i id j hd0
            have hx : a.eval p = slFrom j 1 (G id) := by have := S.ev p; rw [hd0] at this; exact this
            exact copy_sound S hd hk ho hpq hts hka (nilCell_some hne) hcs (isSize_some hsz) hsrc hx h
          · cases h
        · cases h
      · cases h
    · cases h
  · cases h
end
end Go.Den

namespace Go.Den
open Go Go.RowKit
section
variable {P : Program} {ops : Array Oper} {Q : Exit → Act → World → Prop} {md : Region.Mode}
def AnyR (P : Program) (md : Region.Mode) (ops : Array Oper) (Q : Exit → Act → World → Prop) : Nat → Array Bool → Act → World → (Nat → Prop) → Prop
  | 0, listed, a, w, _ => Region.ready md ops listed = [] ∧ Q .normal a w
  | fuel + 1, listed, a, w, H => (Region.ready md ops listed = [] → Q .normal a w) ∧
    ∀ i ∈ Region.ready md ops listed, wpOp P ops Q i (fun a' w' => ∃ H' : Nat → Prop, (∀ b, H b → H' b) ∧ (∀ b, H b → w'.heap[b]? = w.heap[b]?) ∧ AnyR P md ops Q fuel (listed.setIfInBounds i true) a' w' H') a w
theorem AnyR.any : ∀ (fuel : Nat) (listed : Array Bool) (a : Act) (w : World) (H : Nat → Prop), AnyR P md ops Q fuel listed a w H → wpAny P md ops Q fuel listed a w
  | 0, _, _, _, _, h => h
  | fuel + 1, _, _, _, _, h => ⟨h.1, fun i hi => wpOp_mono (fun a' w' ⟨_, _, _, h'⟩ => AnyR.any fuel _ a' w' _ h') (h.2 i hi)⟩
theorem yields_less {o : Oper} {v : Value} {a : Act} {S S' : World → Prop} (h : ∀ w, S' w → S w) (hy : YieldsIf P ops S o v a) : YieldsIf P ops S' o v a :=
  hy.imp (fun ⟨h1, h2⟩ => ⟨h1, fun w hw => h2 w (h w hw)⟩) id
theorem AnyR.first {i : Nat} {oi : Oper} {v : Value} (hi : ops[i]? = some oi) (hsel : Region.noSelect ops = true) (hQ : ∀ c a w d v, Q (.panic c) (a.put d v) w → Q (.panic c) a w) :
    ∀ (fuel : Nat) (listed : Array Bool) (a : Act) (w : World) (H : Nat → Prop),
      (∀ j oj, ops[j]? = some oj → j ≠ i → listed.getD j true = false → (∀ e ∈ oj.after, Region.binds md e = true → e.on ≠ i) → oi.apart ops oj = true) →
      i ∈ Region.ready md ops listed → YieldsIf P ops (fun w' => ∀ b, H b → w'.heap[b]? = w.heap[b]?) oi v a → AnyR P md ops Q fuel (listed.setIfInBounds i true) (a.put oi.dst v) w H → AnyR P md ops Q (fuel + 1) listed a w H := by
  intro fuel
  induction fuel with
  | zero =>
    intro listed a w H _ hr hy h
    refine ⟨fun h => (by rw [h] at hr; cases hr), fun j hj => ?_⟩
    by_cases hji : j = i
    · subst hji; exact hy.wpOp hi (fun _ _ => rfl) ⟨H, fun _ h => h, fun _ _ => rfl, h⟩
    · have := ready_mono hj hji
      rw [h.1] at this
      cases this
  | succ fuel ih =>
    intro listed a w H hfree hr hy h
    refine ⟨fun h => (by rw [h] at hr; cases hr), fun j hj => ?_⟩
    by_cases hji : j = i
    · subst hji; exact hy.wpOp hi (fun _ _ => rfl) ⟨H, fun _ h => h, fun _ _ => rfl, h⟩
    · have hjr := ready_mono hj hji
      obtain ⟨hun, oj, hoj, hall⟩ := mem_ready.1 hj
      have hwait : ∀ e ∈ oj.after, Region.binds md e = true → e.on ≠ i := by
        intro e he hb heq
        have h1 := hall e he hb
        have h2 := (mem_ready.1 hr).1
        rw [heq] at h1
        by_cases hlt : i < listed.size
        · simp [hlt] at h1 h2; rw [h1] at h2; cases h2
        · simp [Array.getElem?_eq_none (Nat.le_of_not_lt hlt)] at h1
      have hput := wpOp_putIf hoj (hfree j oj hoj hji hun hwait) (fun cs b => Region.noSelect_spec hsel i oi cs b hi) (fun cs b => Region.noSelect_spec hsel j oj cs b hoj)
        (fun c a w h => hQ c a w _ _ h) hy (h.2 j hjr)
      refine wpOp_mono ?_ hput
      rintro a' w' ⟨hy', H', hsub, hsame, h'⟩
      refine ⟨H', hsub, hsame, ih (listed.setIfInBounds j true) a' w' H' ?_ (ready_mono hr (Ne.symm hji)) (yields_less (fun w'' h b hb => (h b (hsub b hb)).trans (hsame b hb)) hy') ?_⟩
      · intro k ok hk hki hkun hkw
        refine hfree k ok hk hki ?_ hkw
        by_cases hjk : j = k
        · subst hjk; exact hun
        · rw [getD_set_ne true hjk] at hkun; exact hkun
      · rw [Array.setIfInBounds_comm _ _ hji]
        exact h'
theorem wp_region_R {id : Nat} {a : Act} {w : World} {H : Nat → Prop} (hm : P.follows .mixedOrders = true) (h : AnyR P .any ops Q ops.size (Array.replicate ops.size false) a { w with drawn := w.drawn + 1 } H) : (Code.region id ops true).wp P Q a w :=
  wp_region_any hm (AnyR.any _ _ _ _ _ h)
end
end Go.Den
