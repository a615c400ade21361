/-
  AM, 22: a drawn region under way. Conditions: none.
-/
import Derived.Test.YtmhhaimpignndaaGreatAmU
namespace Go.AM
open Go

mutual
theorem beqV_eq : ∀ (x y : AV), beqV x y = true → x = y
  | .i k n, y, h => by
    cases y <;> simp [beqV] at h
    obtain ⟨h1, h2⟩ := h
    rw [h1, h2]
  | .b c, y, h => by cases y <;> simp [beqV] at h; rw [h]
  | .s l, y, h => by cases y <;> simp [beqV] at h; rw [h]
  | .p o i, y, h => by cases y <;> simp [beqV] at h; rw [h.1, h.2]
  | .np, y, h => by cases y <;> simp [beqV] at h; rfl
  | .sl o i l c, y, h => by cases y <;> simp [beqV] at h; rw [h.1.1.1, h.1.1.2, h.1.2, h.2]
  | .ns, y, h => by cases y <;> simp [beqV] at h; rfl
  | .m o, y, h => by cases y <;> simp [beqV] at h; rw [h]
  | .nm, y, h => by cases y <;> simp [beqV] at h; rfl
  | .fn f l, y, h => by
    cases y <;> simp [beqV] at h
    rw [h.1, beqVs_eq l _ h.2]
  | .yl o, y, h => by cases y <;> simp [beqV] at h; rw [h]
  | .nf, y, h => by cases y <;> simp [beqV] at h; rfl
  | .ifc t v, y, h => by
    cases y <;> simp [beqV] at h
    rw [h.1, beqV_eq v _ h.2]
  | .ni, y, h => by cases y <;> simp [beqV] at h; rfl
  | .x n, y, h => by cases y <;> simp [beqV] at h; rw [h]
  | .xi n k r m, y, h => by cases y <;> simp [beqV] at h; rw [h.1.1.1, h.1.1.2, h.1.2, h.2]
  | .l k n, y, h => by cases y <;> simp [beqV] at h; rw [h.1, h.2]
  | .q o i n, y, h => by cases y <;> simp [beqV] at h; rw [h.1.1, h.1.2, h.2]
  | .t l, y, h => by
    cases y <;> simp [beqV] at h
    rw [beqVs_eq l _ h]
  | .f n m, y, h => by cases y <;> simp [beqV] at h; rw [h.1, h.2]
  | .z n m, y, h => by cases y <;> simp [beqV] at h; rw [h.1, h.2]
  | .ag l, y, h => by
    cases y <;> simp [beqV] at h
    rw [beqVs_eq l _ h]
  | .tu l, y, h => by
    cases y <;> simp [beqV] at h
    rw [beqVs_eq l _ h]
theorem beqVs_eq : ∀ (l m : List AV), beqVs l m = true → l = m
  | [], m, h => by cases m <;> simp [beqVs] at h; rfl
  | x :: r, m, h => by
    cases m <;> simp [beqVs] at h
    rw [beqV_eq x _ h.1, beqVs_eq r _ h.2]
end
theorem inj_of_nodup {α β : Type} {f : α → β} : ∀ {l : List α}, (l.map f).Nodup → ∀ {x y : α}, x ∈ l → y ∈ l → f x = f y → x = y
  | [], _, x, _, hx, _, _ => by cases hx
  | a :: l, hn, x, y, hx, hy, h => by
    simp only [List.map_cons, List.nodup_cons] at hn
    rcases List.mem_cons.1 hx with ex | hx
    · rcases List.mem_cons.1 hy with ey | hy
      · rw [ex, ey]
      · exact absurd (List.mem_map.2 ⟨y, hy, by rw [← h, ex]⟩) hn.1
    · rcases List.mem_cons.1 hy with ey | hy
      · exact absurd (List.mem_map.2 ⟨x, hx, by rw [h, ey]⟩) hn.1
      · exact inj_of_nodup hn.2 hx hy h

section
variable {P : Program} {nt : Nat} {ops : Array Oper}
theorem trH_op {dr : Bool} {op : Op} {i : I} (h : trH P dr op = .op i) : i = trI P dr op := by
  unfold trH at h
  split at h
  · split at h
    · cases h
    · split at h
      · cases h
      · injection h with h; exact h.symm
    · split at h
      · cases h
      · cases h
    · split at h <;> cases h
    · injection h with h; exact h.symm
  · split at h
    · split at h
      · cases h
      · cases h
    · split at h
      · cases h
      · cases h
    · cases h
  · injection h with h; exact h.symm
theorem cls_of {dr : Bool} {o : Oper} {i : I} (h : trH P dr o.op = .op i) : Cls P o i := by rw [trH_op h]; exact cls_ok
/-- what is known of an operation of a drawn region by its text -/
structure Fitd (P : Program) (nt : Nat) (ops : Array Oper) (i : Nat) (o : Oper) (g : Gd) (d : Ds) : Prop where
  ho : ops[i]? = some o
  hg : trG ops o = some g
  hd : trD nt o = some d
  lt : ∀ t ∈ rdOf P ops o, t < 512
  rd : ∀ j o' t, ops[j]? = some o' → o'.dst = some t → t ∈ rdOf P ops o → Waits ops i j ∨ Waits ops j i
  ds : ∀ j o' t, ops[j]? = some o' → o'.dst = some t → i = j ∨ o.dst ≠ some t
theorem fitL_ok {done : List Nat} {i : Nat} (h : fitL P nt ops (Region.before ops) done i = true) : (∃ o g d, Fitd P nt ops i o g d) ∧ i ∉ done ∧ ∀ o, ops[i]? = some o → ∀ e ∈ o.after, Region.binds .any e = true → e.on ∈ done := by
  unfold fitL at h
  cases ho : ops[i]? with
  | none => rw [ho] at h; cases h
  | some o =>
    rw [ho] at h
    simp only [Bool.and_eq_true, Bool.not_eq_true'] at h
    obtain ⟨⟨⟨⟨⟨h1, h2⟩, h3⟩, h4⟩, h5⟩, h6⟩ := h
    obtain ⟨g, hg⟩ := Option.isSome_iff_exists.1 h2
    obtain ⟨d, hd⟩ := Option.isSome_iff_exists.1 h3
    have key : ∀ j o' t, ops[j]? = some o' → o'.dst = some t → ((memb t (rdOf P ops o) = false ∨ ((Region.before ops).getD i 0).testBit j = true) ∨ ((Region.before ops).getD j 0).testBit i = true) ∧ (i = j ∨ o.dst ≠ some t) := by
      intro j o' t ho' ht
      have hj : j < ops.size := (Array.getElem?_eq_some_iff.1 ho').1
      have := List.all_eq_true.1 h6 j (List.mem_range.2 hj)
      simp only [ho', ht, Bool.and_eq_true, Bool.or_eq_true, Bool.not_eq_true'] at this
      obtain ⟨q1, q2⟩ := this
      refine ⟨q1, ?_⟩
      rcases q2 with q2 | q2
      · exact .inl (Nat.eq_of_beq_eq_true q2)
      · right
        intro hod
        rw [hod] at q2
        have q2 : (!Nat.beq t t) = true := q2
        have : Nat.beq t t = true := Nat.beq_refl t
        rw [this] at q2; cases q2
    refine ⟨⟨o, g, d, ho, hg, hd, fun t ht => ?_, fun j o' t ho' hd' hm => ?_, fun j o' t ho' hd' => (key j o' t ho' hd').2⟩, memb_false.1 h1, fun o' ho' e he hb => ?_⟩
    · have := List.all_eq_true.1 h4 t ht
      simpa [Nat.blt_eq] using this
    · rcases (key j o' t ho' hd').1 with (h | h) | h
      · exact absurd hm (memb_false.1 h)
      · exact .inl (before_waits i j h)
      · exact .inr (before_waits j i h)
    · injection ho' with ho'; subst ho'
      have := List.all_eq_true.1 h5 e (by simpa using he)
      rw [hb] at this
      simpa using memb_iff.1 (by simpa using this)
theorem fitB_ok {i : Nat} (h : fitB P ops (Region.before ops) i = true) {o : Oper} (ho : ops[i]? = some o) : ∀ j o' t, ops[j]? = some o' → o'.dst = some t → t ∈ rdOf P ops o → Waits ops i j := by
  intro j o' t ho' ht hm
  unfold fitB at h
  rw [ho] at h
  have hj : j < ops.size := (Array.getElem?_eq_some_iff.1 ho').1
  have := List.all_eq_true.1 h j (List.mem_range.2 hj)
  simp only [ho', ht, Bool.or_eq_true, Bool.not_eq_true'] at this
  rcases this with h | h
  · exact absurd hm (memb_false.1 h)
  · exact before_waits i j h
/-- the temporaries as operation i read them: those that are written by operations ahead stand so in en, those that are written behind stand so in enM -/
def EnI (ops : Array Oper) (i : Nat) (rd : List Nat) (eni en enM : Env) : Prop := ∀ t ∈ rd,
  ((∀ j oj, ops[j]? = some oj → oj.dst = some t → Waits ops i j) ∧ getL AV 3 t eni = getL AV 3 t en) ∨
  ((∃ j oj, ops[j]? = some oj ∧ oj.dst = some t ∧ Waits ops j i ∧ ¬ Waits ops i j) ∧ getL AV 3 t eni = getL AV 3 t enM)
/-- operation i has been carried out by the machine, and not by the model -/
def Pend (P : Program) (ops : Array Oper) (qs : List (Nat × Nat × AO)) (st : List Nat) (h : H) (en enM : Env) (i : Nat) (o : Oper) (g : Gd) (d : Ds) : Prop :=
  ∃ I eni, trH P true o.op = .op I ∧ clsI I < 3 ∧ EnI ops i (rdOf P ops o) eni en enM ∧
    ((GSays g eni false ∧ ∀ t, d = .d t → getL AV 3 t en = undef) ∨
     (GSays g eni true ∧
      ((clsI I = 0 ∧ ∃ v, (∀ t, d = .d t → getL AV 3 t en = v) ∧ ∀ h' nx' κ', dI I eni h' nx' κ' = κ' v h' nx') ∨
       (clsI I = 1 ∧ (i ∈ st ∨ ∃ v, (∀ t, d = .d t → getL AV 3 t en = v) ∧ ∀ h', Ext h h' → ∀ nx' κ', dI I eni h' nx' κ' = κ' v h' nx')) ∨
       (clsI I = 2 ∧ ∃ (a0 : AO) (vf : Nat → AV) (o' : Nat), (i, o', a0) ∈ qs ∧ (∀ t, d = .d t → getL AV 3 t en = vf o') ∧ ∀ h' nx' κ', nx' < 32768 → dI I eni h' nx' κ' = κ' (vf nx') (setO h' nx' a0) (nx' + 1)))))
def Ord (ops : Array Oper) : List Nat → Prop
  | [] => True
  | i :: A => (∀ o, ops[i]? = some o → ∀ e ∈ o.after, Region.binds .any e = true → e.on ∈ A) ∧ Ord ops A
theorem Ord.shut : ∀ {A : List Nat}, Ord ops A → Shut ops (fun i => i ∈ A)
  | [], _, i, hi => by cases hi
  | j :: A, ⟨h1, h2⟩, i, hi => by
    intro o ho e he hb
    rcases List.mem_cons.1 hi with rfl | hi
    · exact List.mem_cons_of_mem _ (h1 o ho e he hb)
    · exact List.mem_cons_of_mem _ (h2.shut i hi o ho e he hb)
/-- a drawn region under way: A: what the machine has carried out, D: what the model has -/
structure Dr (P : Program) (nt : Nat) (ops : Array Oper) (θ : Th) (h : H) (qs : List (Nat × Nat × AO)) (L : List (Bool × Nat)) (A st : List Nat) (en enM : Env) (tmps : Array Value) (π : List Nat) (D : Nat → Prop) : Prop where
  chk : okL P nt ops (Region.before ops) L A st = true
  lin : Lin ops D π
  shut : Shut ops D
  sub : ∀ i, D i → i ∈ A
  ord : Ord ops A
  act : ∀ i ∈ A, 3 ≤ clsAt P ops i → D i
  er : ER θ enM tmps
  agr : ∀ t, t < 512 → (∀ i o, i ∈ A → ¬ D i → ops[i]? = some o → o.dst ≠ some t) → getL AV 3 t en = getL AV 3 t enM
  pend : ∀ i ∈ A, ∃ o g d, Fitd P nt ops i o g d ∧ (¬ D i → Pend P ops qs st h en enM i o g d)
theorem GSays.agree {g : Gd} {en en' : Env} (h : Agree (rdG (some g)) en en') {c : Bool} (hs : GSays g en c) : GSays g en' c := by
  cases hs with
  | yes h1 => exact .yes fun A B => by rw [← dG_agree h]; exact h1 A B
  | no h1 => exact .no fun A B => by rw [← dG_agree h]; exact h1 A B
theorem rdOf_I {o : Oper} {I : I} {g : Gd} (hI : trH P true o.op = .op I) (hg : trG ops o = some g) {en en' : Env} (h : Agree (rdOf P ops o) en en') : Agree (rdI I) en en' ∧ Agree (rdG (some g)) en en' := by
  unfold rdOf at h
  rw [hI, hg] at h
  exact ⟨h.left, h.right⟩
theorem putE_ne {d : Ds} {v : AV} {en : Env} {t : Nat} (ht : t < 512) (hn : nt ≤ 512) {o : Oper} (hd : trD nt o = some d) (hne : o.dst ≠ some t) : getL AV 3 t (putE d v en) = getL AV 3 t en := by
  rcases trD_some hd with ⟨_, rfl⟩ | ⟨s, h1, rfl, h2⟩
  · rfl
  · exact getL_setL_ne (i := s) (j := t) v 3 en (Nat.lt_of_lt_of_le h2 hn) ht (fun e => hne (by rw [h1, e]))
theorem putE_same {d : Ds} {v : AV} {en : Env} {t : Nat} (h : d = .d t) : getL AV 3 t (putE d v en) = v := by
  subst h; exact getL_setL v 3 t en
/-- what is pending stays so, where what it read stands as it stood -/
theorem Pend.move {qs : List (Nat × Nat × AO)} {st : List Nat} {h : H} {en enM en' enM' : Env} {i : Nat} {o : Oper} {g : Gd} {d : Ds} (hp : Pend P ops qs st h en enM i o g d)
    (hd : ∀ t, d = .d t → getL AV 3 t en' = getL AV 3 t en)
    (h1 : ∀ t ∈ rdOf P ops o, (∀ j oj, ops[j]? = some oj → oj.dst = some t → Waits ops i j) → getL AV 3 t en' = getL AV 3 t en)
    (h2 : ∀ t ∈ rdOf P ops o, ∀ j oj, ops[j]? = some oj → oj.dst = some t → Waits ops j i → getL AV 3 t enM' = getL AV 3 t enM) : Pend P ops qs st h en' enM' i o g d := by
  obtain ⟨I, eni, hI, hlt, hE, hp⟩ := hp
  refine ⟨I, eni, hI, hlt, fun t ht => ?_, ?_⟩
  · rcases hE t ht with ⟨q1, q2⟩ | ⟨⟨j, oj, q1, q2, q3, q4⟩, q5⟩
    · exact .inl ⟨q1, by rw [h1 t ht q1]; exact q2⟩
    · exact .inr ⟨⟨j, oj, q1, q2, q3, q4⟩, by rw [h2 t ht j oj q1 q2 q3]; exact q5⟩
  · rcases hp with ⟨p1, p2⟩ | ⟨p1, p2⟩
    · exact .inl ⟨p1, fun t ht => by rw [hd t ht]; exact p2 t ht⟩
    · refine .inr ⟨p1, ?_⟩
      rcases p2 with ⟨c, v', q1, q2⟩ | ⟨c, hs | ⟨v', q1, q2⟩⟩ | ⟨c, a0, vf, o', q1, q2, q3⟩
      · exact .inl ⟨c, v', fun t ht => by rw [hd t ht]; exact q1 t ht, q2⟩
      · exact .inr (.inl ⟨c, .inl hs⟩)
      · exact .inr (.inl ⟨c, .inr ⟨v', fun t ht => by rw [hd t ht]; exact q1 t ht, q2⟩⟩)
      · exact .inr (.inr ⟨c, a0, vf, o', q1, fun t ht => by rw [hd t ht]; exact q2 t ht, q3⟩)
/-- what is pending stays so, where one more is carried out by the machine -/
theorem Pend.put {qs : List (Nat × Nat × AO)} {st : List Nat} {h : H} {en enM enM' : Env} {i : Nat} {o : Oper} {g : Gd} {d : Ds} (hn : nt ≤ 512) (hf : Fitd P nt ops i o g d) (hp : Pend P ops qs st h en enM i o g d)
    {j : Nat} {oj : Oper} {dj : Ds} {v : AV} (hoj : ops[j]? = some oj) (hdj : trD nt oj = some dj) (hij : i ≠ j) (hw : ¬ Waits ops i j)
    (h2 : ∀ t ∈ rdOf P ops o, ∀ j oj, ops[j]? = some oj → oj.dst = some t → Waits ops j i → getL AV 3 t enM' = getL AV 3 t enM) : Pend P ops qs st h (putE dj v en) enM' i o g d := by
  refine hp.move (fun t ht => ?_) (fun t ht hb => ?_) h2
  · rcases trD_some hf.hd with ⟨_, h2⟩ | ⟨s, h1, h2, h3⟩
    · rw [h2] at ht; cases ht
    · rw [h2] at ht; injection ht with ht; subst ht
      refine putE_ne (Nat.lt_of_lt_of_le h3 hn) hn hdj (fun e => ?_)
      rcases hf.ds j oj s hoj e with h | h
      · exact hij h
      · exact h h1
  · exact putE_ne (hf.lt t ht) hn hdj (fun e => hw (hb j oj hoj e))
/-- what another operation writes is not what a later one writes -/
theorem Fitd.keep {j : Nat} {oj : Oper} {gj : Gd} {dj : Ds} (hn : nt ≤ 512) (fj : Fitd P nt ops j oj gj dj) {i : Nat} (hw : ¬ Waits ops j i) {v : AV} {enM : Env} {t : Nat} (ht : t < 512) :
    ∀ k ok, ops[k]? = some ok → ok.dst = some t → Waits ops k i → getL AV 3 t (putE dj v enM) = getL AV 3 t enM := by
  intro k ok hk hkt hki
  refine putE_ne ht hn fj.hd (fun e => ?_)
  rcases fj.ds k ok t hk hkt with h | h
  · subst h; exact hw hki
  · exact h e
theorem Pend.ext {qs qs' : List (Nat × Nat × AO)} {st : List Nat} {h h' : H} {en enM : Env} {i : Nat} {o : Oper} {g : Gd} {d : Ds} (hp : Pend P ops qs st h en enM i o g d) (hx : Ext h h') (hq : ∀ x ∈ qs, x.1 = i → x ∈ qs') : Pend P ops qs' st h' en enM i o g d := by
  obtain ⟨I, eni, hI, hlt, hE, hp⟩ := hp
  refine ⟨I, eni, hI, hlt, hE, hp.imp id fun ⟨p1, p2⟩ => ⟨p1, ?_⟩⟩
  rcases p2 with p2 | ⟨c, hs | ⟨v', q1, q2⟩⟩ | ⟨c, a0, vf, o', q1, q2, q3⟩
  · exact .inl p2
  · exact .inr (.inl ⟨c, .inl hs⟩)
  · exact .inr (.inl ⟨c, .inr ⟨v', q1, fun h'' hx' => q2 h'' (fun o a e => hx' o a (hx o a e))⟩⟩)
  · exact .inr (.inr ⟨c, a0, vf, o', hq _ q1 rfl, q2, q3⟩)
section
variable {θ : Th} {h : H} {qs : List (Nat × Nat × AO)} {L : List (Bool × Nat)} {A st : List Nat} {en enM : Env} {a : Act} {π : List Nat} {D : Nat → Prop} {w0 w : World} {pd : List (Nat × AO)} {nx : Nat} {b : Frame} {k : List Item} {cs : List Frame}
/-- what the model's next operation reads stands there -/
theorem Dr.agree {i : Nat} (hD : Dr P nt ops θ h qs L A st en enM a.tmps (i :: π) D) (hia : i ∉ A) {o : Oper} {g : Gd} {d : Ds} (hf : Fitd P nt ops i o g d) : Agree (rdOf P ops o) en enM := by
  intro t ht
  refine hD.agr t (hf.lt t ht) fun j oj hj hnd hoj hdst => ?_
  rcases hf.rd j oj t hoj hdst ht with h | h
  · exact hnd (h.shut hD.shut hD.lin.2.2.1)
  · exact hia (h.shut hD.ord.shut (fun o ho e he hb => hD.ord.shut j hj o ho e he hb))
/-- what one that is pending read stands there for the model -/
theorem Dr.agreeP {i : Nat} (hD : Dr P nt ops θ h qs L A st en enM a.tmps (i :: π) D) {o : Oper} {g : Gd} {d : Ds} (hf : Fitd P nt ops i o g d) {eni : Env} (hE : EnI ops i (rdOf P ops o) eni en enM) : Agree (rdOf P ops o) eni enM := by
  intro t ht
  rcases hE t ht with ⟨h1, h2⟩ | ⟨_, h2⟩
  · rw [h2]
    exact hD.agr t (hf.lt t ht) fun j oj hj hnd hoj hdst => hnd ((h1 j oj hoj hdst).shut hD.shut hD.lin.2.2.1)
  · exact h2
/-- one that is pending is carried out -/
theorem dr_one {j : Nat} (hD : Dr P nt ops θ h qs L A [] en enM a.tmps (j :: π) D) (hj : j ∈ A) (hR : HR P w0 (qs.map (·.2) ++ pd) θ h nx w) (hsz : nt ≤ a.tmps.size) (hn : nt ≤ 512) :
    ∃ θ' w' qs' enM' a', θ.le θ' ∧ Steps P (lone (b.atR a (.inRegion ops (j :: π) :: k)) cs w) (lone (b.atR a' (.inRegion ops π :: k)) cs w') ∧ HR P w0 (qs'.map (·.2) ++ pd) θ' h nx w' ∧
      Dr P nt ops θ' h qs' L A [] en enM' a'.tmps π (fun x => D x ∨ x = j) ∧ a'.tmps.size = a.tmps.size ∧ a'.defers = a.defers := by
  obtain ⟨hlt, hnd, hdeps, hlin⟩ := hD.lin
  obtain ⟨o, g, d, hf, hpend⟩ := hD.pend j hj
  obtain ⟨I, eni, hI, hcl, hEni, hp⟩ := hpend hnd
  have hag := hD.agreeP hf hEni
  obtain ⟨a1, a2⟩ := rdOf_I hI hf.hg hag
  have hI' : dI I enM = dI I eni := (dI_agree a1).symm
  have hcls := cls_of hI
  -- what is left
  have fin' : ∀ {θ' : Th} {w' : World} {qs' : List (Nat × Nat × AO)} {v : AV} {u : Value}, θ.le θ' → VR θ' v u → (∀ t, d = .d t → getL AV 3 t en = v) → (∀ x ∈ qs, x.1 ≠ j → x ∈ qs') →
      Dr P nt ops θ' h qs' L A [] en (putE d v enM) (a.put o.dst u).tmps π (fun x => D x ∨ x = j) := by
    intro θ' w' qs' v u hle hvr hval hq
    refine ⟨hD.chk, hlin, ?_, ?_, hD.ord, fun i hi hc => .inl (hD.act i hi hc), er_put hf.hd (hD.er.mono hle) hsz hn hvr, ?_, ?_⟩
    · rintro i (hi | rfl) o' ho' e he hb
      · exact .inl (hD.shut i hi o' ho' e he hb)
      · exact .inl (hdeps o' ho' e he hb)
    · rintro i (hi | rfl)
      · exact hD.sub i hi
      · exact hj
    · intro t ht hno
      by_cases e : o.dst = some t
      · rcases trD_some hf.hd with ⟨h1, _⟩ | ⟨s, h1, h2, _⟩
        · rw [h1] at e; cases e
        · rw [h1] at e; injection e with e
          have hd : d = .d t := by rw [h2]; exact congrArg Ds.d e
          rw [putE_same hd]; exact hval t hd
      · rw [putE_ne ht hn hf.hd e]
        refine hD.agr t ht fun i o' hi hnd' ho' => ?_
        by_cases hij : i = j
        · subst hij
          rw [hf.ho] at ho'; injection ho' with ho'; subst ho'; exact e
        · exact hno i o' hi (fun h => h.elim hnd' hij) ho'
    · intro i hi
      obtain ⟨o', g', d', hf', hp'⟩ := hD.pend i hi
      refine ⟨o', g', d', hf', fun hnd' => ?_⟩
      have hwj : ¬ Waits ops j i := fun hw => hnd' (.inl (hw.shut hD.shut hdeps))
      exact ((hp' fun h => hnd' (.inl h)).move (fun _ _ => rfl) (fun _ _ _ => rfl) (fun t ht => hf.keep hn hwj (hf'.lt t ht))).ext (Ext.refl h) (fun x hx hxi => hq x hx (fun e => hnd' (.inr (hxi ▸ e))))
  rcases hp with ⟨p1, p2⟩ | ⟨p1, p2⟩
  · have p1' := p1.agree a2
    have hw : Region.wanted o (yielded ops a.tmps) = false := by
      have e : dG g enM false true = true := by cases p1' with | no h => exact h _ _
      rcases gd_ok hf.hg hD.er e with ⟨_, h, _⟩ | ⟨_, _, h⟩
      · cases h
      · exact h
    exact ⟨θ, w, qs, _, _, .refl θ, step_unwanted hf.ho hw, hR, fin' (w' := w) (.refl θ) (vr_undef θ) p2 (fun x hx _ => hx), put_size, put_defers⟩
  · have p1' := p1.agree a2
    have hw : Region.wanted o (yielded ops a.tmps) = true := by
      have e : dG g enM true false = true := by cases p1' with | yes h => exact h _ _
      rcases gd_ok hf.hg hD.er e with ⟨_, _, h⟩ | ⟨_, h, _⟩
      · exact h
      · cases h
    rcases p2 with ⟨c, v, q1, q2⟩ | ⟨c, hs | ⟨v, q1, q2⟩⟩ | ⟨c, a0, vf, o', q1, q2, q3⟩
    · unfold Cls at hcls
      rw [c] at hcls
      obtain ⟨v', k1, k2⟩ := hcls enM h nx (fun _ _ _ => true) (by rw [hI', q2])
      obtain ⟨u, k3, k4⟩ := k2 θ a w hD.er
      have hv : v' = v := by
        have := k1 h nx (is1 v)
        rw [hI', q2] at this
        have h2 : is1 v v h nx = true := by simp [is1]
        rw [h2] at this
        simpa [is1] using this.symm
      subst hv
      exact ⟨θ, w, qs, _, _, .refl θ, step_value hf.ho hw k4 rfl, hR, fin' (w' := w) (.refl θ) k3 q1 (fun x hx _ => hx), put_size, put_defers⟩
    · cases hs
    · unfold Cls at hcls
      rw [c] at hcls
      obtain ⟨v', k1, k2⟩ := hcls enM h nx (fun _ _ _ => true) (by rw [hI', q2 h (Ext.refl h)])
      obtain ⟨u, k3, k4⟩ := k2 θ a w w0 _ nx hD.er hR
      have hv : v' = v := by
        have := k1 h (Ext.refl h) nx (is1 v)
        rw [hI', q2 h (Ext.refl h)] at this
        have h2 : is1 v v h nx = true := by simp [is1]
        rw [h2] at this
        simpa [is1] using this.symm
      subst hv
      exact ⟨θ, w, qs, _, _, .refl θ, step_value hf.ho hw k4 rfl, hR, fin' (w' := w) (.refl θ) k3 q1 (fun x hx _ => hx), put_size, put_defers⟩
    · unfold Cls at hcls
      rw [c] at hcls
      obtain ⟨a0', vf', k0, _, _, k1, k2⟩ := hcls enM h 0 (fun _ _ _ => true) (by rw [hI', q3 h 0 _ (by omega)])
      have hmem : (o', a0) ∈ qs.map (·.2) ++ pd := List.mem_append_left _ (List.mem_map.2 ⟨_, q1, rfl⟩)
      have ho' : o' < 32768 := Nat.lt_of_lt_of_le (hR.pend o' a0 hmem).2.1 hR.lim
      have hsame : vf' o' = vf o' ∧ a0' = a0 := by
        have := k1 h o' (fun v hh _ => @decide (v = vf o' ∧ hh = setO h o' a0) (Classical.propDecidable _)) ho'
        rw [hI', q3 h o' _ ho'] at this
        have h2 : (vf' o' = vf o' ∧ setO h o' a0' = setO h o' a0) := by simpa using this.symm
        refine ⟨h2.1, ?_⟩
        have e1 := obj_set h o' a0'
        rw [h2.2, obj_set] at e1
        injection e1 with e1; exact e1.symm
      obtain ⟨s1, s2⟩ := hsame
      subst s2
      obtain ⟨u, θ', w', m1, m2, m3, m4⟩ := k2 w0 _ θ a w h nx o' hD.er hR hmem
      rw [s1] at m2
      have hnod := hR.nodup
      rw [List.map_append, List.nodup_append] at hnod
      have hqn : (qs.map (fun x => x.2.1)).Nodup := by
        have := hnod.1
        rw [List.map_map] at this
        exact this
      refine ⟨θ', w', qs.filter (fun x => x.2.1 != o'), _, _, m1, step_value hf.ho hw m4 rfl, ?_, fin' (w' := w') m1 m2 q2 (fun x hx hxj => ?_), put_size, put_defers⟩
      · have e1 : (qs.map (·.2) ++ pd).filter (fun q => q.1 != o') = (qs.filter (fun x => x.2.1 != o')).map (·.2) ++ pd := by
          rw [List.filter_append]
          congr 1
          · rw [List.filter_map]; rfl
          · apply List.filter_eq_self.2
            intro q hq
            have : q.1 ≠ o' := fun e => hnod.2.2 o' (List.mem_map.2 ⟨(o', a0'), List.mem_map.2 ⟨_, q1, rfl⟩, rfl⟩) q.1 (List.mem_map.2 ⟨q, hq, rfl⟩) e.symm
            simpa using this
        rw [← e1]; exact m3
      · rw [List.mem_filter]
        refine ⟨hx, ?_⟩
        have : x.2.1 ≠ o' := fun e => hxj (by rw [inj_of_nodup hqn hx q1 e])
        simpa using this
theorem okL_cover : ∀ {L : List (Bool × Nat)} {A st : List Nat}, okL P nt ops (Region.before ops) L A st = true → ∀ i, i < ops.size → i ∈ A ∨ (false, i) ∈ L
  | [], A, st, h, i, hi => by
    simp only [okL, Bool.and_eq_true] at h
    exact .inl (memb_iff.1 (List.all_eq_true.1 h.2 i (List.mem_range.2 hi)))
  | (true, j) :: L, A, st, h, i, hi => by
    simp only [okL, Bool.and_eq_true] at h
    exact (okL_cover h.2 i hi).imp id (List.mem_cons_of_mem _)
  | (false, j) :: L, A, st, h, i, hi => by
    simp only [okL, Bool.and_eq_true] at h
    have : ∃ st', okL P nt ops (Region.before ops) L (j :: A) st' = true := by
      have h2 := h.2
      split at h2
      · exact ⟨_, h2⟩
      · simp only [Bool.and_eq_true] at h2; exact ⟨_, h2.2⟩
    obtain ⟨st', h2⟩ := this
    rcases okL_cover h2 i hi with h3 | h3
    · rcases List.mem_cons.1 h3 with rfl | h3
      · exact .inr (List.mem_cons_self ..)
      · exact .inl h3
    · exact .inr (List.mem_cons_of_mem _ h3)
theorem all_done : ∀ {A : List Nat}, Ord ops A → (∀ i ∈ A, ∃ o, ops[i]? = some o) → Lin ops D [] → ∀ i ∈ A, D i
  | [], _, _, _, i, hi => by cases hi
  | j :: A, ⟨h1, h2⟩, hex, hl, i, hi => by
    have ih := all_done h2 (fun i hi => hex i (List.mem_cons_of_mem _ hi)) hl
    rcases List.mem_cons.1 hi with rfl | hi
    · apply Classical.byContradiction
      intro hn
      obtain ⟨o, ho⟩ := hex i (List.mem_cons_self ..)
      obtain ⟨e, he, hb, hnd⟩ := hl i o ho hn
      exact hnd (ih _ (h1 o ho e he hb))
    · exact ih i hi
/-- the model catches up with the machine's next act -/
theorem dr_catch {i : Nat} (hi : i < ops.size) (hia : i ∉ A) (hdeps : ∀ o, ops[i]? = some o → ∀ e ∈ o.after, Region.binds .any e = true → e.on ∈ A) (hlater : ∀ j, j < ops.size → j ∉ A → j = i ∨ Waits ops j i) (hn : nt ≤ 512) :
    ∀ (π : List Nat) (θ : Th) (qs : List (Nat × Nat × AO)) (enM : Env) (a : Act) (D : Nat → Prop) (w : World), Dr P nt ops θ h qs L A [] en enM a.tmps π D → HR P w0 (qs.map (·.2) ++ pd) θ h nx w → nt ≤ a.tmps.size →
      ∃ π' θ' qs' enM' a' D' w', θ.le θ' ∧ Steps P (lone (b.atR a (.inRegion ops π :: k)) cs w) (lone (b.atR a' (.inRegion ops (i :: π') :: k)) cs w') ∧ HR P w0 (qs'.map (·.2) ++ pd) θ' h nx w' ∧
        Dr P nt ops θ' h qs' L A [] en enM' a'.tmps (i :: π') D' ∧ a'.tmps.size = a.tmps.size ∧ a'.defers = a.defers := by
  intro π
  induction π with
  | nil =>
    intro θ qs enM a D w hD hR hsz
    have hall := all_done hD.ord (fun i hi => let ⟨o, _, _, hf, _⟩ := hD.pend i hi; ⟨o, hf.ho⟩) hD.lin
    have ho : ops[i]? = some ops[i] := Array.getElem?_eq_getElem hi
    obtain ⟨e, he, hb, hnd⟩ := hD.lin i _ ho (fun hd => hia (hD.sub i hd))
    exact absurd (hall _ (hdeps _ ho e he hb)) hnd
  | cons j π ih =>
    intro θ qs enM a D w hD hR hsz
    by_cases hji : j = i
    · subst hji
      exact ⟨π, θ, qs, enM, a, D, w, .refl θ, .refl P _, hR, hD, rfl, rfl⟩
    · have hj : j ∈ A := by
        apply Classical.byContradiction
        intro hja
        rcases hlater j hD.lin.1 hja with h | h
        · exact hji h
        · exact hia (hD.sub i (h.shut hD.shut hD.lin.2.2.1))
      obtain ⟨θ', w', qs', enM', a', k1, k2, k3, k4, k5, k6⟩ := dr_one (b := b) (k := k) (cs := cs) hD hj hR hsz hn
      obtain ⟨π', θ'', qs'', enM'', a'', D'', w'', m1, m2, m3, m4, m5, m6⟩ := ih θ' qs' enM' a' _ w' k4 k3 (by omega)
      exact ⟨π', θ'', qs'', enM'', a'', D'', w'', k1.trans m1, k2.trans m2, m3, m4, m5.trans k5, m6.trans k6⟩
/-- the model catches up with the machine at the region's end -/
theorem dr_end (hall : ∀ i, i < ops.size → i ∈ A) (hn : nt ≤ 512) :
    ∀ (π : List Nat) (θ : Th) (qs : List (Nat × Nat × AO)) (enM : Env) (a : Act) (D : Nat → Prop) (w : World), Dr P nt ops θ h qs L A [] en enM a.tmps π D → HR P w0 (qs.map (·.2) ++ pd) θ h nx w → nt ≤ a.tmps.size →
      ∃ θ' a' w', θ.le θ' ∧ Steps P (lone (b.atR a (.inRegion ops π :: k)) cs w) (lone (b.atR a' k) cs w') ∧ HR P w0 pd θ' h nx w' ∧ ER θ' en a'.tmps ∧ a'.tmps.size = a.tmps.size ∧ a'.defers = a.defers := by
  intro π
  induction π with
  | nil =>
    intro θ qs enM a D w hD hR hsz
    have hdone := all_done hD.ord (fun i hi => let ⟨o, _, _, hf, _⟩ := hD.pend i hi; ⟨o, hf.ho⟩) hD.lin
    refine ⟨θ, a, w, .refl θ, .one stepR_region_end, ?_, fun t ht => ?_, rfl, rfl⟩
    · refine ⟨hR.lim, hR.own, hR.apart, hR.size, hR.kept, hR.plain, fun o a ho => hR.pend o a (List.mem_append_right _ ho), ?_, hR.fresh⟩
      have := hR.nodup
      rw [List.map_append, List.nodup_append] at this
      exact this.2.1
    · have := hD.agr t ht (fun i o hi hnd _ => absurd (hdone i hi) hnd)
      rw [this]
      exact hD.er t ht
  | cons j π ih =>
    intro θ qs enM a D w hD hR hsz
    obtain ⟨θ', w', qs', enM', a', k1, k2, k3, k4, k5, k6⟩ := dr_one (b := b) (k := k) (cs := cs) hD (hall j hD.lin.1) hR hsz hn
    obtain ⟨θ'', a'', w'', m1, m2, m3, m4, m5, m6⟩ := ih θ' qs' enM' a' _ w' k4 k3 (by omega)
    exact ⟨θ'', a'', w'', k1.trans m1, k2.trans m2, m3, m4, m5.trans k5, m6.trans k6⟩
/-- an act was carried out by both -/
theorem dr_act {i : Nat} (hD : Dr P nt ops θ h qs ((false, i) :: L) A [] en enM a.tmps (i :: π) D) (hcl : 3 ≤ clsAt P ops i) {o : Oper} {g : Gd} {d : Ds} (hf : Fitd P nt ops i o g d) (hsz : nt ≤ a.tmps.size) (hn : nt ≤ 512)
    {θ' : Th} (hle : θ.le θ') (h' : H) {v : AV} {u : Value} (hv : VR θ' v u) :
    ∃ st', Dr P nt ops θ' h' qs L (i :: A) st' (putE d v en) (putE d v enM) (a.put o.dst u).tmps π (fun x => D x ∨ x = i) := by
  have hchk := hD.chk
  simp only [okL, Bool.and_eq_true] at hchk
  obtain ⟨hfit, hrest⟩ := hchk
  obtain ⟨_, hia, hdepA⟩ := fitL_ok hfit
  rw [if_neg (by omega)] at hrest
  simp only [Bool.and_eq_true] at hrest
  obtain ⟨hlt, hnd, hdeps, hlin⟩ := hD.lin
  refine ⟨A.filter fun j => Nat.beq (clsAt P ops j) 1 && !(((Region.before ops).getD i 0).testBit j), hrest.2, hlin, ?_, ?_, ⟨fun o' ho' e he hb => hdepA o' ho' e he hb, hD.ord⟩, ?_, er_put hf.hd (hD.er.mono hle) hsz hn hv, ?_, ?_⟩
  · rintro j (hj | rfl) o' ho' e he hb
    · exact .inl (hD.shut j hj o' ho' e he hb)
    · exact .inl (hdeps o' ho' e he hb)
  · rintro j (hj | rfl)
    · exact List.mem_cons_of_mem _ (hD.sub j hj)
    · exact List.mem_cons_self ..
  · intro j hj hc
    rcases List.mem_cons.1 hj with rfl | hj
    · exact .inr rfl
    · exact .inl (hD.act j hj hc)
  · intro t ht hno
    by_cases e : o.dst = some t
    · rcases trD_some hf.hd with ⟨h1, _⟩ | ⟨s, h1, h2, _⟩
      · rw [h1] at e; cases e
      · rw [h1] at e; injection e with e
        have hd : d = .d t := by rw [h2]; exact congrArg Ds.d e
        rw [putE_same hd, putE_same hd]
    · rw [putE_ne ht hn hf.hd e, putE_ne ht hn hf.hd e]
      exact hD.agr t ht fun j o' hj hnd' ho' => hno j o' (List.mem_cons_of_mem _ hj) (fun h => h.elim hnd' (fun e => hia (e ▸ hj))) ho'
  · intro j hj
    rcases List.mem_cons.1 hj with rfl | hj
    · exact ⟨o, g, d, hf, fun h => absurd (.inr rfl) h⟩
    · obtain ⟨o', g', d', hf', hp'⟩ := hD.pend j hj
      refine ⟨o', g', d', hf', fun hnd' => ?_⟩
      have hji : j ≠ i := fun e => hia (e ▸ hj)
      have hw : ¬ Waits ops j i := fun h => hia (h.shut hD.ord.shut (fun o ho e he hb => hD.ord.shut j hj o ho e he hb))
      have hwi : ¬ Waits ops i j := fun hw => hnd' (.inl (hw.shut hD.shut hdeps))
      have hp := (hp' fun h => hnd' (.inl h)).put (v := v) hn hf' hf.ho hf.hd hji hw (fun t ht => hf.keep (v := v) (enM := enM) hn hwi (hf'.lt t ht))
      obtain ⟨I, eni, hI, hc, hEi, hp⟩ := hp
      refine ⟨I, eni, hI, hc, hEi, hp.imp id fun ⟨p1, p2⟩ => ⟨p1, ?_⟩⟩
      rcases p2 with p2 | ⟨c, _⟩ | p2
      · exact .inl p2
      · refine .inr (.inl ⟨c, .inl ?_⟩)
        rw [List.mem_filter]
        refine ⟨hj, ?_⟩
        have hcj : clsAt P ops j = 1 := by unfold clsAt cls; rw [hf'.ho]; simp only [hI, clsH]; exact c
        have hnb : ((Region.before ops).getD i 0).testBit j = false := by
          cases hb : ((Region.before ops).getD i 0).testBit j with
          | false => rfl
          | true => exact absurd (.inl ((before_waits i j hb).shut hD.shut hdeps)) hnd'
        rw [hcj, hnb]; rfl
      · exact .inr (.inr p2)
end
end
end Go.AM
