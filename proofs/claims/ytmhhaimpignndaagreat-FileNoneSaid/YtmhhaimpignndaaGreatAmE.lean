/-
  AM, 6: new objects, changed objects: what becomes of the heap. Conditions: none.
-/
import Derived.Test.YtmhhaimpignndaaGreatAmD
namespace Go.AM
open Go

/-- an object laid at block b -/
def Th.put (θ : Th) (o b bs sz es : Nat) : Th where
  has x := x = o ∨ θ.has x
  blk x := if x = o then b else θ.blk x
  bas x := if x = o then bs else θ.bas x
  siz x := if x = o then sz else θ.siz x
  esz x := if x = o then es else θ.esz x
  ini := θ.ini
  ext := θ.ext
  ext1 := θ.ext1
theorem Th.le_put {θ : Th} {o : Nat} (h : ¬ θ.has o) (b bs sz es : Nat) : θ.le (θ.put o b bs sz es) := by
  have ne : ∀ x, θ.has x → x ≠ o := fun x hx e => h (e ▸ hx)
  exact ⟨fun x hx => .inr hx, fun x hx => by simp [Th.put, ne x hx], fun x hx => by simp [Th.put, ne x hx], fun x hx => by simp [Th.put, ne x hx], fun x hx => by simp [Th.put, ne x hx], rfl, rfl⟩
@[simp] theorem Th.put_has (θ : Th) (o b bs sz es : Nat) : (θ.put o b bs sz es).has o := .inl rfl
@[simp] theorem Th.put_blk (θ : Th) (o b bs sz es : Nat) : (θ.put o b bs sz es).blk o = b := by simp [Th.put]
@[simp] theorem Th.put_bas (θ : Th) (o b bs sz es : Nat) : (θ.put o b bs sz es).bas o = bs := by simp [Th.put]
@[simp] theorem Th.put_siz (θ : Th) (o b bs sz es : Nat) : (θ.put o b bs sz es).siz o = sz := by simp [Th.put]
@[simp] theorem Th.put_esz (θ : Th) (o b bs sz es : Nat) : (θ.put o b bs sz es).esz o = es := by simp [Th.put]

abbrev setO (h : H) (o : Nat) (a : AO) : H := setL (Option AO) (some a) 5 o h
theorem obj_set (h : H) (o : Nat) (a : AO) : obj (setO h o a) o = some a := getL_setL _ _ _ _
theorem obj_set_ne (h : H) {o o' : Nat} (a : AO) (ho : o < 32768) (ho' : o' < 32768) (hn : o' ≠ o) : obj (setO h o a) o' = obj h o' := getL_setL_ne _ 5 _ ho ho' hn
theorem put_eq (o : Nat) (a : AO) (h : H) (κ : H → R) : put o a h κ = κ (setO h o a) := setK_eq _ _ _ _ _
theorem get_true {o : Nat} {h : H} {κ : AO → R} (e : get o h κ = true) : ∃ a, obj h o = some a ∧ κ a = true := by
  unfold get at e
  rw [getK_eq] at e
  cases ha : getL (Option AO) 5 o h with
  | none => rw [ha] at e; cases e
  | some a => rw [ha] at e; exact ⟨a, ha, e⟩
/-- dead, all of them -/
def killL : List Nat → H → H
  | [], h => h
  | o :: r, h => killL r (setO h o .dead)
theorem killK_eq : ∀ (sh : List Nat) (h : H) (κ : H → R), killK sh h κ = κ (killL sh h)
  | [], _, _ => rfl
  | o :: r, h, κ => by
    show put o .dead h (fun h => killK r h κ) = _
    rw [put_eq, killK_eq r]
    rfl
theorem obj_kill : ∀ (sh : List Nat) (h : H) (o : Nat), o < 32768 → (∀ x ∈ sh, x < 32768) → obj (killL sh h) o = if o ∈ sh then some .dead else obj h o
  | [], _, _, _, _ => by simp [killL]
  | x :: r, h, o, ho, hs => by
    rw [killL, obj_kill r _ o ho (fun y hy => hs y (List.mem_cons_of_mem _ hy))]
    by_cases hr : o ∈ r
    · simp [hr]
    · by_cases hx : o = x
      · subst hx; simp [hr, obj_set]
      · simp [hr, hx, obj_set_ne h .dead (hs x (List.mem_cons_self ..)) ho hx]
theorem br_true {c : Bool} {a b : R} (h : br c a b = true) : (c = true ∧ a = true) ∨ (c = false ∧ b = true) := by
  cases c
  · exact .inr ⟨rfl, h⟩
  · exact .inl ⟨rfl, h⟩
theorem br_t {c : Bool} {a : R} (h : br c a false = true) : c = true ∧ a = true := by
  cases c
  · cases h
  · exact ⟨rfl, h⟩
theorem br_f {c : Bool} {b : R} (h : br c false b = true) : c = false ∧ b = true := by
  cases c
  · exact ⟨rfl, h⟩
  · cases h
theorem fnat_eq (n : Nat) (κ : Nat → R) : fnat n κ = κ n := by cases n <;> rfl
theorem fint_eq (n : Int) (κ : Int → R) : fint n κ = κ n := by
  cases n with
  | ofNat n => exact fnat_eq n fun m => κ (.ofNat m)
  | negSucc n => exact fnat_eq n fun m => κ (.negSucc m)
theorem fbool_eq (c : Bool) (κ : Bool → R) : fbool c κ = κ c := by cases c <;> rfl

section
variable {P : Program} {w0 w w' : World} {pd : List (Nat × AO)} {θ : Th} {h : H} {nx : Nat}
theorem HR.lt32 (hr : HR P w0 pd θ h nx w) {o : Nat} (ho : θ.has o) : o < 32768 := Nat.lt_of_lt_of_le (hr.own o ho).1 hr.lim
theorem Fresh.set {h : H} {n n' o : Nat} {a : AO} (hf : Fresh h n) (hle : n ≤ n') (ho : o < n') (h32 : o < 32768) : Fresh (setO h o a) n' := by
  intro p b hp hb
  by_cases e : p = o
  · rw [e]; exact ho
  · rw [obj_set_ne h a h32 hp e] at hb
    exact Nat.lt_of_lt_of_le (hf p b hp hb) hle
/-- only the tape goes on -/
theorem HR.same (hr : HR P w0 pd θ h nx w) (hh : w'.heap = w.heap) (hp : w'.os = w.os ∧ w'.tape = w.tape ∧ w'.output = w.output) : HR P w0 pd θ h nx w' where
  lim := hr.lim
  own o ho := by
    obtain ⟨a1, a2, a3, a, a4, a5, a6⟩ := hr.own o ho
    exact ⟨a1, a2, by rw [hh]; exact a3, a, a4, a5.mono (.refl θ) ho (by rw [hh]), a6⟩
  apart := hr.apart
  size := by rw [hh]; exact hr.size
  kept b hb hi := by rw [hh]; exact hr.kept b hb hi
  plain := ⟨hp.1.trans hr.plain.1, hp.2.1.trans hr.plain.2.1, hp.2.2.trans hr.plain.2.2⟩
  pend := hr.pend
  nodup := hr.nodup
  fresh := hr.fresh
/-- a new object in a new block -/
theorem HR.new (hr : HR P w0 pd θ h nx w) {ob : Obj} (hh : w'.heap = w.heap.push ob) (hp : w'.os = w.os ∧ w'.tape = w.tape ∧ w'.output = w.output) (hn : nx < 32768)
    {a : AO} {bs sz es : Nat} (ha : OR P (θ.put nx w.heap.size bs sz es) w' nx a) (hsh : ∀ x ∈ a.sh, θ.has x) :
    HR P w0 pd (θ.put nx w.heap.size bs sz es) (setO h nx a) (nx + 1) w' ∧ θ.le (θ.put nx w.heap.size bs sz es) := by
  have hnx : ¬ θ.has nx := fun hx => Nat.lt_irrefl _ (hr.own nx hx).1
  have hle := Th.le_put hnx w.heap.size bs sz es
  have hold : ∀ b, b < w.heap.size → w'.heap[b]? = w.heap[b]? := fun b hb => by rw [hh, Array.getElem?_push_lt hb, Array.getElem?_eq_getElem hb]
  have hob : ∀ o, θ.has o → obj (setO h nx a) o = obj h o := fun o ho => obj_set_ne h a hn (hr.lt32 ho) (fun e => hnx (e ▸ ho))
  refine ⟨⟨by omega, ?_, ?_, ?_, ?_, ?_, ?_, hr.nodup, hr.fresh.set (by omega) (by omega) hn⟩, hle⟩
  · intro o ho
    by_cases e : o = nx
    · subst e
      exact ⟨by omega, .inl (by rw [Th.put_blk]; exact hr.size), by rw [Th.put_blk, hh]; simp, a, obj_set _ _ _, ha, fun x hx => hle.has x (hsh x hx)⟩
    · have ho' : θ.has o := ho.resolve_left e
      obtain ⟨a1, a2, a3, b, a4, a5, a6⟩ := hr.own o ho'
      refine ⟨by omega, by rw [hle.blk o ho']; exact a2, by rw [hle.blk o ho', hh]; simp; omega, b, by rw [hob o ho']; exact a4, a5.mono hle ho' (hold _ a3), fun x hx => hle.has x (a6 x hx)⟩
  · intro o o' b b' hne ho ho' hb hb' hw hl heq
    by_cases e : o = nx
    · subst e
      by_cases e' : o' = o
      · exact absurd e'.symm hne
      · have h' : θ.has o' := ho'.resolve_left e'
        rw [Th.put_blk, hle.blk o' h'] at heq
        have := (hr.own o' h').2.2.1
        omega
    · have h1 : θ.has o := ho.resolve_left e
      by_cases e' : o' = nx
      · subst e'
        rw [Th.put_blk, hle.blk o h1] at heq
        have := (hr.own o h1).2.2.1
        omega
      · have h2 : θ.has o' := ho'.resolve_left e'
        rw [hob o h1] at hb
        rw [hob o' h2] at hb'
        rw [hle.blk o h1, hle.blk o' h2] at heq
        have := hr.apart o o' b b' hne h1 h2 hb hb' hw hl heq
        refine ⟨this.1, ?_⟩
        have hx : ∀ (c : AO) (p : Nat), θ.has p → c.ext (θ.put nx w.heap.size bs sz es) p = c.ext θ p := fun c p hp => by cases c <;> simp only [AO.ext, hle.bas p hp]
        rw [hx b' o' h2, hx b o h1]; exact this.2
  · rw [hh]; simp; have := hr.size; omega
  · intro b hb hi; rw [hold b (Nat.lt_of_lt_of_le hb hr.size)]; exact hr.kept b hb hi
  · exact ⟨hp.1.trans hr.plain.1, hp.2.1.trans hr.plain.2.1, hp.2.2.trans hr.plain.2.2⟩
  · intro o b hb
    obtain ⟨p1, p2, p3⟩ := hr.pend o b hb
    exact ⟨fun hx => hx.elim (fun e => by omega) p1, by omega, by rw [obj_set_ne h a hn (Nat.lt_of_lt_of_le p2 hr.lim) (by omega)]; exact p3⟩
/-- an object changed, that may be written: what showed its cells is dead -/
theorem HR.upd (hr : HR P w0 pd θ h nx w) {o : Nat} {a a' : AO} (ho : θ.has o) (ha : obj h o = some a) (hw : a.wr = true) (hsz : w'.heap.size = w.heap.size)
    (hh : ∀ b, b ≠ θ.blk o → w'.heap[b]? = w.heap[b]?) (hp : w'.os = w.os ∧ w'.tape = w.tape ∧ w'.output = w.output) (ha' : OR P θ w' o a') (hs' : ∀ x ∈ a'.sh, θ.has x) :
    HR P w0 pd θ (killL a.sh (setO h o a')) nx w' := by
  have hsh : ∀ x ∈ a.sh, θ.has x := by
    obtain ⟨_, _, _, b, h1, _, h2⟩ := hr.own o ho
    rw [ha] at h1; injection h1 with h1; subst h1; exact h2
  have hob : ∀ p, p < 32768 → obj (killL a.sh (setO h o a')) p = if p ∈ a.sh then some .dead else obj (setO h o a') p := fun p hp => obj_kill _ _ _ hp (fun x hx => hr.lt32 (hsh x hx))
  refine ⟨hr.lim, ?_, ?_, by rw [hsz]; exact hr.size, ?_, ⟨hp.1.trans hr.plain.1, hp.2.1.trans hr.plain.2.1, hp.2.2.trans hr.plain.2.2⟩, ?_, hr.nodup, fun p b hp hb => by
    rw [hob p hp] at hb
    split at hb
    · rename_i hm; exact (hr.own p (hsh p hm)).1
    · exact hr.fresh.set (Nat.le_refl _) (hr.own o ho).1 (hr.lt32 ho) p b hp hb⟩
  · intro p hpp
    obtain ⟨a1, a2, a3, b, a4, a5, a6⟩ := hr.own p hpp
    refine ⟨a1, a2, by rw [hsz]; exact a3, ?_⟩
    rw [hob p (hr.lt32 hpp)]
    by_cases hm : p ∈ a.sh
    · exact ⟨.dead, by simp [hm], trivial, fun x hx => by simp [AO.sh] at hx⟩
    · by_cases e : p = o
      · subst e
        exact ⟨a', by simp [hm, obj_set], ha', hs'⟩
      · rw [if_neg hm, obj_set_ne h a' (hr.lt32 ho) (hr.lt32 hpp) e]
        by_cases hb : θ.blk p = θ.blk o
        · cases hl : b.live with
          | true => exact absurd (hr.apart o p a b (fun e' => e e'.symm) ho hpp ha a4 hw hl hb.symm).1 hm
          | false =>
            cases b <;> simp [AO.live] at hl
            exact ⟨.dead, a4, trivial, fun x hx => by simp [AO.sh] at hx⟩
        · exact ⟨b, a4, a5.mono (.refl θ) hpp (hh _ hb), a6⟩
  · intro p q b b' hne h1 h2 hb hb' hbw hl heq
    have get : ∀ (r : Nat) (c : AO), θ.has r → obj (killL a.sh (setO h o a')) r = some c → c.live = true → r ∉ a.sh ∧ ((r = o ∧ c = a') ∨ (r ≠ o ∧ obj h r = some c)) := by
      intro r c hrr hc hcl
      rw [hob r (hr.lt32 hrr)] at hc
      by_cases hm : r ∈ a.sh
      · rw [if_pos hm] at hc; injection hc with hc; subst hc; simp [AO.live] at hcl
      · rw [if_neg hm] at hc
        refine ⟨hm, ?_⟩
        by_cases e : r = o
        · subst e; rw [obj_set] at hc; injection hc with hc; exact .inl ⟨rfl, hc.symm⟩
        · rw [obj_set_ne h a' (hr.lt32 ho) (hr.lt32 hrr) e] at hc; exact .inr ⟨e, hc⟩
    have hbl : b.live = true := by cases b <;> first | rfl | simp [AO.wr] at hbw
    obtain ⟨hm1, g1⟩ := get p b h1 hb hbl
    obtain ⟨hm2, g2⟩ := get q b' h2 hb' hl
    rcases g1 with ⟨rfl, rfl⟩ | ⟨e1, g1⟩
    · rcases g2 with ⟨rfl, rfl⟩ | ⟨e2, g2⟩
      · exact absurd rfl hne
      · exact absurd (hr.apart _ q a b' hne h1 h2 ha g2 hw hl heq).1 hm2
    · rcases g2 with ⟨rfl, rfl⟩ | ⟨e2, g2⟩
      · exact absurd (hr.apart _ p a b (fun e => hne e.symm) h2 h1 ha g1 hw hbl heq.symm).1 hm1
      · exact hr.apart p q b b' hne h1 h2 g1 g2 hbw hl heq
  · intro b hb hi
    have := (hr.own o ho).2.1
    rw [hh b (fun e => by subst e; exact this.elim (fun h => by omega) hi)]; exact hr.kept b hb hi
  · intro p b hb
    obtain ⟨p1, p2, p3⟩ := hr.pend p b hb
    refine ⟨p1, p2, ?_⟩
    rw [hob p (Nat.lt_of_lt_of_le p2 hr.lim), if_neg (fun hm => p1 (hsh p hm)), obj_set_ne h a' (hr.lt32 ho) (Nat.lt_of_lt_of_le p2 hr.lim) (fun e => p1 (e ▸ ho))]
    exact p3
end
end Go.AM
