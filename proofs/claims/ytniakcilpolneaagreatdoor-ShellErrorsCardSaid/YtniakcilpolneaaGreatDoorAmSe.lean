/-
  AM, 34: how many sectors all files have, in whatever order they come. Conditions: none.
-/
import Derived.Test.YtniakcilpolneaaGreatDoorAmSd
namespace Go.AM
open Go

noncomputable def uR0 : SegF := sOp (dT 2) (oMv (xC (.i 3 (.ofNat 0)))) sNil
noncomputable def uR1 : SegF := sOp (dT 6) (oMv (xT 0)) <| sOp (dT 7) (oEqn false 0 (xT 6) (xC .np)) sNil
noncomputable def uR3 : SegF := sOp (dT 3) (oMv (xC (.i 3 (.ofNat 0)))) sNil
noncomputable def uR4 : SegF := sOp (dT 8) (oMv (xT 0)) <| sOp (dT 9) (oNc (xT 8)) <| sOp (dT 10) (oFa (xT 9) 1) <| sOp (dT 11) (oLd1 (xT 10)) <| sOp (dT 12) (oRng (xT 11)) sNil
noncomputable def uB1 : SegF := sOp (dT 13) (oNxt (xT 12)) <| sOp (dT 14) (oExt (xT 13) 0) sNil
noncomputable def uB2 : SegF := sOp (dT 15) (oEty (xT 12)) <| sOp (dT 16) (oExt (xT 15) 1) <| sOp (dT 5) (oMv (xT 16)) sNil
noncomputable def uB3 : SegF := sOp (dT 17) (oMv (xT 3)) <| sOp (dT 18) (oMv (xT 5)) <| sOp (dT 19) (oNc (xT 18)) <| sOp (dT 20) (oFa (xT 19) 0) <| sOp (dT 21) (oLd1 (xT 20)) <| sOp (dT 22) (oLenl (xT 21)) <|
  sOp (dT 23) (oAd 3 (xT 17) (xT 22)) <| sOp (dT 3) (oMv (xT 23)) sNil
noncomputable def uR5 : SegF := sOp (dT 24) (oMv (xT 3)) <| sOp (dT 2) (oMv (xT 24)) sNil
noncomputable def upB : C := .seq (.rg (.fin uB1)) (.seq (.cond (xT 14) .skip (.exit 0)) (.blk 1 (.seq (.rg (.fin uB2)) (.rg (.fin uB3)))))
noncomputable def usedC : C := .seq (.rg (.fin uR0)) (.seq (.seq (.rg (.fin uR1)) (.cond (xT 7) (.seq (.rg (.fin uR0)) .ret) .skip)) (.seq (.rg (.fin uR3)) (.seq (.seq (.rg (.fin uR4)) (.blk 0 (.loop upB))) (.seq (.rg (.fin uR5)) .ret))))
noncomputable def usedF : AFn := .mk usedC (r1 (.t 2))

/-! ### The contract -/
noncomputable def uLen (nx : Nat) (h : H) (κ : Nat → R) (v : AV) : R := asP (fun fo ff => br (Nat.blt fo nx) (rd1 fo ff h fun s => match s with | .sl _ _ len _ => κ len | .ns => κ 0 | _ => false) false) v
noncomputable def uSum (nx c : Nat) (h : H) (κ : Nat → R) (es : List ME) : Nat → List Nat → R :=
  @List.rec ME (fun _ => Nat → List Nat → R) (fun acc _ => κ acc) (fun e _ ih acc seen => match e with | .mk _ v b => br (Nat.blt b c) (br (memN b seen) false (uLen nx h (fun l => fnat (Nat.add acc l) fun a => ih a (b :: seen)) v)) false) es
noncomputable def usedS : SpF := fun vs h nx κ => match vs with
  | [v] => asP (fun o off => rd1 o (Nat.add off 1) h fun mv => match mv with
      | .m m => br (Nat.blt m nx) (br (Nat.blt nx 2097152) (get m h (asMp fun es c => uSum nx c h (fun t => br (Nat.blt t 9223372036854775808) (put nx .dead h fun h => fnat (Nat.succ nx) fun nx => κ (.i 3 (.ofNat t)) h nx) false) es 0 [])) false) false
      | _ => false) v
  | _ => false
/-- what an entry's file has -/
def uL (h : H) : AV → Nat
  | .p fo ff => match objC h fo ff with | some (.sl _ _ len _) => len | _ => 0
  | _ => 0
def meB : ME → Nat
  | .mk _ _ b => b
def meL (h : H) : ME → Nat
  | .mk _ v _ => uL h v
def sumU (h : H) : List ME → Nat
  | [] => 0
  | e :: es => meL h e + sumU h es
def UOk (h : H) (nx c : Nat) : ME → Prop
  | .mk _ v b => b < c ∧ ∃ fo ff s, v = .p fo ff ∧ fo < nx ∧ objC h fo ff = some s ∧ (s = .ns ∨ ∃ x y l z, s = .sl x y l z)
theorem rd1_cell {o off : Nat} {h : H} {κ : AV → R} (e : rd1 o off h κ = true) : ∃ v, objC h o off = some v ∧ κ v = true := by
  obtain ⟨a, ha, e1⟩ := get_true e
  unfold objC
  rw [ha]
  cases a with
  | sm l =>
    have e1 : nthK AV κ l off = true := e1
    rw [nthK_eq] at e1
    cases hl : l[off]? with
    | none => rw [hl] at e1; cases e1
    | some v => rw [hl] at e1; exact ⟨v, hl, e1⟩
  | st t0 l =>
    have e1 : nthK AV κ l off = true := e1
    rw [nthK_eq] at e1
    cases hl : l[off]? with
    | none => rw [hl] at e1; cases e1
    | some v => rw [hl] at e1; exact ⟨v, hl, e1⟩
  | ce N es z zl d t top sh =>
    obtain ⟨hlt, e2⟩ := br_t e1
    have hlt : off < N := by simpa [Nat.blt_eq] using hlt
    rw [cellK_eq] at e2
    cases hl : cellO z zl d t off with
    | none => rw [hl] at e2; cases e2
    | some v => rw [hl] at e2; exact ⟨v, by show (if off < N then _ else _) = _; rw [if_pos hlt, hl], e2⟩
  | _ => cases e1
theorem uLen_true {nx : Nat} {h : H} {κ : Nat → R} {v : AV} (e : uLen nx h κ v = true) : (∃ fo ff s, v = .p fo ff ∧ fo < nx ∧ objC h fo ff = some s ∧ (s = .ns ∨ ∃ x y l z, s = .sl x y l z)) ∧ κ (uL h v) = true := by
  obtain ⟨fo, ff, rfl, e1⟩ := asP_true e
  obtain ⟨h1, e2⟩ := br_t e1
  have h1 : fo < nx := by simpa [Nat.blt_eq] using h1
  obtain ⟨s, h2, e3⟩ := rd1_cell e2
  cases s <;> first | (cases e3; done) | skip
  · rename_i x y l z
    refine ⟨⟨fo, ff, _, rfl, h1, h2, .inr ⟨x, y, l, z, rfl⟩⟩, ?_⟩
    simp only [uL, h2]; exact e3
  · refine ⟨⟨fo, ff, _, rfl, h1, h2, .inl rfl⟩, ?_⟩
    simp only [uL, h2]; exact e3
theorem uSum_true {nx c : Nat} {h : H} {κ : Nat → R} : ∀ {es : List ME} {acc : Nat} {seen : List Nat}, uSum nx c h κ es acc seen = true → κ (acc + sumU h es) = true ∧ (∀ e ∈ es, UOk h nx c e) ∧ (es.map meB).Nodup ∧ ∀ e ∈ es, meB e ∉ seen
  | [], acc, seen, e => ⟨e, (fun _ h => nomatch h), .nil, fun _ h => nomatch h⟩
  | .mk k v b :: es, acc, seen, e => by
    have e : br (Nat.blt b c) (br (memN b seen) false (uLen nx h (fun l => fnat (Nat.add acc l) fun a => uSum nx c h κ es a (b :: seen)) v)) false = true := e
    obtain ⟨h1, e1⟩ := br_t e
    have h1 : b < c := by simpa [Nat.blt_eq] using h1
    obtain ⟨h2, e2⟩ := br_f e1
    rw [memN_eq] at h2
    have h2 : b ∉ seen := by simpa using h2
    obtain ⟨h3, e3⟩ := uLen_true e2
    rw [fnat_eq] at e3
    obtain ⟨k1, k2, k3, k4⟩ := uSum_true e3
    refine ⟨?_, ?_, ?_, ?_⟩
    · have : acc + sumU h (.mk k v b :: es) = Nat.add acc (uL h v) + sumU h es := by
        show acc + (uL h v + sumU h es) = acc + uL h v + sumU h es
        omega
      rw [this]; exact k1
    · intro x hx
      rcases List.mem_cons.1 hx with rfl | hx
      · exact ⟨h1, h3⟩
      · exact k2 x hx
    · rw [List.map_cons, List.nodup_cons]
      refine ⟨fun hm => ?_, k3⟩
      obtain ⟨x, hx, hb⟩ := List.mem_map.1 hm
      exact k4 x hx (by rw [hb]; exact List.mem_cons_self ..)
    · intro x hx
      rcases List.mem_cons.1 hx with rfl | hx
      · exact h2
      · exact fun hm => k4 x hx (List.mem_cons_of_mem _ hm)

/-! ### What is left of an iteration -/
theorem leftL_filter (seen : List Nat) : ∀ es : List ME, leftL seen es = es.filter fun e => !seen.contains (meB e)
  | [] => rfl
  | .mk k v b :: es => by
    have : leftL seen (.mk k v b :: es) = @Bool.rec (fun _ => List ME) (.mk k v b :: leftL seen es) (leftL seen es) (memN b seen) := rfl
    rw [this, memN_eq, List.filter_cons, leftL_filter seen es]
    show _ = if (!seen.contains b) = true then _ else _
    cases seen.contains b <;> rfl
theorem leftL_more (seen : List Nat) (b : Nat) (es : List ME) : leftL (seen ++ [b]) es = (leftL seen es).filter fun e => !(meB e == b) := by
  rw [leftL_filter, leftL_filter, List.filter_filter]
  refine List.filter_congr fun e _ => ?_
  rw [List.contains_append]
  have : ([b] : List Nat).contains (meB e) = (meB e == b) := by rw [List.contains_cons, List.contains_nil, Bool.or_false]
  rw [this]
  cases seen.contains (meB e) <;> cases meB e == b <;> rfl
theorem sum_out {h : H} {x : ME} : ∀ {l : List ME}, (l.map meB).Nodup → x ∈ l → sumU h l = meL h x + sumU h (l.filter fun e => !(meB e == meB x)) ∧ l.length = (l.filter fun e => !(meB e == meB x)).length + 1
  | e :: l, hn, hx => by
    rw [List.map_cons, List.nodup_cons] at hn
    rcases List.mem_cons.1 hx with rfl | hx
    · have h1 : l.filter (fun e => !(meB e == meB x)) = l := List.filter_eq_self.2 fun e he => by
        have : meB e ≠ meB x := fun h => hn.1 (h ▸ List.mem_map_of_mem he)
        simpa using this
      rw [List.filter_cons, if_neg (by simp), h1]
      exact ⟨rfl, rfl⟩
    · have h2 : meB e ≠ meB x := fun h => hn.1 (h ▸ List.mem_map_of_mem hx)
      obtain ⟨k1, k2⟩ := sum_out (h := h) hn.2 hx
      rw [List.filter_cons, if_pos (by simpa using h2)]
      refine ⟨?_, ?_⟩
      · show meL h e + sumU h l = meL h x + (meL h e + sumU h _)
        omega
      · simp only [List.length_cons]; omega
theorem bornK_eq {κ : AV → AV → R} {k v : AV} {b : Nat} : ∀ {es : List ME}, (es.map meB).Nodup → ME.mk k v b ∈ es → bornK b κ es = κ k v
  | .mk k' v' b' :: es, hn, hx => by
    rw [List.map_cons, List.nodup_cons] at hn
    show br (Nat.beq b' b) (κ k' v') (bornK b κ es) = _
    rcases List.mem_cons.1 hx with hx | hx
    · injection hx with h1 h2 h3
      subst h1 h2 h3
      rw [Nat.beq_refl, brT]
    · have : Nat.beq b' b = false := by
        cases hb : Nat.beq b' b with
        | false => rfl
        | true => exact absurd (Nat.eq_of_beq_eq_true hb) fun h => hn.1 (by show b' ∈ _; rw [h]; exact List.mem_map_of_mem (f := meB) hx)
      rw [this, brF]
      exact bornK_eq hn.2 hx
theorem lastK_snoc (b : Nat) (κ : Nat → R) : ∀ l : List Nat, lastK (l ++ [b]) κ = κ b := by
  have key : ∀ (l : List Nat) (d : R), @List.rec Nat (fun _ => R → R) (fun d => d) (fun n _ ih _ => ih (κ n)) (l ++ [b]) d = κ b := by
    intro l
    induction l with
    | nil => intro d; rfl
    | cons x l ih => intro d; exact ih (κ x)
  exact fun l => key l false
theorem forkN_of {r m since : Nat} {seen : List Nat} {h : H} {nx : Nat} {κ : K} {clock : Nat} : ∀ {l : List ME}, (∀ k v b, ME.mk k v b ∈ l → b < since ∧ κ (.tu [.b true, k, v]) (setO h r (.it (some m) since (seen ++ [b]) clock)) nx = true) → forkN r m since seen h nx κ clock l = true
  | [], _ => rfl
  | .mk k v b :: l, hl => by
    show br (Nat.blt b since) (br (appK Nat seen [b] fun seen => put r (.it (some m) since seen clock) h fun h => κ (.tu [.b true, k, v]) h nx) (forkN r m since seen h nx κ clock l) false) false = true
    obtain ⟨h1, h2⟩ := hl k v b (List.mem_cons_self ..)
    rw [show Nat.blt b since = true by simpa [Nat.blt_eq] using h1, brT, appK_eq, put_eq, h2, brT]
    exact forkN_of fun k v b hm => hl k v b (List.mem_cons_of_mem _ hm)
theorem nxtK_of {r m since : Nat} {seen : List Nat} {h : H} {nx : Nat} {κ : K} {clock : Nat} {es : List ME} (h0 : leftL seen es = [] → κ (.tu [.b false]) (setO h r .dead) nx = true)
    (h1 : ∀ k v b, ME.mk k v b ∈ leftL seen es → b < since ∧ κ (.tu [.b true, k, v]) (setO h r (.it (some m) since (seen ++ [b]) clock)) nx = true) : nxtK r m since seen h nx κ es clock = true := by
  unfold nxtK
  split
  · rename_i hl; rw [put_eq]; exact h0 hl
  · rename_i k v b hl
    obtain ⟨k1, k2⟩ := h1 k v b (by rw [hl]; exact List.mem_cons_self ..)
    rw [show Nat.blt b since = true by simpa [Nat.blt_eq] using k1, brT, appK_eq, put_eq]
    exact k2
  · exact forkN_of h1
theorem setO_setO (h : H) {o : Nat} (ho : o < 2097152) (a b : AO) : setO (setO h o a) o b = setO h o b := by
  refine ext_L 7 _ _ fun i hi => ?_
  have hi : i < 2097152 := hi
  show obj _ i = obj _ i
  by_cases e : i = o
  · subst e; rw [obj_set, obj_set]
  · rw [obj_set_ne _ _ ho hi e, obj_set_ne _ _ ho hi e, obj_set_ne _ _ ho hi e]

/-! ### The loop -/
section
variable {tb : Tb} {f : Nat} {κ : AV → H → Nat → R} {h : H} {it m c nx tot : Nat} {ml : List ME}
noncomputable abbrev uEnd : List T := [.c (.seq (.rg (.fin uR5)) .ret)]
noncomputable def uTail (en : Env) (h : H) (nx : Nat) (κ : Env → H → Nat → R) : R := uB2 en h nx fun en h nx => uB3 en h nx κ
theorem u_round (N : Nat) (en : Env) (h : H) (nx : Nat) (k : List T) (fr : Fr) : runF tb (N + 5) (.mk en (.lp upB :: .blk 0 :: k) fr [] h nx) κ =
    oNxt (xT 12) en h nx fun v h nx => dT 13 v en fun en => oExt (xT 13) 0 en h nx fun v h nx => dT 14 v en fun en => xT 14 en (asB fun c => br c (uTail en h nx fun en h nx => runF tb N (.mk en (.lp upB :: .blk 0 :: k) fr [] h nx) κ) (runF tb (N + 3) (.mk en k fr [] h nx) κ)) := rfl
theorem u_end (N : Nat) (en : Env) (h : H) (nx : Nat) : runF tb (N + 4) (.mk en uEnd (.mk f [] false none) [] h nx) κ =
    uR5 en h nx fun en h nx => fnOf tb f fun _ rs => rs en h fun v => κ v h nx := rfl
structure UIn (en : Env) (it acc : Nat) : Prop where
  h12 : eg 12 en = .p it 0
  h3 : eg 3 en = .i 3 (.ofNat acc)
theorem asTu_tu (l : List AV) (κ : List AV → R) : asTu κ (.tu l) = κ l := rfl
theorem nth_0 (κ : AV → R) (v : AV) (l : List AV) : nthK AV κ (v :: l) 0 = κ v := rfl
theorem nth_1 (κ : AV → R) (v u : AV) (l : List AV) : nthK AV κ (v :: u :: l) 1 = κ u := rfl
theorem u_nxt {en : Env} {G : K} {seen : List Nat} (hit : it < 2097152) (hm : m < 2097152) (hmi : m ≠ it) (hobj : obj h m = some (.mp ml c)) (hlt : ∀ e ∈ ml, meB e < c) (h12 : eg 12 en = .p it 0)
    (g0 : leftL seen ml = [] → G (.tu [.b false]) (setO h it .dead) nx = true) (g1 : ∀ k v b, ME.mk k v b ∈ leftL seen ml → G (.tu [.b true, k, v]) (setO h it (.it (some m) c (seen ++ [b]) c)) nx = true) :
    oNxt (xT 12) en (setO h it (.it (some m) c seen c)) nx G = true := by
  have key : nxtK it m c seen (setO h it (.it (some m) c seen c)) nx G ml c = true := by
    refine nxtK_of (fun hl => ?_) (fun k v b hb => ⟨hlt _ (leftL_sub hb), ?_⟩)
    · rw [setO_setO h hit]; exact g0 hl
    · rw [setO_setO h hit]; exact g1 k v b hb
  have hom : obj (setO h it (.it (some m) c seen c)) m = some (.mp ml c) := by rw [obj_set_ne h _ hit hm hmi]; exact hobj
  unfold oNxt
  rw [xT_eq, h12, asP_p, show Nat.beq 0 0 = true from rfl, brT, get_is (obj_set h it _)]
  show get m _ (asMp fun es clock => match (generalizing := false) seen with
      | [] => nxtK it m c seen (setO h it (.it (some m) c seen c)) nx G es clock
      | _ => (match es with | [] => nxtK it m c seen (setO h it (.it (some m) c seen c)) nx G es clock | _ => br (anyBelow c es) (nxtK it m c seen (setO h it (.it (some m) c seen c)) nx G es clock) false)) = true
  rw [get_is hom]
  show (match (generalizing := false) seen with
      | [] => nxtK it m c seen (setO h it (.it (some m) c seen c)) nx G ml c
      | _ => (match (generalizing := false) ml with | [] => nxtK it m c seen (setO h it (.it (some m) c seen c)) nx G ml c | _ => br (anyBelow c ml) (nxtK it m c seen (setO h it (.it (some m) c seen c)) nx G ml c) false)) = true
  cases seen with
  | nil => exact key
  | cons s seen =>
    cases ml with
    | nil => exact key
    | cons e ml =>
      obtain ⟨k, v, b⟩ := e
      have hb : b < c := hlt _ (List.mem_cons_self ..)
      have : anyBelow c (.mk k v b :: ml) = true := by
        show (@Bool.rec (fun _ => Bool) (anyBelow c ml) true (Nat.blt b c)) = true
        rw [show Nat.blt b c = true by simpa [Nat.blt_eq] using hb]
      show br (anyBelow c (.mk k v b :: ml)) _ false = true
      rw [this, brT]; exact key
theorem u_ety {en : Env} {G : K} {seen : List Nat} {k v : AV} {b : Nat} (hit : it < 2097152) (hm : m < 2097152) (hmi : m ≠ it) (hobj : obj h m = some (.mp ml c)) (hnd : (ml.map meB).Nodup) (hb : ME.mk k v b ∈ ml) (h12 : eg 12 en = .p it 0) :
    oEty (xT 12) en (setO h it (.it (some m) c (seen ++ [b]) c)) nx G = G (.tu [k, v]) (setO h it (.it (some m) c (seen ++ [b]) c)) nx := by
  have hom : obj (setO h it (.it (some m) c (seen ++ [b]) c)) m = some (.mp ml c) := by rw [obj_set_ne h _ hit hm hmi]; exact hobj
  unfold oEty
  rw [xT_eq, h12, asP_p, show Nat.beq 0 0 = true from rfl, brT, get_is (obj_set h it _)]
  show lastK (seen ++ [b]) (fun b' => get m _ (asMp fun es c' => br (Nat.beq c' c) (bornK b' (fun k v => G (.tu [k, v]) (setO h it (.it (some m) c (seen ++ [b]) c)) nx) es) false)) = _
  rw [lastK_snoc, get_is hom]
  show br (Nat.beq c c) (bornK b _ ml) false = _
  rw [Nat.beq_refl, brT, bornK_eq hnd hb]
theorem used_loop (hit : it < 2097152) (hm : m < 2097152) (hmi : m ≠ it) (hobj : obj h m = some (.mp ml c)) (hes : ∀ e ∈ ml, UOk h it c e) (hnd : (ml.map meB).Nodup) (ht : tot < 9223372036854775808)
    (hfn : ∀ κ : C → ResF → R, fnOf tb f κ = κ usedC (r1 (.t 2))) (hκ : κ (.i 3 (.ofNat tot)) (setO h it .dead) nx = true) :
    ∀ (n : Nat) (seen : List Nat) (acc : Nat) (en : Env), UIn en it acc → (leftL seen ml).length = n → acc + sumU h (leftL seen ml) = tot →
      runF tb (5 * n + 6) (.mk en (.lp upB :: .blk 0 :: uEnd) (.mk f [] false none) [] (setO h it (.it (some m) c seen c)) nx) κ = true := by
  have hlt : ∀ e ∈ ml, meB e < c := fun e he => by obtain ⟨k, v, b⟩ := e; exact (hes _ he).1
  intro n
  induction n with
  | zero =>
    intro seen acc en hu hl hs
    have hl0 : leftL seen ml = [] := List.eq_nil_of_length_eq_zero hl
    rw [hl0] at hs
    have hs : acc = tot := hs
    subst hs
    show runF tb (1 + 5) _ _ = true
    rw [u_round]
    refine u_nxt hit hm hmi hobj hlt hu.h12 (fun _ => ?_) (fun k v b hb => ?_)
    · have h3 : eg 3 en = _ := hu.h3
      simp only [dT_eq, oExt, xT_eq, eg_es, Nat.reduceLT, Nat.reduceEqDiff, if_true, if_false, reduceIte, asTu_tu, nth_0, asB_b, brF]
      rw [show 1 + 3 = 0 + 4 from rfl, u_end]
      simp only [uR5, sOp, sNil, oMv, dT_eq, xT_eq, eg_es, Nat.reduceLT, Nat.reduceEqDiff, if_true, if_false, reduceIte, h3, hfn, r1]
      exact hκ
    · rw [hl0] at hb; cases hb
  | succ n ih =>
    intro seen acc en hu hl hs
    rw [show 5 * (n + 1) + 6 = (5 * n + 6) + 5 by omega, u_round]
    refine u_nxt hit hm hmi hobj hlt hu.h12 (fun h0 => ?_) (fun k v b hb => ?_)
    · rw [h0] at hl; cases hl
    have hmem := leftL_sub hb
    obtain ⟨hbc, fo, ff, s, rfl, hfo, hc, hsl⟩ := hes _ hmem
    have hnd' : ((leftL seen ml).map meB).Nodup := by
      rw [leftL_filter]
      exact hnd.sublist (List.Sublist.map _ List.filter_sublist)
    obtain ⟨k1, k2⟩ := sum_out (h := h) hnd' hb
    have h3 : eg 3 en = _ := hu.h3
    have h12 : eg 12 en = _ := hu.h12
    have hc' : objC (setO h it (.it (some m) c (seen ++ [b]) c)) fo (ff.add 0) = some s := by
      show objC _ fo ff = some s
      unfold objC at hc ⊢
      rw [obj_set_ne h _ hit (Nat.lt_trans hfo hit) (Nat.ne_of_lt hfo)]
      exact hc
    have hlen : meL h (.mk k (.p fo ff) b) = uL h (.p fo ff) := rfl
    have huL : uL h (.p fo ff) = match (generalizing := false) s with | .sl _ _ l _ => l | _ => 0 := by
      show (match (generalizing := false) objC h fo ff with | some (.sl _ _ len _) => len | _ => 0) = _
      rw [hc]
      rcases hsl with rfl | ⟨x, y, l, z, rfl⟩ <;> rfl
    have hadd : Nat.blt (acc + uL h (.p fo ff)) 9223372036854775808 = true := by
      rw [hlen] at k1
      simp only [Nat.blt_eq]; omega
    have hety : ∀ {en' : Env} {G : K}, eg 12 en' = .p it 0 → oEty (xT 12) en' (setO h it (.it (some m) c (seen ++ [b]) c)) nx G = G (.tu [k, .p fo ff]) (setO h it (.it (some m) c (seen ++ [b]) c)) nx := fun h12 => u_ety hit hm hmi hobj hnd hmem h12
    have hlenl : ∀ {G : Nat → R}, (match (generalizing := false) s with | .sl _ _ len _ => G len | .ns => G 0 | _ => false) = G (uL h (.p fo ff)) := by
      intro G
      rw [huL]
      rcases hsl with rfl | ⟨x, y, l, z, rfl⟩ <;> rfl
    obtain ⟨en1, hen1⟩ : ∃ en1, en1 = AM.es 14 (.b true) (AM.es 13 (.tu [.b true, k, .p fo ff]) en) := ⟨_, rfl⟩
    have e12 : eg 12 en1 = .p it 0 := by rw [hen1]; simp only [eg_es, Nat.reduceLT, Nat.reduceEqDiff, if_true, if_false, reduceIte, h12]
    have e3 : eg 3 en1 = .i 3 (.ofNat acc) := by rw [hen1]; simp only [eg_es, Nat.reduceLT, Nat.reduceEqDiff, if_true, if_false, reduceIte, h3]
    simp only [dT_eq, oExt, xT_eq, eg_es, Nat.reduceLT, Nat.reduceEqDiff, if_true, if_false, reduceIte, asTu_tu, nth_0, asB_b, brT]
    rw [← hen1]
    obtain ⟨KK, hKK⟩ : ∃ KK, KK = (fun en h nx => runF tb (5 * n + 6) (.mk en (.lp upB :: .blk 0 :: uEnd) (.mk f [] false none) [] h nx) κ) := ⟨_, rfl⟩
    rw [← hKK]
    unfold uTail uB2
    show oEty (xT 12) en1 _ nx _ = true
    rw [hety e12]
    have hrd : ∀ κ, rd1 fo (ff.add 0) (setO h it (.it (some m) c (seen ++ [b]) c)) κ = κ s := rd1_eq hc'
    simp only [uB3, sOp, sNil, oExt, oMv, oNc, oFa, oLd1, oLenl, oAd, adV_ii, dT_eq, xT_eq, eg_es, Nat.reduceLT, Nat.reduceEqDiff, if_true, if_false, reduceIte, e3, asTu_tu, nth_1, asP_p, fnat_eq, hrd, ldV_p]
    have fin : ∀ en', UIn en' it (acc + uL h (.p fo ff)) → KK en' (setO h it (.it (some m) c (seen ++ [b]) c)) nx = true := by
      intro en' hu'
      rw [hKK]
      have hx : (leftL (seen ++ [b]) ml) = (leftL seen ml).filter fun e => !(meB e == meB (.mk k (.p fo ff) b)) := leftL_more seen b ml
      refine ih (seen ++ [b]) _ en' hu' ?_ ?_
      · rw [hx]; omega
      · rw [hx]; rw [hlen] at k1; omega
    rcases hsl with rfl | ⟨x, y, l, z, rfl⟩
    · have h0 : uL h (.p fo ff) = 0 := huL
      rw [h0] at hadd fin
      simp only [asK_i, arAdd_nat hadd]
      exact fin _ ⟨by simp only [eg_es, Nat.reduceLT, Nat.reduceEqDiff, if_true, if_false, reduceIte, e12], by simp only [eg_es, Nat.reduceLT, Nat.reduceEqDiff, if_true, if_false, reduceIte]⟩
    · have h0 : uL h (.p fo ff) = l := huL
      rw [h0] at hadd fin
      simp only [asK_i, arAdd_nat hadd]
      exact fin _ ⟨by simp only [eg_es, Nat.reduceLT, Nat.reduceEqDiff, if_true, if_false, reduceIte, e12], by simp only [eg_es, Nat.reduceLT, Nat.reduceEqDiff, if_true, if_false, reduceIte]⟩
/-- the contract holds of the code -/
theorem u_start (N : Nat) (en : Env) (h : H) (nx : Nat) : runF tb (N + 5) (.mk en [.c usedC] (.mk f [] false none) [] h nx) κ =
    uR0 en h nx fun en h nx => uR1 en h nx fun en h nx => xT 7 en (asB fun c => br c (uR0 en h nx fun en h nx => runF tb (N + 2) (.mk en [.c .ret, .c (.seq (.rg (.fin uR3)) (.seq (.seq (.rg (.fin uR4)) (.blk 0 (.loop upB))) (.seq (.rg (.fin uR5)) .ret)))] (.mk f [] false none) [] h nx) κ)
      (uR3 en h nx fun en h nx => uR4 en h nx fun en h nx => runF tb N (.mk en (.c (.blk 0 (.loop upB)) :: uEnd) (.mk f [] false none) [] h nx) κ)) := rfl
theorem u_blk (N : Nat) (en : Env) (h : H) (nx : Nat) (k : List T) (fr : Fr) : runF tb (N + 1) (.mk en (.c (.blk 0 (.loop upB)) :: k) fr [] h nx) κ = runF tb (N + 1) (.mk en (.lp upB :: .blk 0 :: k) fr [] h nx) κ := rfl
end
noncomputable def uTb (f : Nat) : Tb := .mk (mkT 4 [(f, usedF)]) (mkT 5 []) false
theorem uTb_fn (f : Nat) (κ : C → ResF → R) : fnOf (uTb f) f κ = κ usedC (r1 (.t 2)) := by
  show getK (Option AFn) (opt AFn fun u => match u with | .mk c r => κ c r | .sp _ => false) 4 f (mkT 4 [(f, usedF)]) = _
  rw [getK_eq]
  show opt AFn _ (getL (Option AFn) 4 f (setL (Option AFn) (some usedF) 4 f (mkT 4 []))) = _
  rw [getL_setL]
  rfl
theorem uTb_en (f : Nat) (κ : C → R) (σ : SpF → R) : enOf (uTb f) f κ σ = κ usedC := by
  show getK (Option AFn) (opt AFn fun u => match u with | .mk c _ => κ c | .sp s => σ s) 4 f (mkT 4 [(f, usedF)]) = _
  rw [getK_eq]
  show opt AFn _ (getL (Option AFn) 4 f (setL (Option AFn) (some usedF) 4 f (mkT 4 []))) = _
  rw [getL_setL]
  rfl
theorem used_run {f : Nat} {vs : List AV} {h : H} {nx : Nat} {κ : AV → H → Nat → R} (e : usedS vs h nx κ = true) : ∃ n, enterK (uTb f) f vs false [] h nx (fun s => runF (uTb f) n s κ) = true := by
  match vs, e with
  | [], e => cases e
  | _ :: _ :: _, e => cases e
  | [v], e =>
    obtain ⟨o, off, rfl, e1⟩ := asP_true (show asP _ v = true from e)
    obtain ⟨mv, hmv, e2⟩ := rd1_cell e1
    cases mv <;> first | (cases e2; done) | skip
    rename_i m
    obtain ⟨h1, e3⟩ := br_t e2
    obtain ⟨h2, e4⟩ := br_t e3
    have h1 : m < nx := by simpa [Nat.blt_eq] using h1
    have h2' : nx < 2097152 := by simpa [Nat.blt_eq] using h2
    obtain ⟨ob, hob, e5⟩ := get_true e4
    obtain ⟨ml, c, rfl, e6⟩ := asMp_true e5
    obtain ⟨e7, h3, h4, _⟩ := uSum_true e6
    obtain ⟨h5, e8⟩ := br_t e7
    rw [put_eq, fnat_eq, Nat.zero_add] at e8
    rw [Nat.zero_add] at h5
    have h5 : sumU h ml < 9223372036854775808 := by simpa [Nat.blt_eq] using h5
    have hleft : leftL [] ml = ml := by rw [leftL_filter]; exact List.filter_eq_self.2 fun _ _ => rfl
    refine ⟨5 * ml.length + 6 + 5, ?_⟩
    have hen : enterK (uTb f) f [.p o off] false [] h nx (fun s => runF (uTb f) (5 * ml.length + 6 + 5) s κ) = runF (uTb f) (5 * ml.length + 6 + 5) (.mk (AM.es 0 (.p o off) e0) [.c usedC] (.mk f [] false none) [] h nx) κ := by
      unfold enterK
      rw [show Nat.ble (lenN AV [.p o off]) 512 = true from rfl, brT, uTb_en]
      rw [show ∀ κ : List AV → R, forkA [.p o off] κ = κ [.p o off] from fun _ => rfl, enlK_eq]
      rfl
    have hrd : ∀ κ, rd1 o (off.add 1) h κ = κ (.m m) := rd1_eq hmv
    have heqn : eqB false (not' false) = false := rfl
    have hkb : ∀ (κ : K) (h : H) (nx : Nat), kB κ h nx false = κ (.b false) h nx := fun _ _ _ => rfl
    rw [hen, u_start]
    simp only [uR0, uR1, uR3, uR4, sOp, sNil, oMv, oEqn, oNc, oFa, oLd1, oRng, dT_eq, xT_eq, xC, eg_es, Nat.reduceLT, Nat.reduceEqDiff, if_true, if_false, reduceIte, heqn, hkb, asB_b, brF, asP_p, fnat_eq, hrd, get_is hob, asMp, newK, h2, brT, put_eq, ldV_p]
    rw [show 5 * ml.length + 6 = (5 * ml.length + 5) + 1 by omega, u_blk]
    refine used_loop (tot := sumU h ml) h2' (Nat.lt_trans h1 h2') (Nat.ne_of_lt h1) hob h3 h4 h5 (uTb_fn f) ?_ ml.length [] 0 _ ⟨?_, ?_⟩ ?_ ?_
    · exact e8
    · simp only [eg_es, Nat.reduceLT, Nat.reduceEqDiff, if_true, if_false, reduceIte]
    · simp only [eg_es, Nat.reduceLT, Nat.reduceEqDiff, if_true, if_false, reduceIte]
    · rw [hleft]
    · rw [hleft, Nat.zero_add]
/-- a function told by a contract -/
theorem fOk_sp {P : Program} {f : Nat} {s : SpF} {u : AFn} (h1 : f < 3584) (h2 : trF P f = some u) (h3 : SpOk P f s) : FOk P (f, .sp s) := ⟨h1, by obtain ⟨fn, body, h, _⟩ := trF_some h2; exact ⟨fn, body, h⟩, h3⟩
theorem used_ok {P : Program} {f : Nat} (hf : f < 3584) (ht : trF P f = some usedF) (hm : P.follows .mixedOrders = true) : SpOk P f usedS :=
  sp_of_run (tb := uTb f) (tbOk (fl := [(f, usedF)]) (ll := []) ⟨fOk hf ht, trivial⟩ trivial) hm fun _ _ _ _ e => used_run e
end Go.AM
