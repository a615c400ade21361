/-
  AM, 15: rows that share a block; append, copy, slices; what else acts. Conditions: none.
-/
import Derived.Test.YtmhhaimpignndaaGreatAmM
namespace Go.AM
open Go

section
variable {P : Program} {w0 w w' : World} {pd : List (Nat × AO)} {θ : Th} {h : H} {nx : Nat}
/-- a row that nothing is appended to again -/
theorem HR.mark (hr : HR P w0 pd θ h nx w) {o N es zl d : Nat} {z : List AV} {t : L (Option AV) d} {top : Bool} {sh : List Nat} (ho : θ.has o) (ha : obj h o = some (.ce N es z zl d t top sh)) :
    HR P w0 pd θ (setO h o (.ce N es z zl d t false sh)) nx w := by
  refine ⟨hr.lim, fun p hp => ?_, fun p q b b' hne hp hq hb hb' hw hl he => ?_, hr.size, hr.kept, hr.plain, fun p b hb => ?_, hr.nodup, hr.fresh.set (Nat.le_refl _) (hr.own o ho).1 (hr.lt32 ho)⟩
  · obtain ⟨a1, a2, a3, b, a4, a5, a6⟩ := hr.own p hp
    by_cases e : p = o
    · subst e
      rw [ha] at a4; injection a4 with a4; subst a4
      exact ⟨a1, a2, a3, _, obj_set _ _ _, a5, a6⟩
    · exact ⟨a1, a2, a3, b, by rw [obj_set_ne _ _ (hr.lt32 ho) (hr.lt32 hp) e]; exact a4, a5, a6⟩
  · by_cases e : p = o
    · subst e
      rw [obj_set] at hb; injection hb with hb; subst hb; cases hw
    · rw [obj_set_ne _ _ (hr.lt32 ho) (hr.lt32 hp) e] at hb
      by_cases e' : q = o
      · subst e'
        rw [obj_set] at hb'; injection hb' with hb'; subst hb'
        obtain ⟨h1, h2, _⟩ := hr.apart p q b _ hne hp hq hb ha hw rfl he
        exact ⟨h1, h2, rfl⟩
      · rw [obj_set_ne _ _ (hr.lt32 ho) (hr.lt32 hq) e'] at hb'
        exact hr.apart p q b b' hne hp hq hb hb' hw hl he
  · obtain ⟨p1, p2, p3⟩ := hr.pend p b hb
    exact ⟨p1, p2, by rw [obj_set_ne _ _ (hr.lt32 ho) (Nat.lt_of_lt_of_le p2 hr.lim) (fun e => p1 (e ▸ ho))]; exact p3⟩
/-- all objects, where a row's block is turned beyond the row -/
theorem HR.keep (hr : HR P w0 pd θ h nx w) {o N es zl d : Nat} {z : List AV} {t : L (Option AV) d} {sh : List Nat} (ho : θ.has o) (ha : obj h o = some (.ce N es z zl d t true sh))
    (hoth : ∀ b, b ≠ θ.blk o → w'.heap[b]? = w.heap[b]?) (hblk : ∀ c ty fz, w.heap[θ.blk o]? = some (.cells c ty fz) → ∃ c', w'.heap[θ.blk o]? = some (.cells c' ty fz) ∧ c'.size = c.size ∧ ∀ i, i < θ.bas o + N → c'[i]? = c[i]?) :
    ∀ p b, θ.has p → obj h p = some b → OR P θ w' p b := by
  intro p b hp hb
  have hor := hr.obj_ hp hb
  by_cases e : θ.blk p = θ.blk o
  · have key : ∀ {n es' zl' d' : Nat} {z' : List AV} {t' : L (Option AV) d'} {top : Bool} {sh' : List Nat}, θ.bas p + n ≤ θ.bas o + N → OR P θ w p (.ce n es' z' zl' d' t' top sh') → OR P θ w' p (.ce n es' z' zl' d' t' top sh') := by
      intro n es' zl' d' z' t' top sh' hle ⟨c, ty, fz, h1, h2, h3, h4, h5, h6⟩
      rw [e] at h1
      obtain ⟨c', k1, k2, k3⟩ := hblk c ty fz h1
      refine ⟨c', ty, fz, by rw [e]; exact k1, h2, fun i hi => ?_, by rw [k2]; exact h4, by rw [k2]; exact h5, by rw [k2]; exact h6⟩
      obtain ⟨v, q1, q2, q3, q4⟩ := h3 i hi
      exact ⟨v, q1, q2, q3, by rw [k3 _ (by omega)]; exact q4⟩
    by_cases e' : p = o
    · subst e'
      rw [ha] at hb; injection hb with hb; subst hb
      exact key (Nat.le_refl _) hor
    · cases b with
      | dead => trivial
      | ce n es' z' zl' d' t' top sh' =>
        obtain ⟨_, h2, _⟩ := hr.apart o p _ _ (Ne.symm e') ho hp ha hb rfl rfl e.symm
        exact key h2 hor
      | sm l => exact absurd (hr.apart o p _ _ (Ne.symm e') ho hp ha hb rfl rfl e.symm).2.2 (by simp [AO.wr])
      | mp a b => exact absurd (hr.apart o p _ _ (Ne.symm e') ho hp ha hb rfl rfl e.symm).2.2 (by simp [AO.wr])
      | it a1 b1 c1 d1 => exact absurd (hr.apart o p _ _ (Ne.symm e') ho hp ha hb rfl rfl e.symm).2.2 (by simp [AO.wr])
      | lp a1 b1 c1 d1 e1 f1 => exact absurd (hr.apart o p _ _ (Ne.symm e') ho hp ha hb rfl rfl e.symm).2.2 (by simp [AO.wr])
      | df a => exact absurd (hr.apart o p _ _ (Ne.symm e') ho hp ha hb rfl rfl e.symm).2.2 (by simp [AO.wr])
  · exact hor.mono (.refl θ) hp (hoth _ e)
/-- a row behind another one, in its block -/
theorem HR.grow (hr : HR P w0 pd θ h nx w) {o N es zl d : Nat} {z : List AV} {t : L (Option AV) d} {sh : List Nat} (ho : θ.has o) (ha : obj h o = some (.ce N es z zl d t true sh)) (hn : nx < 32768)
    (hsz : w'.heap.size = w.heap.size) (hp' : w'.os = w.os ∧ w'.tape = w.tape ∧ w'.output = w.output)
    (hoth : ∀ b, b ≠ θ.blk o → w'.heap[b]? = w.heap[b]?) (hblk : ∀ c ty fz, w.heap[θ.blk o]? = some (.cells c ty fz) → ∃ c', w'.heap[θ.blk o]? = some (.cells c' ty fz) ∧ c'.size = c.size ∧ ∀ i, i < θ.bas o + N → c'[i]? = c[i]?)
    {n' es' zl' d' bs sz : Nat} {z' : List AV} {t' : L (Option AV) d'} (hle : θ.bas o + N ≤ bs + n') (hnew : OR P (θ.put nx (θ.blk o) bs sz es') w' nx (.ce n' es' z' zl' d' t' true (o :: sh))) :
    HR P w0 pd (θ.put nx (θ.blk o) bs sz es') (setO (setO h o (.ce N es z zl d t false sh)) nx (.ce n' es' z' zl' d' t' true (o :: sh))) (nx + 1) w' ∧ θ.le (θ.put nx (θ.blk o) bs sz es') := by
  have hnx : ¬ θ.has nx := fun hx => Nat.lt_irrefl _ (hr.own nx hx).1
  have hle' := Th.le_put hnx (θ.blk o) bs sz es'
  have hon : o ≠ nx := fun e => hnx (e ▸ ho)
  have hko := HR.keep (w' := w') hr ho ha hoth hblk
  have ob : ∀ p, θ.has p → p ≠ o → obj (setO (setO h o (.ce N es z zl d t false sh)) nx (.ce n' es' z' zl' d' t' true (o :: sh))) p = obj h p := fun p hp e => by
    rw [obj_set_ne _ _ hn (hr.lt32 hp) (fun e => hnx (e ▸ hp)), obj_set_ne _ _ (hr.lt32 ho) (hr.lt32 hp) e]
  have obo : obj (setO (setO h o (.ce N es z zl d t false sh)) nx (.ce n' es' z' zl' d' t' true (o :: sh))) o = some (.ce N es z zl d t false sh) := by
    rw [obj_set_ne _ _ hn (hr.lt32 ho) hon, obj_set]
  have hsh : ∀ x ∈ sh, θ.has x := by
    obtain ⟨_, _, _, b, h1, _, h2⟩ := hr.own o ho
    rw [ha] at h1; injection h1 with h1; subst h1; exact h2
  have ext : ∀ (c : AO) (p : Nat), θ.has p → c.ext (θ.put nx (θ.blk o) bs sz es') p = c.ext θ p := fun c p hp => by cases c <;> simp only [AO.ext, hle'.bas p hp]
  refine ⟨⟨by omega, fun p hp => ?_, fun p q b b' hne hp hq hb hb' hw hl he => ?_, by rw [hsz]; exact hr.size, fun b hb hi => ?_, ⟨hp'.1.trans hr.plain.1, hp'.2.1.trans hr.plain.2.1, hp'.2.2.trans hr.plain.2.2⟩, fun p b hb => ?_, hr.nodup, (hr.fresh.set (Nat.le_refl _) (hr.own o ho).1 (hr.lt32 ho)).set (by omega) (by omega) hn⟩, hle'⟩
  · by_cases e : p = nx
    · subst e
      obtain ⟨a1, a2, a3, _⟩ := hr.own o ho
      refine ⟨by omega, by rw [Th.put_blk]; exact a2, by rw [Th.put_blk, hsz]; exact a3, _, obj_set _ _ _, hnew, fun x hx => ?_⟩
      rcases List.mem_cons.1 hx with rfl | hx
      · exact hle'.has _ ho
      · exact hle'.has _ (hsh x hx)
    · have hp1 : θ.has p := hp.resolve_left e
      obtain ⟨a1, a2, a3, b, a4, _, a6⟩ := hr.own p hp1
      have hor := hko p b hp1 a4
      by_cases e' : p = o
      · subst e'
        rw [ha] at a4; injection a4 with a4; subst a4
        refine ⟨by omega, by rw [hle'.blk p hp1]; exact a2, by rw [hle'.blk p hp1, hsz]; exact a3, _, obo, ?_, fun x hx => hle'.has x (hsh x hx)⟩
        exact OR.mono (a := .ce N es z zl d t true sh) hle' hp1 rfl hor
      · exact ⟨by omega, by rw [hle'.blk p hp1]; exact a2, by rw [hle'.blk p hp1, hsz]; exact a3, b, by rw [ob p hp1 e']; exact a4, hor.mono hle' hp1 rfl, fun x hx => hle'.has x (a6 x hx)⟩
  · by_cases e : p = nx
    · subst e
      rw [obj_set] at hb; injection hb with hb; subst hb
      have hq1 : θ.has q := hq.resolve_left (Ne.symm hne)
      rw [Th.put_blk, hle'.blk q hq1] at he
      have hx : (AO.ce n' es' z' zl' d' t' true (o :: sh)).ext (θ.put p (θ.blk o) bs sz es') p = bs + n' := by simp [AO.ext]
      rw [hx, ext b' q hq1]
      by_cases e' : q = o
      · subst e'
        rw [obo] at hb'; injection hb' with hb'; subst hb'
        exact ⟨List.mem_cons_self .., hle, rfl⟩
      · rw [ob q hq1 e'] at hb'
        obtain ⟨h1, h2, h3⟩ := hr.apart o q _ b' (Ne.symm e') ho hq1 ha hb' rfl hl he
        exact ⟨List.mem_cons_of_mem _ h1, Nat.le_trans h2 hle, h3⟩
    · have hp1 : θ.has p := hp.resolve_left e
      by_cases ep : p = o
      · subst ep
        rw [obo] at hb; injection hb with hb; subst hb; cases hw
      · rw [ob p hp1 ep] at hb
        have hpo : θ.blk p ≠ θ.blk o := fun heq => by
          have := (hr.apart p o b _ ep hp1 ho hb ha hw rfl heq).2.2
          cases this
        by_cases eq : q = nx
        · subst eq
          rw [Th.put_blk, hle'.blk p hp1] at he
          exact absurd he hpo
        · have hq1 : θ.has q := hq.resolve_left eq
          rw [hle'.blk p hp1, hle'.blk q hq1] at he
          by_cases eqo : q = o
          · subst eqo; exact absurd he hpo
          · rw [ob q hq1 eqo] at hb'
            rw [ext b' q hq1, ext b p hp1]
            exact hr.apart p q b b' hne hp1 hq1 hb hb' hw hl he
  · have := (hr.own o ho).2.1
    rw [hoth b (fun e => by subst e; exact this.elim (fun h => by omega) hi)]; exact hr.kept b hb hi
  · obtain ⟨p1, p2, p3⟩ := hr.pend p b hb
    refine ⟨fun hx => hx.elim (fun e => by omega) p1, by omega, ?_⟩
    rw [obj_set_ne _ _ hn (Nat.lt_of_lt_of_le p2 hr.lim) (by omega), obj_set_ne _ _ (hr.lt32 ho) (Nat.lt_of_lt_of_le p2 hr.lim) (fun e => p1 (e ▸ ho))]
    exact p3
/-- an empty end of a row -/
theorem HR.tail (hr : HR P w0 pd θ h nx w) {o N es zl d : Nat} {z : List AV} {t : L (Option AV) d} {sh : List Nat} (ho : θ.has o) (ha : obj h o = some (.ce N es z zl d t true sh)) (hn : nx < 32768)
    {es' bs sz : Nat} (hle : bs ≤ θ.bas o + N) (hnew : OR P (θ.put nx (θ.blk o) bs sz es') w nx (.ce 0 es' [] 0 0 none false [])) :
    HR P w0 pd (θ.put nx (θ.blk o) bs sz es') (setO (setO h o (.ce N es z zl d t true (nx :: sh))) nx (.ce 0 es' [] 0 0 none false [])) (nx + 1) w ∧ θ.le (θ.put nx (θ.blk o) bs sz es') := by
  have hnx : ¬ θ.has nx := fun hx => Nat.lt_irrefl _ (hr.own nx hx).1
  have hle' := Th.le_put hnx (θ.blk o) bs sz es'
  have hon : o ≠ nx := fun e => hnx (e ▸ ho)
  have ob : ∀ p, θ.has p → p ≠ o → obj (setO (setO h o (.ce N es z zl d t true (nx :: sh))) nx (.ce 0 es' [] 0 0 none false [])) p = obj h p := fun p hp e => by
    rw [obj_set_ne _ _ hn (hr.lt32 hp) (fun e => hnx (e ▸ hp)), obj_set_ne _ _ (hr.lt32 ho) (hr.lt32 hp) e]
  have obo : obj (setO (setO h o (.ce N es z zl d t true (nx :: sh))) nx (.ce 0 es' [] 0 0 none false [])) o = some (.ce N es z zl d t true (nx :: sh)) := by
    rw [obj_set_ne _ _ hn (hr.lt32 ho) hon, obj_set]
  have hsh : ∀ x ∈ sh, θ.has x := by
    obtain ⟨_, _, _, b, h1, _, h2⟩ := hr.own o ho
    rw [ha] at h1; injection h1 with h1; subst h1; exact h2
  have ext : ∀ (c : AO) (p : Nat), θ.has p → c.ext (θ.put nx (θ.blk o) bs sz es') p = c.ext θ p := fun c p hp => by cases c <;> simp only [AO.ext, hle'.bas p hp]
  refine ⟨⟨by omega, fun p hp => ?_, fun p q b b' hne hp hq hb hb' hw hl he => ?_, hr.size, hr.kept, hr.plain, fun p b hb => ?_, hr.nodup, (hr.fresh.set (Nat.le_refl _) (hr.own o ho).1 (hr.lt32 ho)).set (by omega) (by omega) hn⟩, hle'⟩
  · by_cases e : p = nx
    · subst e
      obtain ⟨a1, a2, a3, _⟩ := hr.own o ho
      exact ⟨by omega, by rw [Th.put_blk]; exact a2, by rw [Th.put_blk]; exact a3, _, obj_set _ _ _, hnew, fun x hx => by cases hx⟩
    · have hp1 : θ.has p := hp.resolve_left e
      obtain ⟨a1, a2, a3, b, a4, hor, a6⟩ := hr.own p hp1
      by_cases e' : p = o
      · subst e'
        rw [ha] at a4; injection a4 with a4; subst a4
        refine ⟨by omega, by rw [hle'.blk p hp1]; exact a2, by rw [hle'.blk p hp1]; exact a3, _, obo, ?_, fun x hx => ?_⟩
        · exact OR.mono (a := .ce N es z zl d t true sh) hle' hp1 rfl hor
        · rcases List.mem_cons.1 hx with rfl | hx
          · exact Th.put_has ..
          · exact hle'.has x (hsh x hx)
      · exact ⟨by omega, by rw [hle'.blk p hp1]; exact a2, by rw [hle'.blk p hp1]; exact a3, b, by rw [ob p hp1 e']; exact a4, hor.mono hle' hp1 rfl, fun x hx => hle'.has x (a6 x hx)⟩
  · by_cases e : p = nx
    · subst e
      rw [obj_set] at hb; injection hb with hb; subst hb; cases hw
    · have hp1 : θ.has p := hp.resolve_left e
      by_cases ep : p = o
      · subst ep
        rw [obo] at hb; injection hb with hb; subst hb
        by_cases eq : q = nx
        · subst eq
          rw [obj_set] at hb'; injection hb' with hb'; subst hb'
          refine ⟨List.mem_cons_self .., ?_, rfl⟩
          have hx : (AO.ce 0 es' [] 0 0 none false []).ext (θ.put q (θ.blk p) bs sz es') q = bs := by simp [AO.ext]
          rw [hx, ext _ p hp1]
          exact hle
        · have hq1 : θ.has q := hq.resolve_left eq
          rw [ob q hq1 (Ne.symm hne)] at hb'
          rw [hle'.blk p hp1, hle'.blk q hq1] at he
          rw [ext b' q hq1, ext _ p hp1]
          obtain ⟨h1, h2, h3⟩ := hr.apart p q _ b' hne hp1 hq1 ha hb' rfl hl he
          exact ⟨List.mem_cons_of_mem _ h1, h2, h3⟩
      · rw [ob p hp1 ep] at hb
        have hpo : θ.blk p ≠ θ.blk o := fun heq => by
          have := (hr.apart p o b _ ep hp1 ho hb ha hw rfl heq).2.2
          cases this
        by_cases eq : q = nx
        · subst eq
          rw [Th.put_blk, hle'.blk p hp1] at he
          exact absurd he hpo
        · have hq1 : θ.has q := hq.resolve_left eq
          rw [hle'.blk p hp1, hle'.blk q hq1] at he
          by_cases eqo : q = o
          · subst eqo; exact absurd he hpo
          · rw [ob q hq1 eqo] at hb'
            rw [ext b' q hq1, ext b p hp1]
            exact hr.apart p q b b' hne hp1 hq1 hb hb' hw hl he
  · obtain ⟨p1, p2, p3⟩ := hr.pend p b hb
    refine ⟨fun hx => hx.elim (fun e => by omega) p1, by omega, ?_⟩
    rw [obj_set_ne _ _ hn (Nat.lt_of_lt_of_le p2 hr.lim) (by omega), obj_set_ne _ _ (hr.lt32 ho) (Nat.lt_of_lt_of_le p2 hr.lim) (fun e => p1 (e ▸ ho))]
    exact p3
end

section
variable {P : Program} {o : Oper} {x y z : XF} {X Y Z : Operand}
/-! ### What else acts -/
theorem a_s2b {s d el : TypeId} (hx : XOk x X) (hs : P.underlying s = some .string) (hd : P.underlying d = some (.slice el)) (he : P.underlying el = some (.int .u8)) (ho : o.op = .convert s d X) : OpOk P o (oS2b x) := by
  intro en h nx κ w0 pd θ a w hE hR e
  obtain ⟨v, hv, hr⟩ := hx en
  simp only [oS2b, hv] at e
  obtain ⟨l, rfl, e1⟩ := asS_true e
  have ofb : ∀ (l : List Nat) (κ : List AV → R), ofBytes l κ = κ (l.map fun m => .i 4 (.ofNat m)) := by
    intro l
    induction l with
    | nil => intro κ; rfl
    | cons m l ih => intro κ; exact ih _
  simp only [ofb, fnat_eq, lenN_eq] at e1
  obtain ⟨hn, e2⟩ := newK_true e1
  obtain ⟨hp, hb⟩ := (hr θ a hE).s
  have hnx : ¬ θ.has nx := fun hx => Nat.lt_irrefl _ (hR.own nx hx).1
  have hok : ∀ θ, Oks θ (l.map fun m => AV.i 4 (.ofNat m)) := fun θ => Oks_iff.2 fun v hv => by obtain ⟨m, _, rfl⟩ := List.mem_map.1 hv; trivial
  have hone : (l.map fun m => AV.i 4 (.ofNat m)).all one = true := List.all_eq_true.2 fun v hv => by obtain ⟨m, _, rfl⟩ := List.mem_map.1 hv; rfl
  -- the row
  obtain ⟨cap, hcap0⟩ : ∃ n, n = (Question.appendCap (bytesOf l).size 0 el).cut (w.tape w.drawn (Question.appendCap (bytesOf l).size 0 el)) := ⟨_, rfl⟩
  obtain ⟨c, hc0⟩ : ∃ c : Array Value, c = (bytesOf l).data.map (fun b => Value.int .u8 b.toNat) ++ Array.replicate (cap - (bytesOf l).size) (.int .u8 0) := ⟨_, rfl⟩
  have hcap : l.length ≤ cap := by
    rw [hcap0]
    show l.length ≤ (bytesOf l).size + _
    rw [bytes_size]; omega
  have hcs : c.size = cap := by
    rw [hc0, Array.size_append, Array.size_map, Array.size_replicate]
    have : (bytesOf l).data.size = l.length := by rw [← bytes_size l]; rfl
    rw [this, bytes_size]; omega
  have hci : ∀ i, i < l.length → ∀ θ, c[i]? = ((l.map fun m => AV.i 4 (.ofNat m))[i]?).map (toV θ) := by
    intro i hi θ
    rw [hc0]
    have hsz : (bytesOf l).data.size = l.length := by rw [← bytes_size l]; rfl
    rw [Array.getElem?_append_left (by rw [Array.size_map, hsz]; exact hi)]
    have hm : l[i] < 256 := hb _ (List.getElem_mem hi)
    simp [bytesOf, hi, toV, kindOf, Nat.mod_eq_of_lt hm]
  obtain ⟨w1, hw1⟩ : ∃ w1 : World, w1 = { w with drawn := w.drawn + 1, heap := w.heap.push (.cells c el (c.size, c.size + 1)) } := ⟨_, rfl⟩
  obtain ⟨k1, k2⟩ := hR.new (w' := w1) (ob := .cells c el (c.size, c.size + 1)) (by rw [hw1]) (by rw [hw1]; exact ⟨rfl, rfl, rfl⟩) hn (a := .ce l.length 1 (l.map fun m => .i 4 (.ofNat m)) l.length (deep l.length) (E (deep l.length)) true []) (bs := 0) (sz := cap) (es := 1) (by
    refine ⟨c, el, (c.size, c.size + 1), ?_, deep_ge _, fun i hi => ?_, .inr (Nat.le_refl _), fun h => by omega, fun _ => ⟨by simp, by rw [Th.put_siz]; exact hcap, by rw [Th.put_bas, Th.put_siz, hcs]; omega⟩⟩
    · rw [Th.put_blk, hw1]
      show (w.heap.push _)[w.heap.size]? = _
      simp
    · refine ⟨.i 4 (.ofNat l[i]), ?_, trivial, rfl, ?_⟩
      · rw [cellO_E, Nat.mod_eq_of_lt hi]; simp [hi]
      · rw [Th.put_bas, Nat.zero_add, hci i hi θ]; simp [hi, toV]) (by intro x hx; cases hx)
  refine ⟨.sl nx 0 l.length none, .slice (some ⟨w.heap.size, 0, none⟩) l.length cap, _, _, _, w1, .value _, k2, ⟨Th.put_has .., by simp [toV]⟩, k1, e2, ?_, rfl⟩
  have hlen : (bytesOf l).size = l.length := bytes_size l
  have hf : (Question.appendCap (bytesOf l).size 0 el).forced = false := rfl
  simp only [execOp, ho, hp, convert, Sem.run_bind, run_underlying hs, run_underlying hd, run_underlying he, Result.andThen, Conv.stringToBytes, choose, Sem.run, hf, Bool.false_eq_true, if_false, newRow, newObj, markStringish, shape, Sem.run_pure]
  have hsh : World.shape? { w with drawn := w.drawn + 1, heap := w.heap.push (.cells c el) } w.heap.size = some (el, c.size) := by simp [World.shape?]
  have hfz : World.freeze { w with drawn := w.drawn + 1, heap := w.heap.push (.cells c el) } { block := w.heap.size, off := c.size } 1 = w1 := by
    have : (w.heap.push (Obj.cells c el)).modify w.heap.size (fun
        | .cells c' elem (lo, hi) => .cells c' elem (if lo == hi then (c.size, c.size + 1) else (min lo c.size, max hi (c.size + 1)))
        | o => o) = w.heap.push (.cells c el (c.size, c.size + 1)) := by
      apply Array.ext_getElem?
      intro i
      rw [Array.getElem?_modify]
      by_cases hi : w.heap.size = i
      · subst hi; simp
      · rw [if_neg hi]
        by_cases hl : i < w.heap.size
        · rw [Array.getElem?_push_lt hl, Array.getElem?_push_lt hl]
        · rw [Array.getElem?_eq_none (by simp; omega), Array.getElem?_eq_none (by simp; omega)]
    unfold World.freeze
    rw [if_neg (by decide)]
    rw [hw1]
    show ({ w with drawn := w.drawn + 1, heap := _ } : World) = { w with drawn := w.drawn + 1, heap := _ }
    congr 1
  rw [← hcap0, ← hc0, hsh]
  simp only [freeze, Sem.run]
  rw [hfz, hlen]
end
end Go.AM
