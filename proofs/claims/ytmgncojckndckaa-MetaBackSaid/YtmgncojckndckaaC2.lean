/- A part of the proof of this: A right meta is read back, also after what was read has been spoilt. Conditions: none. Joined of DenL, DenO, DenP, DenQ, DenM, DenT, DenU, DenV, DenW, DenY, DenZ, P1, P2, P3, B1, B2. -/
import Derived.Test.YtmgncojckndckaaC1
import Derived.Laws.Small
import Derived.OrdersHeld
import Derived.LoopN
import Derived.Laws.StructEq
import Derived.ProofKit
import Derived.Deep.Slices
import Derived.Below
import Derived.ShutString
import Derived.Carry
import Derived.OpenShut
import Derived.Defers
import Derived.Recover
import Derived.WideLaws
import Derived.Test.YtmgncojckndckaaProg
import Derived.KernelRfl
namespace Go.Den
open Go Go.RowKit
section
variable {C : Ctx} {Θ : Anc} {n : Nat} {σ : St} {a : Act} {w : World} {Z : Nat → Prop} {G : Nat → Value} {o : Oper} {K : Act → World → Prop} {Q : Exit → Act → World → Prop} {k : St → Prop}
theorem lst_rep (S : Sim C.P Θ n σ a w Z G) {x : Option Operand} {v : Option Int} (h : lst σ x = some v) : (x = none ∧ v = none) ∨ ∃ y kd i, x = some y ∧ v = some i ∧ a.eval y = .int kd i := by
  unfold lst at h
  split at h
  · injection h with h; exact .inl ⟨rfl, h.symm⟩
  · rename_i y
    split at h
    · rename_i kd u hu
      injection h with h
      have := S.ev y
      rw [hu] at this
      exact .inr ⟨y, kd, u.int, rfl, h.symm, this.1⟩
    · cases h
theorem run_bounds {P : Program} {isSlice : Bool} {len cap : Nat} {lo hi mx : Option Operand} {l h m : Option Int} (hcap : len ≤ cap)
    (hl : (lo = none ∧ l = none) ∨ ∃ y kd i, lo = some y ∧ l = some i ∧ a.eval y = .int kd i) (hh : (hi = none ∧ h = none) ∨ ∃ y kd i, hi = some y ∧ h = some i ∧ a.eval y = .int kd i)
    (hm : (mx = none ∧ m = none) ∨ ∃ y kd i, mx = some y ∧ m = some i ∧ a.eval y = .int kd i) (hmh : m.isSome = true → h.isSome = true)
    (hb : 0 ≤ l.getD 0 ∧ l.getD 0 ≤ h.getD len ∧ h.getD len ≤ m.getD (h.getD len) ∧ m.getD (h.getD len) ≤ len) :
    (Instr.sliceBounds isSlice len cap (lo.map a.eval) (hi.map a.eval) (mx.map a.eval)).run P w = .ok ((l.getD 0).toNat, (h.getD len).toNat, (m.getD cap).toNat) w := by
  obtain ⟨b1, b2, b3, b4⟩ := hb
  have bound : ∀ (k : IntKind) (i : Int) (y : Nat) (code : BoundsCode), 0 ≤ i → i ≤ y → (Instr.sliceBound (.int k i) y code).run P w = .ok i.toNat w := fun k i y code h0 h1 => run_sliceBound w k i y code h0 h1
  rcases hm with ⟨rfl, rfl⟩ | ⟨ym, km, im, rfl, rfl, em⟩
  · simp only [Option.getD_none, Option.map_none] at *
    rcases hh with ⟨rfl, rfl⟩ | ⟨yh, kh, ih, rfl, rfl, eh⟩
    · simp only [Option.getD_none, Option.map_none] at *
      rcases hl with ⟨rfl, rfl⟩ | ⟨yl, kl, il, rfl, rfl, el⟩
      · simp [Instr.sliceBounds]
      · simp only [Option.getD_some, Option.map_some] at *
        simp [Instr.sliceBounds, el, bound kl il len _ b1 b2]
    · simp only [Option.getD_some, Option.map_some] at *
      have c1 : ih ≤ (cap : Int) := by omega
      rcases hl with ⟨rfl, rfl⟩ | ⟨yl, kl, il, rfl, rfl, el⟩
      · simp only [Option.getD_none, Option.map_none] at *
        simp [Instr.sliceBounds, eh, bound kh ih cap _ (by omega) c1]
      · simp only [Option.getD_some, Option.map_some] at *
        simp [Instr.sliceBounds, eh, el, bound kh ih cap _ (by omega) c1, bound kl il ih.toNat _ b1 (by omega)]
  · rcases hh with ⟨rfl, rfl⟩ | ⟨yh, kh, ih, rfl, rfl, eh⟩
    · exact absurd (hmh rfl) (by simp)
    · simp only [Option.getD_some, Option.map_some] at *
      have c1 : im ≤ (cap : Int) := by omega
      rcases hl with ⟨rfl, rfl⟩ | ⟨yl, kl, il, rfl, rfl, el⟩
      · simp only [Option.getD_none, Option.map_none] at *
        simp [Instr.sliceBounds, em, eh, bound km im cap _ (by omega) c1, bound kh ih im.toNat _ (by omega) (by omega)]
      · simp only [Option.getD_some, Option.map_some] at *
        simp [Instr.sliceBounds, em, eh, el, bound km im cap _ (by omega) c1, bound kh ih im.toNat _ (by omega) (by omega), bound kl il ih.toNat _ b1 (by omega)]
theorem slice_sound {t e : TypeId} {x : Operand} {lo hi mx : Option Operand} {l h m : Option Int} {mm : Bool} {cs : List Ct} {u : U} (S : Sim C.P Θ n σ a w Z G) (hd : ∀ t, o.dst = some t → t < n)
    (hk : ∀ σ' a' w' Z' G', k σ' → Sim C.P Θ n σ' a' w' Z' G' → K a' w') (ho : o.op = .slice t x lo hi mx) (hu : C.P.underlying t = some (.slice e)) (hs : sizeT C.P e = some cs.length)
    (hl : lst σ lo = some l) (hh : lst σ hi = some h) (hm : lst σ mx = some m) (hmh : m.isSome = true → h.isSome = true) (hx : σ.ev x = .val (.sl mm cs) u)
    (hb : 0 ≤ l.getD 0 ∧ l.getD 0 ≤ h.getD u.list.length ∧ h.getD u.list.length ≤ m.getD (h.getD u.list.length) ∧ m.getD (h.getD u.list.length) ≤ u.list.length)
    (hkk : k (setD σ o.dst (.val (.sl mm cs) (.l ((u.list.take (h.getD u.list.length).toNat).drop (l.getD 0).toNat))))) : o.wp C.P a w K Q := by
  have hv := S.ev x
  rw [hx] at hv
  obtain ⟨A, c, hv, hc, hcm, hel⟩ := hv
  have hbr := run_bounds (P := C.P) (isSlice := true) (w := w) hc (lst_rep S hl) (lst_rep S hh) (lst_rep S hm) hmh hb
  obtain ⟨b1, b2, b3, b4⟩ := hb
  have hm' : (m.getD c).toNat = c ∨ (∃ im, m = some im ∧ (m.getD c).toNat = im.toNat) := by cases m with
    | none => left; simp
    | some im => right; exact ⟨im, rfl, rfl⟩
  refine wp_value (v := .slice (if (m.getD c).toNat = (l.getD 0).toNat then A else A.map (·.add ((l.getD 0).toNat * cs.length))) ((h.getD u.list.length).toNat - (l.getD 0).toNat) ((m.getD c).toNat - (l.getD 0).toNat)) (w' := w) ?_ (hk _ _ _ _ _ hkk (S.put ?_ hd))
  · simp [execOp, ho, hv, Instr.sliceAt, Instr.slice, run_underlying hu, hbr, run_size hs]
  · have hlen : ((u.list.take (h.getD u.list.length).toNat).drop (l.getD 0).toNat).length = (h.getD u.list.length).toNat - (l.getD 0).toNat := by
      simp only [List.length_drop, List.length_take]; omega
    have hcapm : (h.getD u.list.length).toNat ≤ (m.getD c).toNat := by
      cases m with
      | none => simp only [Option.getD_none] at *; omega
      | some im => simp only [Option.getD_some] at *; omega
    refine ⟨_, _, by rw [U.list_l, hlen], by rw [U.list_l, hlen]; omega, ?_, fun i hi => ?_⟩
    · cases m with
      | none => simp only [Option.getD_none] at *; omega
      | some im => simp only [Option.getD_some] at *; omega
    rw [U.list_l, hlen] at hi
    obtain ⟨b, off, hA, hZ, hr⟩ := hel ((l.getD 0).toNat + i) (by omega)
    rw [if_neg (by omega), hA]
    refine ⟨b, off + (l.getD 0).toNat * cs.length, by simp [addr_add], hZ, ?_⟩
    have hat : U.at (U.l ((u.list.take (h.getD u.list.length).toNat).drop (l.getD 0).toNat)).list i = U.at u.list ((l.getD 0).toNat + i) := by
      rw [U.list_l, at_getElem _ _ (by rw [hlen]; exact hi), at_getElem _ _ (by omega)]
      simp
    rw [hat, Nat.add_assoc, ← Nat.add_mul]
    exact hr
theorem nth_val {l : List SV} {i : Nat} {c : Ct} {u : U} (h : nth .unk l i = .val c u) : i < l.length := by
  induction l generalizing i with
  | nil => simp at h
  | cons x r ih => cases i with
    | zero => simp
    | succ i => have := ih (i := i) h; simp; omega
theorem ext_sound {f : FuncId} {cf : Operand} {args : Array Operand} {ts : Array TypeId} {e : Ext} (he : ExtOk C.P f e) (hkb : Θ.kb = false) (S : Sim C.P Θ n σ a w Z G) (hd : ∀ t, o.dst = some t → t < n)
    (hk : ∀ σ' a' w' Z' G', k σ' → Sim C.P Θ n σ' a' w' Z' G' → K a' w')
    (ho : o.op = .call { callee := .value cf, args := args, argTypes := ts }) (hev : a.eval cf = .func (.func f) #[] #[]) (h : opExt o.dst e (evs σ args.toList) σ k) : o.wp C.P a w K Q := by
  unfold opExt at h
  split at h
  · rename_i id off hargs
    obtain ⟨x, hx, hxv⟩ : ∃ x, args.toList = [x] ∧ σ.ev x = .ptr id off := by
      cases hl : args.toList with
      | nil => rw [hl] at hargs; cases hargs
      | cons x r => cases r with
        | nil => rw [hl] at hargs; exact ⟨x, rfl, by injection hargs⟩
        | cons y s => rw [hl] at hargs; simp [evs] at hargs
    have hx' : args = #[x] := by apply Array.ext'; simpa using hx
    obtain ⟨b, hG, hv⟩ : ∃ b, G id = .pointer (some ⟨b, 0, none⟩) ∧ a.eval x = .pointer (some ⟨b, off, none⟩) := by have := S.ev x; rw [hxv] at this; exact this
    split at h
    · rename_i cells hob
      split at h
      · rename_i u hc
        obtain ⟨b', ty, cur, h1, h2, h3⟩ := S.obj id _ hob
        rw [hG] at h1
        cases h1
        have hcl : cells.length = cur.size := by have := h3.length; simpa using this
        have hlt : off < cur.size := by have := nth_val hc; omega
        have hr := h3.nth off cur[off] (by simp)
        rw [hc] at hr
        have hcell : cur[off] = .int .i64 u.int := hr.1
        have hw : w.cell? ⟨b, off, none⟩ = some (.int .i64 u.int) := by rw [cell_of_row w b off cur ty (0, 0) h2, Array.getElem?_eq_getElem hlt, hcell]
        refine wp_value (v := .int .i64 u.int) (w' := w) ?_ (hk _ _ _ _ _ h (S.put (by rw [← hcell]; exact hr) hd))
        have := he _ _ _ hw
        simp [execOp, ho, resolve, hev, Deferred.ofValue, invoke, hx', hv, this]
      · cases h
    · cases h
  · rename_i id off y hargs
    obtain ⟨x, x2, hx, hxv, hxv2⟩ : ∃ x x2, args.toList = [x, x2] ∧ σ.ev x = .ptr id off ∧ σ.ev x2 = .val (.int .i64) y := by
      cases hl : args.toList with
      | nil => rw [hl] at hargs; cases hargs
      | cons x r => cases r with
        | nil => rw [hl] at hargs; simp [evs] at hargs
        | cons x2 s => cases s with
          | nil => rw [hl] at hargs; simp only [evs, List.cons.injEq, and_true] at hargs; exact ⟨x, x2, rfl, hargs.1, hargs.2⟩
          | cons y s => rw [hl] at hargs; simp [evs] at hargs
    have hx' : args = #[x, x2] := by apply Array.ext'; simpa using hx
    obtain ⟨b, hG, hv⟩ : ∃ b, G id = .pointer (some ⟨b, 0, none⟩) ∧ a.eval x = .pointer (some ⟨b, off, none⟩) := by have := S.ev x; rw [hxv] at this; exact this
    have hv2 : a.eval x2 = .int .i64 y.int := by have := S.ev x2; rw [hxv2] at this; exact this.1
    split at h
    · rename_i cells hob
      split at h
      · rename_i u hc
        obtain ⟨b', ty, cur, h1, h2, h3⟩ := S.obj id _ hob
        rw [hG] at h1
        cases h1
        have hcl : cells.length = cur.size := by have := h3.length; simpa using this
        have hlt : off < cur.size := by have := nth_val hc; omega
        have hr := h3.nth off cur[off] (by simp)
        rw [hc] at hr
        have hcell : cur[off] = .int .i64 u.int := hr.1
        have hw : w.cell? ⟨b, off, none⟩ = some (.int .i64 u.int) := by rw [cell_of_row w b off cur ty (0, 0) h2, Array.getElem?_eq_getElem hlt, hcell]
        have hrun := he _ _ y.int _ hw (by simp [World.frozen?, h2])
        obtain ⟨cur', g1, g2, g3⟩ := setCells_block b ty [.int .i64 (IntKind.wrap .i64 (u.int + y.int))] off w cur h2 (by simp; omega)
        have hg := setCells_grown b [.int .i64 (IntKind.wrap .i64 (u.int + y.int))] off w
        have hK : Stays w (w.setCells b off [.int .i64 (IntKind.wrap .i64 (u.int + y.int))]) Z Z := ⟨fun _ h => h, fun c hc => hg.block c (S.lt c hc) (fun e => by
          cases e; exact (S.free id _ b hob (by rw [hG]; rfl)).1 hc)⟩
        have hnew : ∀ w' : World, RepSV w' Z G (.val (.int .i64) (.i (IntKind.wrap .i64 (u.int + y.int)))) (.int .i64 (IntKind.wrap .i64 (u.int + y.int))) := fun w' => rep_wrap _ _
        have Snew := S.stored (o' := .box (patch cells off [.val (.int .i64) (.i (IntKind.wrap .i64 (u.int + y.int)))])) hob (by rw [hG]; rfl) hg (setCells_plain b _ _ w).2.2.2 hkb ⟨b, ty, cur', hG, g1, by
          rw [g2]
          exact RepSVs.mono hK _ _ (h3.patch (m := [.val (.int .i64) (.i (IntKind.wrap .i64 (u.int + y.int)))]) ⟨_, [], rfl, hnew w, rfl⟩ off)⟩
        refine wp_value (v := .int .i64 (IntKind.wrap .i64 (u.int + y.int))) (w' := w.setCells b off [.int .i64 (IntKind.wrap .i64 (u.int + y.int))]) ?_ (hk _ _ _ _ _ h (Snew.put (hnew _) hd))
        simp [execOp, ho, resolve, hev, Deferred.ofValue, invoke, hx', hv, hv2, hrun]
        rfl
      · cases h
    · cases h
  · cases h
theorem call_sound {f : FuncId} {cf : Operand} {args : Array Operand} {ts : Array TypeId} {cs : List SV} (hC : C.Ok) (hT : Θ.lets C o = true) (S : Sim C.P Θ n σ a w Z G) (hd : ∀ t, o.dst = some t → t < n)
    (hk : ∀ σ' a' w' Z' G', k σ' → Sim C.P Θ n σ' a' w' Z' G' → K a' w') (hp : ∀ s σ' w' Z' G' v, C.pan s σ' → Sim C.P Θ n σ' a w' Z' G' → RepSV w' Z' G' s v → Q (.panic [{ v := v, recovered := false }]) a w')
    (ho : o.op = .call { callee := .value cf, args := args, argTypes := ts }) (hcf : σ.ev cf = .clo f cs) (h : opCall C o.dst f cf args.toList σ k) : o.wp C.P a w K Q := by
  unfold opCall at h
  split at h
  · cases h
  rename_i fn hf
  split at h
  · rename_i e hE
    split at h
    case h_2 => cases h
    rename_i f' hcf2
    rw [hcf] at hcf2
    cases hcf2
    have hev : a.eval cf = .func (.func f) #[] #[] := by
      have := S.ev cf
      rw [hcf] at this
      obtain ⟨vs, h1, h2⟩ := this
      have h2 : vs.toList = [] := h2
      have : vs = #[] := by apply Array.ext'; simpa using h2
      rw [h1, this]
    have ht : Θ.kb = false := by
      have htc : touchC C o = true := by
        unfold touchC
        rw [ho]
        cases cf with
        | func g =>
          have : g = f := by
            have : SV.clo g [] = SV.clo f [] := hcf
            cases this; rfl
          subst this
          simp [hE]
        | tmp t => rfl
        | const v => rfl
        | global g => rfl
      have hb : touchB C o = true := by unfold touchB; rw [ho]; exact htc
      unfold Anc.lets at hT
      rw [hb] at hT
      simp only [Bool.and_eq_true, Bool.or_eq_true] at hT
      simpa using hT.1
    exact ext_sound (hC.exts f e hE) ht S hd hk ho hev h
  rename_i hE
  split at h
  · rename_i fs F hF
    have ht : C.calm f = false → Θ.kb = false ∧ Θ.ka = false := by
      intro hcalm
      have htc : touchC C o = true := by
        unfold touchC
        rw [ho]
        cases cf with
        | func g =>
          have : g = f := by
            have : SV.clo g [] = SV.clo f cs := hcf
            cases this; rfl
          subst this
          simp [hE, hF, hcalm]
        | tmp t => rfl
        | const v => rfl
        | global g => rfl
      have hb : touchB C o = true := by unfold touchB; rw [ho]; exact htc
      have ha : touchA C o = true := by unfold touchA; rw [ho]; exact htc
      unfold Anc.lets at hT
      simpa [hb, ha] using hT
    exact callT_sound hC ht S hd hk hp ho hcf hf hF h
  · split at h
    case h_2 => cases h
    rename_i f' hcf2
    rw [hcf] at hcf2
    cases hcf2
    have hev : a.eval cf = .func (.func f) #[] #[] := by
      have := S.ev cf
      rw [hcf] at this
      obtain ⟨vs, h1, h2⟩ := this
      have h2 : vs.toList = [] := h2
      have : vs = #[] := by apply Array.ext'; simpa using h2
      rw [h1, this]
    split at h
    · rename_i hsc
      refine call_wp hC S hd hk ho hev hf (g := toU C.P σ.objs) (Zc := fun b => Z b ∨ Live σ G b) (fun c s u v hu hs => toU_rep S hu hs) ?_ ?_ h
      · rintro b (hb | ⟨id, e, ob, h1, h2⟩)
        · exact S.lt b hb
        · exact RepO.lt S h1 h2
      · intro rs svs w' v Z' hsv hrr h1 h2 h3
        refine ⟨fun b => Z b, fun b hb => .inl hb, fun b hb => hb, fun b hb => h2 b (h3 b (.inl hb)), ?_⟩
        unfold RepRes at hrr ⊢
        split at hrr
        · rename_i s
          obtain ⟨v', t', hv, hs, _⟩ := scalars_rep (Z' := Z) hsc hsv (vs := [v]) ⟨v, [], rfl, hrr, rfl⟩
          cases hv
          exact hs
        · rename_i hne
          obtain ⟨vs, rfl, hs⟩ := hrr
          exact ⟨vs, rfl, scalars_rep hsc hsv hs⟩
    · split at h
      · rename_i σ' hfr
        obtain ⟨Z', S'⟩ := freezes_sim S hfr
        exact call_wp hC S' hd hk ho hev hf (g := plainU) (Zc := Z') (fun c s u v hu hs => plainU_rep hu hs) S'.lt
          (fun rs svs w' v Z'' hsv hrr h1 h2 h3 => ⟨Z'', h1, h3, h2, hrr⟩) h
      · cases h
theorem op1_sound (hC : C.Ok) (hT : Θ.lets C o = true) (S : Sim C.P Θ n σ a w Z G) (hd : ∀ t, o.dst = some t → t < n) (hst : ∀ t x y, o.op = .store t x y → o.dst = none) (hst' : ∀ {t x i v}, o.op = .mapUpdate t x i v → o.dst = none) (hst'' : ∀ {t x i v}, o.op = .entryStore t x i v → o.dst = none)
    (h : op1 C o σ k) (hk : ∀ σ' a' w' Z' G', k σ' → Sim C.P Θ n σ' a' w' Z' G' → K a' w') (hp : ∀ s σ' w' Z' G' v, C.pan s σ' → Sim C.P Θ n σ' a w' Z' G' → RepSV w' Z' G' s v → Q (.panic [{ v := v, recovered := false }]) a w') : o.wp C.P a w K Q := by
  have h0 := h
  unfold op1 at h
  split at h
  · rename_i x ho
    exact op_move ho (hk _ _ _ _ _ h (S.put (S.ev x) hd))
  · rename_i x ho
    split at h
    · rename_i d e hn hdst hnc
      split at h
      · rename_i hsm
        have hv : a.eval x = .slice none 0 0 := by have := S.ev x; rw [isNil_eq hn] at this; exact this
        obtain ⟨i, m, cs, z, h1, h2, h3, h4, h5, h6, h7⟩ := smallType_some hsm
        refine op_assign ho ?_
        rw [hv]
        exact new_put (ob := .arr e []) (s := .own (2 * (d * 64 + 62))) (id := 2 * (d * 64 + 62)) (row := none) (v := .slice none 0 0) S hdst hd hk (by omega) ⟨rfl, rfl, rfl, Nat.le_refl _, fun _ _ _ => rfl⟩ (fun b hb => by cases hb) (fun b hb => by cases hb)
          ⟨m, cs, [], h2, by simp only [if_true]; exact World.ownsRow_nil w 0 e cs.length, rfl⟩ (by show _ = _; simp) h
      · cases h
    · exact op_assign ho (hk _ _ _ _ _ h (S.put (S.ev x) hd))
  · rename_i c x y ho
    split at h
    · rename_i u hu
      have hc : a.eval c = .bool u.bool := by have := S.ev c; rw [hu] at this; exact this
      refine op_pick ho hc ?_
      rcases cond_some h with ⟨hb, h⟩ | ⟨hb, h⟩
      · rw [hb]; exact hk _ _ _ _ _ h (S.put (S.ev x) hd)
      · rw [hb]; exact hk _ _ _ _ _ h (S.put (S.ev y) hd)
    · cases h
  · rename_i t x ho
    split at h
    · rename_i d hdst
      obtain ⟨hb, h⟩ := cond_only h
      exact op_box ho (newBox_sound S hdst hd hk (cellsV_ok S hb).1 h)
    · cases h
  · rename_i t ho
    split at h
    · rename_i d z hdst hz
      unfold zeroCells at hz
      split at hz
      · rename_i i hi
        split at hz
        · rename_i zv hzv
          injection hz with hz
          subst hz
          exact op_alloc ho hi hzv (newBox_sound S hdst hd hk (ofConsts_rep _) h)
        · cases hz
      · cases hz
    · cases h
  · rename_i t ps ho
    split at h
    · rename_i fs z hu hz
      split at h
      · rename_i cs hs hf
        exact build_sound S hd hk ho hu hz hs hf h
      · cases h
    · cases h
  · rename_i t ne ps ho
    split at h
    · rename_i e d hnc hdst
      split at h
      · rename_i m cs σ' hcs hsm hfr
        obtain ⟨Z', S'⟩ := freezes_sim S hfr
        split at h
        · rename_i z hz
          split at h
          · rename_i hps
            exact lit0_sound S' hdst hd hk ho (nilCell_some hnc) hsm hps h
          · cases h
        · rename_i z hz
          split at h
          · rename_i v hps
            split at h
            · rename_i us hus
              obtain ⟨h1, h2⟩ : Nat.ble cs.length 16777216 = true ∧ k ((σ'.new (2 * (d * 64 + 63)) (.arr e [ofElem m us])).set d (.own (2 * (d * 64 + 63)))) := cond_only h
              refine lit_sound S' hdst hd hk ho (nilCell_some hnc) hcs hsm hz (xs := [ofElem m us]) ?_ (by have := Nat.le_of_ble_eq_true h1; omega) (by omega) h2
              rw [hps]
              simp only [litElems, hus]
              rfl
            · cases h
          · cases h
        · rename_i z hne hz
          split at h
          · rename_i xs hl
            obtain ⟨h1, h2⟩ := cond_only h
            simp only [Bool.and_eq_true] at h1
            exact lit_sound S' hdst hd hk ho (nilCell_some hnc) hcs hsm hz hl (by have := Nat.le_of_ble_eq_true h1.1; omega) (by have := h1.2; simpa [Nat.blt_eq] using this) h2
          · cases h
        · cases h
      · cases h
    · cases h
  · rename_i t l c ho
    split at h
    · rename_i e d kl ul kc uc hnc hdst hl hc
      split at h
      · rename_i z hsm hz
        obtain ⟨hb, h⟩ := cond_only h
        exact make_sound S hdst hd hk ho (nilCell_some hnc) hl hc hsm hz (of_decide_eq_true hb) h
      · cases h
    · cases h
  · rename_i t x ho
    exact load_sound S hd hk ho h0
  · rename_i t x y ho
    have hT : !Θ.kb && !Θ.ka := by unfold Anc.lets touchB touchA at hT; rw [ho] at hT; exact hT
    simp only [Bool.and_eq_true, Bool.not_eq_true'] at hT
    exact store_sound hT.1 hT.2 S (hst _ _ _ ho) hk ho h0
  · rename_i x ho
    have hx := S.ev x
    split at h
    · rename_i id off hp
      rw [hp] at hx
      obtain ⟨b, hG, hv⟩ := hx
      exact op_nilCheck ho hv (hk _ _ _ _ _ h (S.put ⟨b, hG, rfl⟩ hd))
    · rename_i id sz j off hp
      rw [hp] at hx
      obtain ⟨b, n', c, hG, hv⟩ := hx
      exact op_nilCheck ho hv (hk _ _ _ _ _ h (S.put ⟨b, n', c, hG, rfl⟩ hd))
    · rename_i cs us hp
      rw [hp] at hx
      obtain ⟨b, off, hv, hb, hr⟩ := hx
      exact op_nilCheck ho hv (hk _ _ _ _ _ h (S.put ⟨b, off, rfl, hb, hr⟩ hd))
    · cases h
  · rename_i op t x y t2 ho
    exact op_bin hC ho (S.ev x) (S.ev y) h (fun s v hs hv => hk _ _ _ _ _ hs (S.put hv hd))
  · rename_i t x ho
    split at h
    · rename_i u hu
      have hx : a.eval x = .bool u.bool := by have := S.ev x; rw [hu] at this; exact this
      exact op_not ho hx (hk _ _ _ _ _ h (S.put rfl hd))
    · cases h
  · rename_i t x ho
    split at h
    · rename_i i u hu
      have hx : a.eval x = .int i u.int := by have := S.ev x; rw [hu] at this; exact this.1
      exact op_neg ho hx (hk _ _ _ _ _ h (S.put (s := .val _ _) (rep_wrap _ _) hd))
    · cases h
  · rename_i s t x ho
    have hx := S.ev x
    split at h
    · rename_i i1 i kd u hs ht hp
      rw [hp] at hx
      have hx : a.eval x = .int kd u.int := hx.1
      refine wp_value (v := .int i (i.wrap u.int)) (w' := w) ?_ (hk _ _ _ _ _ h (S.put (s := .val _ _) (rep_wrap _ _) hd))
      simp [execOp, ho, hx, convert, run_underlying hs, run_underlying ht, Conv.intToInt]
    · rename_i e hs ht
      split at h
      · rename_i he
        split at h
        · rename_i u hu
          have hr := toU_rep S hu hx
          have hrun := run_toString (C := C) hr
          refine wp_value (v := .string ⟨(u.list.map fun x : U => UInt8.ofNat x.int.toNat).toArray⟩) (w' := w) ?_ (hk _ _ _ _ _ h (S.put (s := .val .str _) ⟨rfl, by have := hr.ok.1; simpa [ByteArray.size] using this⟩ hd))
          obtain ⟨A, c, hv, _⟩ := hr
          rw [hv] at hrun
          simp [execOp, ho, hv, convert, run_underlying hs, run_underlying ht, run_underlying he, hrun]
        · cases h
      · cases h
    · rename_i u hs ht hp
      rw [hp] at hx
      obtain ⟨hx, hxs⟩ : a.eval x = .string u.str ∧ u.str.size ≤ maxLen := hx
      refine wp_value (v := .string u.str) (w' := w) ?_ (hk _ _ _ _ _ h (S.put (s := .val .str _) ⟨rfl, hxs⟩ hd))
      simp [execOp, ho, hx, convert, run_underlying hs, run_underlying ht]
    · cases h
  · rename_i s x f ho
    split at h
    · rename_i fd hf
      split at h
      · rename_i k' hs
        have hx := S.ev x
        split at h
        · rename_i id off hp
          rw [hp] at hx
          obtain ⟨b, hG, hv⟩ := hx
          exact op_fieldAddr ho hf hs hv (hk _ _ _ _ _ h (S.put ⟨b, hG, rfl⟩ hd))
        · rename_i id sz j off hp
          rw [hp] at hx
          obtain ⟨b, n', c, hG, hv⟩ := hx
          exact op_fieldAddr ho hf hs hv (hk _ _ _ _ _ h (S.put ⟨b, n', c, hG, by rw [Nat.add_assoc]⟩ hd))
        · rename_i cs us hp
          rw [hp] at hx
          obtain ⟨b, off, hv, hb, hr⟩ := hx
          exact op_fieldAddr ho hf hs hv (hk _ _ _ _ _ h (S.put ⟨b, off + fd.offset, rfl, hb, hr.drop fd.offset⟩ hd))
        · cases h
      · cases h
    · cases h
  · rename_i s x f ho
    have hx := S.ev x
    split at h
    · rename_i fd cells hf hp
      rw [hp] at hx
      obtain ⟨vs, hv, hr⟩ := hx
      split at h
      · rename_i v hpt
        obtain ⟨v', hrun, hrep⟩ := run_part (P := C.P) hr hpt
        exact op_field ho hf hv (hrun w) (hk _ _ _ _ _ h (S.put hrep hd))
      · cases h
    · cases h
  · rename_i t x i ho
    have hx := S.ev x
    have hi := S.ev i
    split at h
    · rename_i e m cs u kd j hu hp hj
      rw [hp] at hx
      rw [hj] at hi
      obtain ⟨hb1, h⟩ := cond_only h
      obtain ⟨hb, h⟩ := cond_only h
      obtain ⟨h1, h2⟩ := of_decide_eq_true hb
      obtain ⟨A, c, hv, hc, hcm, hel⟩ := hx
      obtain ⟨b, off, hA, hZ, hr⟩ := hel j.int.toNat (by omega)
      rw [hA] at hv
      exact op_indexAddr ho hu (isSize_some hb1) hv hi.1 h1 h2 (hk _ _ _ _ _ h (S.put ⟨b, _, rfl, hZ, hr⟩ hd))
    · rename_i e' id kd j hu hp hj
      rw [hp] at hx
      rw [hj] at hi
      split at h
      · rename_i e xs hob
        split at h
        · rename_i m cs hcs
          obtain ⟨hb1, h⟩ := cond_only h
          obtain ⟨hb, h⟩ := cond_only h
          obtain ⟨h1, h2⟩ := of_decide_eq_true hb
          obtain ⟨m2, cs2, vs, g1, g2, g3⟩ := S.obj id _ hob
          rw [hcs] at g1
          cases g1
          rcases g2.2 with ⟨_, g4⟩ | ⟨g, cap, cur, g4, _⟩
          · omega
          have hx : a.eval x = G id := hx
          rw [g4] at hx
          exact op_indexAddr (off := 0) ho hu (isSize_some hb1) hx hi.1 h1 h2 (hk _ _ _ _ _ h (S.put ⟨g, xs.length, cap, g4, by simp⟩ hd))
        · cases h
      · cases h
    · cases h
  · rename_i t x i ho
    have hx := S.ev x
    have hi := S.ev i
    split at h
    · rename_i s kd j hu hp hj
      rw [hp] at hx
      rw [hj] at hi
      obtain ⟨hb, h⟩ := cond_only h
      obtain ⟨h1, h2⟩ := of_decide_eq_true hb
      exact op_index ho hu hx.1 hi.1 h1 h2 (hk _ _ _ _ _ h (S.put (s := .val _ _) (rep_u8 _) hd))
    · cases h
  · rename_i x i ho
    have hx := S.ev x
    split at h
    · rename_i vs hp
      rw [hp] at hx
      obtain ⟨us, hv, hr⟩ := hx
      obtain ⟨hb, h⟩ := cond_only h
      have hb : i < vs.length := by simpa [Nat.blt_eq] using hb
      have hl := hr.length
      have hi : i < us.size := by simp at hl; omega
      have hget : us[i]? = some us[i] := Array.getElem?_eq_getElem hi
      exact op_extract ho hv hget (hk _ _ _ _ _ h (S.put (hr.nth i _ (by simp [hi])) hd))
    · cases h
  · rename_i t x lo hi mx ho
    split at h
    · rename_i e l h1 m hu hl hh hm
      split at h
      · rename_i mm cs u hx
        obtain ⟨hsz, h⟩ := cond_only h
        unfold op1.sliceK at h
        obtain ⟨hb, h⟩ := cond_only h
        simp only [Bool.and_eq_true] at hb
        refine slice_sound S hd hk ho hu (isSize_some hsz) hl hh hm (fun hms => ?_) hx (of_decide_eq_true hb.1) h
        cases m with
        | none => cases hms
        | some m => cases h1 with
          | none => simp at hb
          | some _ => rfl
      · cases h
    · rename_i l h1 hu hl hh hm
      split at h
      · rename_i u hx
        obtain ⟨hb, h⟩ := cond_only h
        have hb := of_decide_eq_true hb
        obtain ⟨hv, hvs⟩ : a.eval x = .string u.str ∧ u.str.size ≤ maxLen := by have := S.ev x; rw [hx] at this; exact this
        have hbr := run_bounds (P := C.P) (isSlice := false) (w := w) (len := u.str.size) (cap := u.str.size) (Nat.le_refl _) (lst_rep S hl) (lst_rep S hh) (.inl ⟨rfl, rfl⟩) (mx := none) (m := none) (by simp) ⟨hb.1, hb.2.1, by simp, by simpa using hb.2.2⟩
        have hmx : mx = none := by
          rcases lst_rep S hm with ⟨h2, _⟩ | ⟨y, kd, i, _, h2, _⟩
          · exact h2
          · cases h2
        subst hmx
        refine wp_value (v := .string (u.str.extract (l.getD 0).toNat (h1.getD u.str.size).toNat)) (w' := w) ?_ (hk _ _ _ _ _ h (S.put (s := .val .str _) ⟨rfl, by show (u.str.extract _ _).size ≤ maxLen; rw [ByteArray.size_extract]; omega⟩ hd))
        simp only [Option.map_none] at hbr
        simp [execOp, ho, hv, Instr.sliceAt, Instr.slice, run_underlying hu, hbr]
      · cases h
    · cases h
  · rename_i args ts ho
    split at h
    · rename_i s t hargs hts
      obtain ⟨p, hp, rfl⟩ := evs_one hargs
      have hx := S.ev p
      split at h
      · rename_i e m cs u hu hev
        rw [hev] at hx
        have hl : u.list.length ≤ maxLen := (RepC.ok (c := .sl m cs) hx).1
        obtain ⟨A, c, hv, _⟩ := hx
        exact op_len_slice ho hp hts hu hv (hk _ _ _ _ _ h (S.put (s := .val _ _) (rep_len hl) hd))
      · rename_i e id hu hev
        rw [hev] at hx
        split at h
        · rename_i e' xs hob
          obtain ⟨m2, cs2, vs, g1, g2, g3⟩ := S.obj id _ hob
          have hl : xs.length ≤ maxLen := (RepO.ok (S.obj id _ hob)).1
          have hx : a.eval p = G id := hx
          rcases g2.2 with ⟨g4, g5⟩ | ⟨g, cap, cur, g4, _⟩
          · rw [g4] at hx
            rw [g5] at h
            exact op_len_slice ho hp hts hu hx (hk _ _ _ _ _ h (S.put (s := .val _ _) (rep_len (Nat.zero_le _)) hd))
          · rw [g4] at hx
            exact op_len_slice ho hp hts hu hx (hk _ _ _ _ _ h (S.put (s := .val _ _) (rep_len hl) hd))
        · cases h
      · rename_i e hu hev
        rw [hev] at hx
        exact op_len_slice ho hp hts hu hx (hk _ _ _ _ _ h (S.put (s := .val _ _) (rep_len (n := 0) (Nat.zero_le _)) hd))
      · rename_i kt vt id hu hev
        rw [hev] at hx
        split at h
        · rename_i t' es hob
          obtain ⟨b', ents, kt', vt', km, kcs, vm, vcs, g1, g2, g3, g4, g5, g6⟩ := S.obj id _ hob
          obtain ⟨b, hG, hv⟩ := hx
          rw [hG] at g1
          cases g1
          have hl : ents.size = es.length := by simpa using RepEnts.length g6
          obtain ⟨hb, h⟩ := cond_only h
          have hb := Nat.le_of_ble_eq_true hb
          refine op_len_map ho hp hts hu hv g2 ?_
          rw [hl]
          exact hk _ _ _ _ _ h (S.put (s := .val _ _) (rep_len (by unfold room at hb; unfold maxLen; omega)) hd)
        · cases h
      · rename_i u hu hev
        rw [hev] at hx
        exact op_len_string ho hp hts hu hx.1 (hk _ _ _ _ _ h (S.put (s := .val _ _) (rep_len hx.2) hd))
      · cases h
    · cases h
  · rename_i args ts ho
    split at h
    · rename_i i x j y hargs
      obtain ⟨p, q, hp, hx, hy⟩ := evs_two hargs
      obtain ⟨hs, h'⟩ := cond_only h
      have hij := same_eq hs
      subst hij
      have hvx : RepC w Z (.int i) (a.eval p) x := by have := S.ev p; rw [← hx] at this; exact this
      have hvy : RepC w Z (.int i) (a.eval q) y := by have := S.ev q; rw [← hy] at this; exact this
      have ha' : args = #[p, q] := by cases args; simp_all
      subst ha'
      refine wp_value (v := .int i (bif decide (y.int < x.int) then y.int else x.int)) (w' := w) ?_ (hk _ _ _ _ _ h' (S.put (s := .val (.int i) (.i _)) ⟨rfl, ?_⟩ hd))
      · simp [execOp, ho, resolve, invoke, builtin, hvx.1, hvy.1, run_min_int2]
      · have h1 := hvx.2
        have h2 := hvy.2
        show i.min ≤ (bif decide (y.int < x.int) then y.int else x.int) ∧ (bif decide (y.int < x.int) then y.int else x.int) ≤ i.max
        cases decide (y.int < x.int) <;> first | exact h1 | exact h2
    · cases h
  · rename_i args ts ho
    split at h
    · rename_i i x j y hargs
      obtain ⟨p, q, hp, hx, hy⟩ := evs_two hargs
      obtain ⟨hs, h'⟩ := cond_only h
      have hij := same_eq hs
      subst hij
      have hvx : RepC w Z (.int i) (a.eval p) x := by have := S.ev p; rw [← hx] at this; exact this
      have hvy : RepC w Z (.int i) (a.eval q) y := by have := S.ev q; rw [← hy] at this; exact this
      have ha' : args = #[p, q] := by cases args; simp_all
      subst ha'
      refine wp_value (v := .int i (bif decide (x.int < y.int) then y.int else x.int)) (w' := w) ?_ (hk _ _ _ _ _ h' (S.put (s := .val (.int i) (.i _)) ⟨rfl, ?_⟩ hd))
      · simp [execOp, ho, resolve, invoke, builtin, hvx.1, hvy.1, run_max_int2]
      · have h1 := hvx.2
        have h2 := hvy.2
        show i.min ≤ (bif decide (x.int < y.int) then y.int else x.int) ∧ (bif decide (x.int < y.int) then y.int else x.int) ≤ i.max
        cases decide (x.int < y.int) <;> first | exact h1 | exact h2
    · cases h
  · rename_i args ts ho
    split at h
    · rename_i s x t tx d hargs hts hdst
      obtain ⟨p, q, hp, rfl, rfl⟩ := evs_two hargs
      have hka : Θ.ka = false := by unfold Anc.lets touchB touchA at hT; rw [ho] at hT; simp at hT; exact hT.2
      split at h
      · rename_i e e' hnc hu
        exact append_sound (str := false) S hdst hd hk ho hp hts hka (nilCell_some hnc) (by simpa using ⟨e', hu⟩) h
      · rename_i e hnc hu
        exact append_sound (str := true) S hdst hd hk ho hp hts hka (nilCell_some hnc) (by simpa using hu) h
      · cases h
    · cases h
  · rename_i cf args ts ho
    split at h
    · rename_i f cs hcf
      exact call_sound hC hT S hd hk hp ho hcf h
    · cases h
  · rename_i t x i ok ho
    exact lookup_sound S hd hk ho h0
  · rename_i t x i v ho
    have hT : Θ.kb = false := by unfold Anc.lets touchB at hT; rw [ho] at hT; simp at hT; exact hT.1
    exact update_sound hT S (hst' ho) hk ho h0
  · rename_i t x i ho
    have hT : Θ.kb = false := by unfold Anc.lets touchB at hT; rw [ho] at hT; simp at hT; exact hT.1
    exact entry_sound hT S hd hk ho h0
  · rename_i t x i v ho
    have hT : Θ.kb = false := by unfold Anc.lets touchB at hT; rw [ho] at hT; simp at hT; exact hT.1
    exact entryStore_sound hT S (hst'' ho) hk ho h0
  · rename_i f first caps ho
    split at h
    · rename_i hfi
      refine wp_value (v := .func (.func f) #[] (caps.map a.eval)) (w' := w) ?_ (hk _ _ _ _ _ h (S.put ⟨_, rfl, by simpa using S.evs_rep caps.toList⟩ hd))
      have : first = #[] := by apply Array.ext'; simpa using hfi
      simp [execOp, ho, Instr.makeFunc, this]
    · cases h
  · rename_i t x ho
    split at h
    · cases h
    · rename_i d hni hu
      refine wp_value (v := .iface t (a.eval x)) (w' := w) ?_ (hk _ _ _ _ _ h (S.put ⟨_, rfl, S.ev x⟩ hd))
      simp only [execOp, ho, Instr.makeInterface, Sem.run_bind, run_underlying hu, Result.andThen]
      cases d <;> first | rfl | (exact absurd hu (hni _))
    · cases h
  · rename_i x ho
    split at h
    · rename_i t s hx
      have hr := S.ev x
      rw [hx] at hr
      have hr' := hr
      obtain ⟨y, hv, _⟩ := hr
      unfold Oper.wp
      have hrun : (execOp a.eval o).run C.P w = .halt (.panic (.iface t y)) w := by simp [execOp, ho, hv, Instr.panic, goPanic]
      rw [hrun]
      have := hp _ _ _ _ _ _ h S hr'
      rw [hv] at this
      exact this
    · cases h
  · rename_i t ho
    split at h
    · rename_i d kt vt hdst hu
      have hrun : (execOp a.eval o).run C.P w = .ok (.value (.map (some w.heap.size))) (w.alloc (.map #[] 0)) := by
        simp only [execOp, ho, Instr.makeMap, newObj]
        rfl
      obtain ⟨⟨km, kcs⟩, hk1⟩ : ∃ x, Cs C.P kt = some x := by
        cases hx : Cs C.P kt with
        | none => rw [hx] at h; exact h.elim
        | some x => exact ⟨x, rfl⟩
      rw [hk1] at h
      obtain ⟨⟨vm, vcs⟩, hk2⟩ : ∃ x, Cs C.P vt = some x := by
        cases hx : Cs C.P vt with
        | none => rw [hx] at h; exact h.elim
        | some x => exact ⟨x, rfl⟩
      rw [hk2] at h
      have hg : w.grownBy (w.alloc (.map #[] 0)) none := World.grownBy_alloc w _ none
      have S' := S.newO (id := 2 * (d * 64)) (o := .map t []) (v := .pointer (some ⟨w.heap.size, 0, none⟩)) (row := none) (by omega) hg (fun b hb => by cases hb) (fun b hb => .inr (by simp [blk] at hb; omega))
        ⟨w.heap.size, #[], kt, vt, km, kcs, vm, vcs, by simp, heap_alloc_new w _, hu, hk1, hk2, rfl⟩
      have S'' := S'.put (d := o.dst) (s := .mp (2 * (d * 64))) (v := .map (some w.heap.size)) ⟨w.heap.size, by simp, rfl⟩ hd
      refine wp_value hrun ?_
      rw [hdst] at S'' ⊢
      exact hk _ _ _ _ _ h S''
    · cases h
  · cases h
end
end Go.Den

namespace Go.Den
open Go Go.RowKit
section
variable {P : Program} {ops : Array Oper} {Q : Exit → Act → World → Prop} {md : Region.Mode}
def AnyR (P : Program) (md : Region.Mode) (ops : Array Oper) (Q : Exit → Act → World → Prop) : Nat → Array Bool → Act → World → (Nat → Prop) → Prop
  | 0, listed, a, w, _ => Region.ready md ops listed = [] ∧ Q .normal a w
  | fuel + 1, listed, a, w, H => (Region.ready md ops listed = [] → Q .normal a w) ∧
    ∀ i ∈ Region.ready md ops listed, wpOp P ops Q i (fun a' w' => ∃ H' : Nat → Prop, (∀ b, H b → H' b) ∧ (∀ b, H b → w'.heap[b]? = w.heap[b]?) ∧ AnyR P md ops Q fuel (listed.setIfInBounds i true) a' w' H') a w
theorem AnyR.any : ∀ (fuel : Nat) (listed : Array Bool) (a : Act) (w : World) (H : Nat → Prop), AnyR P md ops Q fuel listed a w H → wpAny P md ops Q fuel listed a w
  | 0, _, _, _, _, h => h
  | fuel + 1, _, _, _, _, h => ⟨h.1, fun i hi => wpOp_mono (fun a' w' ⟨_, _, _, h'⟩ => AnyR.any fuel _ a' w' _ h') (h.2 i hi)⟩
theorem yields_less {o : Oper} {v : Value} {a : Act} {S S' : World → Prop} (h : ∀ w, S' w → S w) (hy : YieldsIf P ops S o v a) : YieldsIf P ops S' o v a :=
  hy.imp (fun ⟨h1, h2⟩ => ⟨h1, fun w hw => h2 w (h w hw)⟩) id
theorem AnyR.first {i : Nat} {oi : Oper} {v : Value} (hi : ops[i]? = some oi) (hsel : Region.noSelect ops = true) (hQ : ∀ c a w d v, Q (.panic c) (a.put d v) w → Q (.panic c) a w) :
    ∀ (fuel : Nat) (listed : Array Bool) (a : Act) (w : World) (H : Nat → Prop),
      (∀ j oj, ops[j]? = some oj → j ≠ i → listed.getD j true = false → (∀ e ∈ oj.after, Region.binds md e = true → e.on ≠ i) → oi.apart ops oj = true) →
      i ∈ Region.ready md ops listed → YieldsIf P ops (fun w' => ∀ b, H b → w'.heap[b]? = w.heap[b]?) oi v a → AnyR P md ops Q fuel (listed.setIfInBounds i true) (a.put oi.dst v) w H → AnyR P md ops Q (fuel + 1) listed a w H := by
  intro fuel
  induction fuel with
  | zero =>
    intro listed a w H _ hr hy h
    refine ⟨fun h => (by rw [h] at hr; cases hr), fun j hj => ?_⟩
    by_cases hji : j = i
    · subst hji; exact hy.wpOp hi (fun _ _ => rfl) ⟨H, fun _ h => h, fun _ _ => rfl, h⟩
    · have := ready_mono hj hji
      rw [h.1] at this
      cases this
  | succ fuel ih =>
    intro listed a w H hfree hr hy h
    refine ⟨fun h => (by rw [h] at hr; cases hr), fun j hj => ?_⟩
    by_cases hji : j = i
    · subst hji; exact hy.wpOp hi (fun _ _ => rfl) ⟨H, fun _ h => h, fun _ _ => rfl, h⟩
    · have hjr := ready_mono hj hji
      obtain ⟨hun, oj, hoj, hall⟩ := mem_ready.1 hj
      have hwait : ∀ e ∈ oj.after, Region.binds md e = true → e.on ≠ i := by
        intro e he hb heq
        have h1 := hall e he hb
        have h2 := (mem_ready.1 hr).1
        rw [heq] at h1
        by_cases hlt : i < listed.size
        · simp [hlt] at h1 h2; rw [h1] at h2; cases h2
        · simp [Array.getElem?_eq_none (Nat.le_of_not_lt hlt)] at h1
      have hput := wpOp_putIf hoj (hfree j oj hoj hji hun hwait) (fun cs b => Region.noSelect_spec hsel i oi cs b hi) (fun cs b => Region.noSelect_spec hsel j oj cs b hoj)
        (fun c a w h => hQ c a w _ _ h) hy (h.2 j hjr)
      refine wpOp_mono ?_ hput
      rintro a' w' ⟨hy', H', hsub, hsame, h'⟩
      refine ⟨H', hsub, hsame, ih (listed.setIfInBounds j true) a' w' H' ?_ (ready_mono hr (Ne.symm hji)) (yields_less (fun w'' h b hb => (h b (hsub b hb)).trans (hsame b hb)) hy') ?_⟩
      · intro k ok hk hki hkun hkw
        refine hfree k ok hk hki ?_ hkw
        by_cases hjk : j = k
        · subst hjk; exact hun
        · rw [getD_set_ne true hjk] at hkun; exact hkun
      · rw [Array.setIfInBounds_comm _ _ hji]
        exact h'
theorem wp_region_R {id : Nat} {a : Act} {w : World} {H : Nat → Prop} (hm : P.follows .mixedOrders = true) (h : AnyR P .any ops Q ops.size (Array.replicate ops.size false) a { w with drawn := w.drawn + 1 } H) : (Code.region id ops true).wp P Q a w :=
  wp_region_any hm (AnyR.any _ _ _ _ _ h)
end
end Go.Den

namespace Go.Den
open Go Go.RowKit
section
variable {C : Ctx} {a : Act} {w : World} {Z : Nat → Prop} {G : Nat → Value} {o : Oper}
theorem bin_ints {op : BinOp} {t : TypeId} {x y : Operand} {i j : IntKind} {m n : Int} {v : Value} (hx : a.eval x = .int i m) (hy : a.eval y = .int j n)
    (h : ∀ w' : World, (binOp op t (.int i m) (.int j n)).run C.P w' = .ok v w') : ∀ w' : World, (do eqGuard op t x y (a.eval x) (a.eval y); binOp op t (a.eval x) (a.eval y)).run C.P w' = .ok v w' := by
  intro w'
  rw [hx, hy]
  simp only [Sem.run_bind, eqGuard_int, Result.andThen, h]
theorem bin_all (hC : C.Ok) {op : BinOp} {t : TypeId} {x y : Operand} {sx sy : SV} {k : SV → Prop} (hx : RepSV w Z G sx (a.eval x)) (hy : RepSV w Z G sy (a.eval y))
    (h : bin C op t sx sy k) : ∃ s v, k s ∧ RepSV w Z G s v ∧ ∀ w' : World, (do eqGuard op t x y (a.eval x) (a.eval y); binOp op t (a.eval x) (a.eval y)).run C.P w' = .ok v w' := by
  unfold bin at h
  split at h
  · rename_i i m j n
    obtain ⟨hx, hmr⟩ : a.eval x = .int i m.int ∧ i.min ≤ m.int ∧ m.int ≤ i.max := hx
    have hy : a.eval y = .int j n.int := hy.1
    split at h
    · rcases cond_some h with ⟨_, h⟩ | ⟨hb, h⟩
      · cases h
      · have hb : ¬ n.int < 0 := of_decide_eq_false hb
        refine ⟨_, .int i (i.wrap (m.int * 2 ^ (min n.int.toNat i.bits))), h, rep_wrap _ _, bin_ints hx hy fun w' => ?_⟩
        simp [binOp, Op.shift, hb]
    · rcases cond_some h with ⟨_, h⟩ | ⟨hb, h⟩
      · cases h
      · have hb : ¬ n.int < 0 := of_decide_eq_false hb
        refine ⟨_, .int i (m.int.fdiv (2 ^ (min n.int.toNat i.bits))), h, rep_div hmr _, bin_ints hx hy fun w' => ?_⟩
        simp [binOp, Op.shift, hb]
    · rename_i hnl hnr
      split at h
      · cases h
      · rename_i hs
        have := same_eq hs
        subst this
        split at h
        · rcases cond_some h with ⟨_, h⟩ | ⟨hb, h⟩
          · cases h
          · have hb : ¬ n.int = 0 := of_decide_eq_false hb
            refine ⟨_, .int i (i.wrap (m.int.tdiv n.int)), h, rep_wrap _ _, bin_ints hx hy fun w' => ?_⟩
            simp [binOp, Op.intDiv, hb]
        · rcases cond_some h with ⟨_, h⟩ | ⟨hb, h⟩
          · cases h
          · have hb : ¬ n.int = 0 := of_decide_eq_false hb
            refine ⟨_, .int i (m.int.tmod n.int), h, rep_mod hmr _, bin_ints hx hy fun w' => ?_⟩
            simp [binOp, Op.intDiv, hb]
        · rename_i hnq hnm
          split at h
          · rename_i z hz
            refine ⟨_, .int i z, h, arith_rep hz, bin_ints hx hy fun w' => ?_⟩
            cases op <;> simp [arith] at hz <;> subst hz <;> simp [binOp, Op.intArith, Op.intBits]
          · rename_i hz
            split at h
            · rename_i b hb
              refine ⟨_, .bool b, h, rfl, bin_ints hx hy fun w' => ?_⟩
              cases op <;> simp [cmp] at hb <;> subst hb <;> simp [binOp, Op.intCmp]
            · cases h
  · rename_i m n
    have hx : a.eval x = .string m.str := hx.1
    have hy : a.eval y = .string n.str := hy.1
    split at h
    · refine ⟨_, .bool (m.str.toList == n.str.toList), h, rfl, fun w' => ?_⟩
      rw [hx, hy]
      simp [eqGuard, binOp, Op.stringOp]
    · refine ⟨_, .bool !(m.str.toList == n.str.toList), h, rfl, fun w' => ?_⟩
      rw [hx, hy]
      simp [eqGuard, binOp, Op.stringOp]
    · cases h
  · rename_i m n
    have hx : a.eval x = .bool m.bool := hx
    have hy : a.eval y = .bool n.bool := hy
    split at h
    · rename_i hu
      split at h
      · refine ⟨_, .bool (m.bool == n.bool), h, rfl, fun w' => ?_⟩
        rw [hx, hy]
        simp [eqGuard, binOp, run_equal_bool hu]
      · refine ⟨_, .bool !(m.bool == n.bool), h, rfl, fun w' => ?_⟩
        rw [hx, hy]
        simp [eqGuard, binOp, run_equal_bool hu]
      · cases h
    · cases h
  · rename_i xs ys
    split at h
    · rename_i ks hks
      split at h
      · rename_i b hb
        obtain ⟨vs, hvx, hrx⟩ := hx
        obtain ⟨us, hvy, hry⟩ := hy
        obtain ⟨is, js, l1, l2, e1, e2, rfl⟩ := eqCells_ints hb hrx hry
        have h12 := fun w' => hC.eqs t ks hks x y is js w' l1 l2
        have hx : a.eval x = aggI ks is := by rw [hvx]; unfold aggI; rw [← e1]
        have hy : a.eval y = aggI ks js := by rw [hvy]; unfold aggI; rw [← e2]
        split at h
        · refine ⟨_, .bool (decide (is = js)), h, rfl, fun w' => ?_⟩
          rw [hx, hy]; exact (h12 w').1
        · refine ⟨_, .bool (!decide (is = js)), h, rfl, fun w' => ?_⟩
          rw [hx, hy]; exact (h12 w').2
        · cases h
      · cases h
    · cases h
  · cases h
end
def kept (kb ka : Bool) : Obj → Bool
  | .arr _ _ => ka
  | _ => kb
def Held (kb ka : Bool) (σ : St) (G : Nat → Value) (Z : Nat → Prop) (b : Nat) : Prop := Z b ∨ ∃ id ob, getO σ.objs id = some ob ∧ blk (G id) = some b ∧ kept kb ka ob = true
section
variable {C : Ctx} {Θ : Anc} {n : Nat} {σ : St} {a : Act} {w : World} {Z : Nat → Prop} {G : Nat → Value} {o : Oper} {k : St → Prop}
theorem quiet_sound (hC : C.Ok) (S : Sim C.P Θ n σ a w Z G) {kb ka : Bool} (hq : quietOp C.P kb ka σ o = true) (h : op1 C o σ k) :
    ∃ s v, k (setD σ o.dst s) ∧ RepSV w Z G s v ∧ ∀ w' : World, (∀ b, Held kb ka σ G Z b → w'.heap[b]? = w.heap[b]?) → (execOp a.eval o).run C.P w' = .ok (.value v) w' := by
  have h0 := h
  unfold quietOp at hq
  unfold op1 at h
  split at hq
  · rename_i x ho
    simp only [ho] at h
    exact ⟨_, _, h, S.ev x, fun w' _ => by simp [execOp, ho]⟩
  · rename_i x ho
    simp only [ho] at h
    have hn : isNil (σ.ev x) = false := by simpa using hq
    split at h
    · rename_i h1 _ _; rw [hn] at h1; cases h1
    · exact ⟨_, _, h, S.ev x, fun w' _ => by simp [execOp, ho]⟩
  · rename_i c x y ho
    simp only [ho] at h
    split at h
    · rename_i u hu
      have hc : a.eval c = .bool u.bool := by have := S.ev c; rw [hu] at this; exact this
      rcases cond_some h with ⟨hb, h⟩ | ⟨hb, h⟩
      · exact ⟨_, _, h, S.ev x, fun w' _ => by simp [execOp, ho, hc, asBool, hb]⟩
      · exact ⟨_, _, h, S.ev y, fun w' _ => by simp [execOp, ho, hc, asBool, hb]⟩
    · cases h
  · rename_i t x ho
    simp only [ho] at h
    have hx := S.ev x
    split at h
    · rename_i id off hp
      rw [hp] at hx
      simp only [hp] at hq
      obtain ⟨b, hG, hv⟩ := hx
      split at h
      · rename_i cells hob
        split at h
        · rename_i s hs
          obtain ⟨b', ty, c, h1, h2, h3⟩ := S.obj id _ hob
          rw [hG] at h1
          cases h1
          obtain ⟨v, hl, hrep⟩ := run_load_all (P := C.P) (o := 0) (b := b) h3 (fun j v hj => by rw [Nat.zero_add, cell_of_row w b j c ty (0, 0) h2]; simpa using hj) hs
          refine ⟨_, v, h, hrep, fun w' hw' => ?_⟩
          have := hl w' (hw' b (.inr ⟨id, _, hob, by rw [hG]; rfl, hq⟩))
          rw [Nat.zero_add] at this
          simp [execOp, ho, hv, Instr.loadAt, Instr.sureAddr, this]
        · cases h
      · cases h
    · rename_i id sz j off hp
      rw [hp] at hx
      simp only [hp] at hq
      obtain ⟨b, n', c, hG, hv⟩ := hx
      split at h
      · rename_i e xs hob
        split at h
        · rename_i m cs hcs
          obtain ⟨hb, h'⟩ := cond_only h
          clear h
          simp only [Bool.and_eq_true] at hb
          have hsz := Nat.eq_of_beq_eq_true hb.1
          have hj : j < xs.length := by simpa [Nat.blt_eq] using hb.2
          subst hsz
          split at h'
          · rename_i s hs
            obtain ⟨m2, cs2, vs, h1, h2, h3⟩ := S.obj id _ hob
            rw [hcs] at h1
            cases h1
            obtain ⟨p, q, r', hvs, hpl, hq'⟩ := h3.at_ j hj
            have hcell := World.ownsRow.cells h2 (g := b) (by rw [hG]; rfl)
            obtain ⟨v, hl, hrep⟩ := run_load_all (P := C.P) (o := j * cs.length) (b := b) (G := G) (RepL.vals hq') (fun i v hi => by
              have := hcell (p.length + i) v (by rw [hvs, List.append_assoc, List.getElem?_append_right (by omega), Nat.add_sub_cancel_left, List.getElem?_append_left (by
                have := (List.getElem?_eq_some_iff.1 hi).1; omega)]; exact hi)
              rw [addr_add, hpl] at this
              simpa using this) hs
            refine ⟨_, v, h', hrep, fun w' hw' => ?_⟩
            have := hl w' (hw' b (.inr ⟨id, _, hob, by rw [hG]; rfl, hq⟩))
            simp [execOp, ho, hv, Instr.loadAt, Instr.sureAddr, this]
          · cases h'
        · cases h
      · cases h
    · rename_i cs us hp
      rw [hp] at hx
      obtain ⟨b, off, hv, hb, hr⟩ := hx
      split at h
      · rename_i s hs
        obtain ⟨vs, hl, hvs, hcell⟩ := RepCs.vals (G := G) hr
        obtain ⟨v, hl', hrep⟩ := run_load_all (P := C.P) (o := off) (b := b) hvs hcell hs
        refine ⟨_, v, h, hrep, fun w' hw' => ?_⟩
        have := hl' w' (hw' b (.inl hb))
        simp only [Nat.add_zero] at this
        simp [execOp, ho, hv, Instr.loadAt, Instr.sureAddr, this]
      · cases h
    · cases h
  · rename_i x ho
    simp only [ho] at h
    have hx := S.ev x
    split at h
    · rename_i id off hp
      rw [hp] at hx
      obtain ⟨b, hG, hv⟩ := hx
      exact ⟨_, _, h, ⟨b, hG, rfl⟩, fun w' _ => by simp [execOp, ho, hv]⟩
    · rename_i id sz j off hp
      rw [hp] at hx
      obtain ⟨b, n', c, hG, hv⟩ := hx
      exact ⟨_, _, h, ⟨b, n', c, hG, rfl⟩, fun w' _ => by simp [execOp, ho, hv]⟩
    · rename_i cs us hp
      rw [hp] at hx
      obtain ⟨b, off, hv, hb, hr⟩ := hx
      exact ⟨_, _, h, ⟨b, off, rfl, hb, hr⟩, fun w' _ => by simp [execOp, ho, hv]⟩
    · cases h
  · rename_i op t x y t2 ho
    simp only [ho] at h
    obtain ⟨s, v, h1, h2, h3⟩ := bin_all (a := a) (x := x) (y := y) hC (S.ev x) (S.ev y) h
    refine ⟨s, v, h1, h2, fun w' _ => ?_⟩
    have h3 := h3 w'
    simp only [Sem.run_bind] at h3
    simp only [execOp, ho, Sem.run_bind]
    cases hg : (eqGuard op t x y (a.eval x) (a.eval y)).run C.P w' with
    | ok u w1 =>
      rw [hg] at h3
      simp only [Result.andThen] at h3 ⊢
      rw [h3]
      rfl
    | halt e w1 => rw [hg] at h3; simp [Result.andThen] at h3
  · rename_i op t x ho
    simp only [ho] at h
    cases op <;> first | (exact h.elim) | dsimp only at h
    · split at h
      · rename_i i u hu
        have hx : a.eval x = .int i u.int := by have := S.ev x; rw [hu] at this; exact this.1
        exact ⟨_, .int i (i.wrap (0 - u.int)), h, rep_wrap _ _, fun w' _ => by simp [execOp, ho, hx, Op.unary, Op.intArith]⟩
      · cases h
    · split at h
      · rename_i u hu
        have hx : a.eval x = .bool u.bool := by have := S.ev x; rw [hu] at this; exact this
        exact ⟨_, .bool !u.bool, h, rfl, fun w' _ => by simp [execOp, ho, hx, Op.unary]⟩
      · cases h
  · rename_i s t x ho
    simp only [ho] at h
    have hx := S.ev x
    split at h
    · rename_i i1 i kd u hs ht hp
      rw [hp] at hx
      have hx : a.eval x = .int kd u.int := hx.1
      exact ⟨_, .int i (i.wrap u.int), h, rep_wrap _ _, fun w' _ => by simp [execOp, ho, hx, convert, run_underlying hs, run_underlying ht, Conv.intToInt]⟩
    · rename_i e hs ht
      split at h
      · rename_i he
        split at h
        · rename_i u hu
          have hpl : plainU (.sl false [.int .u8]) (σ.ev x) = some u := by
            unfold toU at hu
            split at hu
            · rename_i id hid
              simp only [hs, hid] at hq
              cases hq
            · exact hu
          have hr := plainU_rep hpl hx
          refine ⟨_, .string ⟨(u.list.map fun x : U => UInt8.ofNat x.int.toNat).toArray⟩, h, ⟨rfl, by have := hr.ok.1; simpa [ByteArray.size] using this⟩, fun w' hw' => ?_⟩
          have hr' := RepC.mono (w' := w') (Z' := Z) ⟨fun _ h => h, fun b hb => hw' b (.inl hb)⟩ _ _ _ hr
          have hrun := run_toString (C := C) hr'
          obtain ⟨A, c, hv, _⟩ := hr
          rw [hv] at hrun
          simp [execOp, ho, hv, convert, run_underlying hs, run_underlying ht, run_underlying he, hrun]
        · cases h
      · cases h
    · rename_i u hs ht hp
      rw [hp] at hx
      obtain ⟨hx, hxs⟩ : a.eval x = .string u.str ∧ u.str.size ≤ maxLen := hx
      exact ⟨_, .string u.str, h, ⟨rfl, hxs⟩, fun w' _ => by simp [execOp, ho, hx, convert, run_underlying hs, run_underlying ht]⟩
    · cases h
  · rename_i s x f ho
    simp only [ho] at h
    split at h
    · rename_i fd hf
      split at h
      · rename_i k' hs
        have hx := S.ev x
        have hf0 := hf
        unfold fieldOf at hf
        split at hf
        · rename_i fs hu
          split at h
          · rename_i id off hp
            rw [hp] at hx
            obtain ⟨b, hG, hv⟩ := hx
            exact ⟨_, .pointer (some ⟨b, off + fd.offset, none⟩), h, ⟨b, hG, rfl⟩, fun w' _ => by simp [execOp, ho, hv, Instr.fieldAt, run_underlying hu, hf, Instr.sureAddr, fieldPlace, run_size hs, addr_add]⟩
          · rename_i id sz j off hp
            rw [hp] at hx
            obtain ⟨b, n', c, hG, hv⟩ := hx
            exact ⟨_, .pointer (some ⟨b, (j * sz + off) + fd.offset, none⟩), h, ⟨b, n', c, hG, by rw [Nat.add_assoc]⟩, fun w' _ => by simp [execOp, ho, hv, Instr.fieldAt, run_underlying hu, hf, Instr.sureAddr, fieldPlace, run_size hs, addr_add]⟩
          · rename_i cs us hp
            rw [hp] at hx
            obtain ⟨b, off, hv, hb, hr⟩ := hx
            exact ⟨_, .pointer (some ⟨b, off + fd.offset, none⟩), h, ⟨b, off + fd.offset, rfl, hb, hr.drop fd.offset⟩, fun w' _ => by simp [execOp, ho, hv, Instr.fieldAt, run_underlying hu, hf, Instr.sureAddr, fieldPlace, run_size hs, addr_add]⟩
          · cases h
        · cases hf
      · cases h
    · cases h
  · rename_i s x f ho
    simp only [ho] at h
    have hx := S.ev x
    split at h
    · rename_i fd cells hf hp
      rw [hp] at hx
      obtain ⟨vs, hv, hr⟩ := hx
      split at h
      · rename_i v hpt
        obtain ⟨v', hrun, hrep⟩ := run_part (P := C.P) hr hpt
        unfold fieldOf at hf
        split at hf
        · rename_i fs hu
          exact ⟨_, v', h, hrep, fun w' _ => by simp [execOp, ho, hv, Instr.field, run_underlying hu, hf, asAgg, hrun w']⟩
        · cases hf
      · cases h
    · cases h
  · rename_i t x i ho
    simp only [ho] at h
    have hx := S.ev x
    have hi := S.ev i
    split at h
    · rename_i e m cs u kd j hu hp hj
      rw [hp] at hx
      rw [hj] at hi
      have hi : a.eval i = .int kd j.int := hi.1
      obtain ⟨hb1, h⟩ := cond_only h
      obtain ⟨hb, h⟩ := cond_only h
      obtain ⟨h1, h2⟩ := of_decide_eq_true hb
      obtain ⟨A, c, hv, hc, hcm, hel⟩ := hx
      obtain ⟨b, off, hA, hZ, hr⟩ := hel j.int.toNat (by omega)
      rw [hA] at hv
      exact ⟨_, .pointer (some ⟨b, off + j.int.toNat * cs.length, none⟩), h, ⟨b, _, rfl, hZ, hr⟩, fun w' _ => by simp [execOp, ho, hv, hi, Instr.indexAt, asIntOf, run_underlying hu, run_size (isSize_some hb1), addr_add, h1, h2]⟩
    · rename_i e' id kd j hu hp hj
      rw [hp] at hx
      rw [hj] at hi
      have hi : a.eval i = .int kd j.int := hi.1
      split at h
      · rename_i e xs hob
        split at h
        · rename_i m cs hcs
          obtain ⟨hb1, h⟩ := cond_only h
          obtain ⟨hb, h⟩ := cond_only h
          obtain ⟨h1, h2⟩ := of_decide_eq_true hb
          obtain ⟨m2, cs2, vs, g1, g2, g3⟩ := S.obj id _ hob
          rw [hcs] at g1
          cases g1
          rcases g2.2 with ⟨_, g4⟩ | ⟨g, cap, cur, g4, _⟩
          · omega
          have hx : a.eval x = G id := hx
          rw [g4] at hx
          exact ⟨_, .pointer (some ⟨g, 0 + j.int.toNat * cs.length, none⟩), h, ⟨g, xs.length, cap, g4, by simp⟩, fun w' _ => by simp [execOp, ho, hx, hi, Instr.indexAt, asIntOf, run_underlying hu, run_size (isSize_some hb1), addr_add, h1, h2]⟩
        · cases h
      · cases h
    · cases h
  · rename_i t x i ho
    simp only [ho] at h
    have hx := S.ev x
    have hi := S.ev i
    split at h
    · rename_i s kd j hu hp hj
      rw [hp] at hx
      rw [hj] at hi
      have hx : a.eval x = .string s.str := hx.1
      have hi : a.eval i = .int kd j.int := hi.1
      obtain ⟨hb, h⟩ := cond_only h
      obtain ⟨h1, h2⟩ := of_decide_eq_true hb
      have hj' : j.int.toNat < s.str.size := by omega
      have hget : s.str[j.int.toNat]? = some s.str[j.int.toNat] := by simp [hj']
      have hdata : s.str.data[j.int.toNat]? = some s.str[j.int.toNat] := Array.getElem?_eq_getElem hj'
      exact ⟨_, .int .u8 (s.str.data.toList.getD j.int.toNat 0).toNat, h, rep_u8 _, fun w' _ => by simp [execOp, ho, hx, hi, Instr.index, asIntOf, run_underlying hu, h1, hget, hdata]⟩
    · cases h
  · rename_i x i ho
    simp only [ho] at h
    have hx := S.ev x
    split at h
    · rename_i vs hp
      rw [hp] at hx
      obtain ⟨us, hv, hr⟩ := hx
      obtain ⟨hb, h⟩ := cond_only h
      have hb : i < vs.length := by simpa [Nat.blt_eq] using hb
      have hl := hr.length
      have hi : i < us.size := by simp at hl; omega
      have hget : us[i]? = some us[i] := Array.getElem?_eq_getElem hi
      exact ⟨_, us[i], h, hr.nth i _ (by simp [hi]), fun w' _ => by simp [execOp, ho, hv, Instr.extract, hget]⟩
    · cases h
  · rename_i t x lo hi mx ho
    simp only [ho] at h
    split at h
    · rename_i e l h1 m hu hl hh hm
      split at h
      · rename_i mm cs u hx
        obtain ⟨hsz, h⟩ := cond_only h
        unfold op1.sliceK at h
        obtain ⟨hb, h⟩ := cond_only h
        simp only [Bool.and_eq_true] at hb
        have hmh : m.isSome = true → h1.isSome = true := fun hms => by
          cases m with
          | none => cases hms
          | some m => cases h1 with
            | none => simp at hb
            | some _ => rfl
        have hb := of_decide_eq_true hb.1
        have hs := isSize_some hsz
        have hv := S.ev x
        rw [hx] at hv
        obtain ⟨A, c, hv, hc, hcm, hel⟩ := hv
        have hbr := fun w' : World => run_bounds (P := C.P) (isSlice := true) (w := w') hc (lst_rep S hl) (lst_rep S hh) (lst_rep S hm) hmh hb
        obtain ⟨b1, b2, b3, b4⟩ := hb
        have hm' : (m.getD c).toNat = c ∨ (∃ im, m = some im ∧ (m.getD c).toNat = im.toNat) := by cases m with
          | none => left; simp
          | some im => right; exact ⟨im, rfl, rfl⟩
        refine ⟨_, .slice (if (m.getD c).toNat = (l.getD 0).toNat then A else A.map (·.add ((l.getD 0).toNat * cs.length))) ((h1.getD u.list.length).toNat - (l.getD 0).toNat) ((m.getD c).toNat - (l.getD 0).toNat), h, ?_, fun w' _ => ?_⟩
        · have hlen : ((u.list.take (h1.getD u.list.length).toNat).drop (l.getD 0).toNat).length = (h1.getD u.list.length).toNat - (l.getD 0).toNat := by
            simp only [List.length_drop, List.length_take]; omega
          have hcapm : (h1.getD u.list.length).toNat ≤ (m.getD c).toNat := by
            cases m with
            | none => simp only [Option.getD_none] at *; omega
            | some im => simp only [Option.getD_some] at *; omega
          refine ⟨_, _, by rw [U.list_l, hlen], by rw [U.list_l, hlen]; omega, ?_, fun i hi => ?_⟩
          · cases m with
            | none => simp only [Option.getD_none] at *; omega
            | some im => simp only [Option.getD_some] at *; omega
          rw [U.list_l, hlen] at hi
          obtain ⟨b, off, hA, hZ, hr⟩ := hel ((l.getD 0).toNat + i) (by omega)
          rw [if_neg (by omega), hA]
          refine ⟨b, off + (l.getD 0).toNat * cs.length, by simp [addr_add], hZ, ?_⟩
          have hat : U.at (U.l ((u.list.take (h1.getD u.list.length).toNat).drop (l.getD 0).toNat)).list i = U.at u.list ((l.getD 0).toNat + i) := by
            rw [U.list_l, at_getElem _ _ (by rw [hlen]; exact hi), at_getElem _ _ (by omega)]
            simp
          rw [hat, Nat.add_assoc, ← Nat.add_mul]
          exact hr
        · simp [execOp, ho, hv, Instr.sliceAt, Instr.slice, run_underlying hu, hbr w', run_size hs]
      · cases h
    · rename_i l h1 hu hl hh hm
      split at h
      · rename_i u hx
        obtain ⟨hb, h⟩ := cond_only h
        have hb := of_decide_eq_true hb
        obtain ⟨hv, hvs⟩ : a.eval x = .string u.str ∧ u.str.size ≤ maxLen := by have := S.ev x; rw [hx] at this; exact this
        have hbr := fun w' : World => run_bounds (P := C.P) (isSlice := false) (w := w') (len := u.str.size) (cap := u.str.size) (Nat.le_refl _) (lst_rep S hl) (lst_rep S hh) (.inl ⟨rfl, rfl⟩) (mx := none) (m := none) (by simp) ⟨hb.1, hb.2.1, by simp, by simpa using hb.2.2⟩
        have hmx : mx = none := by
          rcases lst_rep S hm with ⟨h2, _⟩ | ⟨y, kd, i, _, h2, _⟩
          · exact h2
          · cases h2
        subst hmx
        refine ⟨_, .string (u.str.extract (l.getD 0).toNat (h1.getD u.str.size).toNat), h, ⟨rfl, by show (u.str.extract _ _).size ≤ maxLen; rw [ByteArray.size_extract]; omega⟩, fun w' _ => ?_⟩
        have hbr := hbr w'
        simp only [Option.map_none] at hbr
        simp [execOp, ho, hv, Instr.sliceAt, Instr.slice, run_underlying hu, hbr]
      · cases h
    · cases h
  · rename_i t ps ho
    simp only [ho] at h
    split at h
    · rename_i fs z hu hz
      split at h
      · rename_i cs hs hf
        obtain ⟨out, hr, hrep⟩ := run_build_rep (w := w) (Z := Z) (G := G) S.flat (vs := ps.map fun x => (x.1, a.eval x.2)) hu hz hs hf (by simpa using evps_parts S ps.toList)
        refine ⟨_, .agg out, h, ⟨out, rfl, hrep⟩, fun w' _ => ?_⟩
        have heq : (ps.map fun (i, x) => (i, a.eval x)) = ps.map fun x => (x.1, a.eval x.2) := rfl
        simp only [execOp, ho, Sem.run_bind]
        rw [heq, hr w']
        rfl
      · cases h
    · cases h
  · rename_i f first caps ho
    simp only [ho] at h
    split at h
    · rename_i hfi
      refine ⟨_, .func (.func f) #[] (caps.map a.eval), h, ⟨_, rfl, by simpa using S.evs_rep caps.toList⟩, fun w' _ => ?_⟩
      have : first = #[] := by apply Array.ext'; simpa using hfi
      simp [execOp, ho, Instr.makeFunc, this]
    · cases h
  · rename_i t x ho
    simp only [ho] at h
    split at h
    · cases h
    · rename_i d hni hu
      refine ⟨_, .iface t (a.eval x), h, ⟨_, rfl, S.ev x⟩, fun w' _ => ?_⟩
      simp only [execOp, ho, Instr.makeInterface, Sem.run_bind, run_underlying hu, Result.andThen]
      cases d <;> first | rfl | (exact absurd hu (hni _))
    · cases h
  · rename_i args ts ho
    simp only [ho] at h
    split at h
    · rename_i s t hargs hts
      obtain ⟨p, hp, rfl⟩ := evs_one hargs
      have hx := S.ev p
      have ha' : args = #[p] := by cases args; simp_all
      have ht' : ts = #[t] := by cases ts; simp_all
      subst ha' ht'
      split at h
      · rename_i e m cs u hu hev
        rw [hev] at hx
        have hl : u.list.length ≤ maxLen := (RepC.ok (c := .sl m cs) hx).1
        obtain ⟨A, c, hv, _⟩ := hx
        exact ⟨_, .int .i64 (u.list.length : Int), h, rep_len hl, fun w' _ => by simp [execOp, ho, resolve, invoke, builtin, Builtin.len_, run_underlying hu, hv, goInt]⟩
      · rename_i e id hu hev
        rw [hev] at hx
        split at h
        · rename_i e' xs hob
          obtain ⟨m2, cs2, vs, g1, g2, g3⟩ := S.obj id _ hob
          have hl : xs.length ≤ maxLen := (RepO.ok (S.obj id _ hob)).1
          have hx : a.eval p = G id := hx
          rcases g2.2 with ⟨g4, g5⟩ | ⟨g, cap, cur, g4, _⟩
          · rw [g4] at hx
            exact ⟨_, .int .i64 (xs.length : Int), h, rep_len hl, fun w' _ => by simp [execOp, ho, resolve, invoke, builtin, Builtin.len_, run_underlying hu, hx, goInt, g5]⟩
          · rw [g4] at hx
            exact ⟨_, .int .i64 (xs.length : Int), h, rep_len hl, fun w' _ => by simp [execOp, ho, resolve, invoke, builtin, Builtin.len_, run_underlying hu, hx, goInt]⟩
        · cases h
      · rename_i e hu hev
        rw [hev] at hx
        have hx : a.eval p = .slice none 0 0 := hx
        exact ⟨_, .int .i64 0, h, rep_len (n := 0) (Nat.zero_le _), fun w' _ => by simp [execOp, ho, resolve, invoke, builtin, Builtin.len_, run_underlying hu, hx, goInt]⟩
      · rename_i id hu hev
        rw [hargs, hev] at hq
        cases hq
      · rename_i u hu hev
        rw [hev] at hx
        obtain ⟨hx, hxs⟩ : a.eval p = .string u.str ∧ u.str.size ≤ maxLen := hx
        exact ⟨_, .int .i64 (u.str.size : Int), h, rep_len hxs, fun w' _ => by simp [execOp, ho, resolve, invoke, builtin, Builtin.len_, run_underlying hu, hx, goInt]⟩
      · cases h
    · cases h
  · cases hq
end
end Go.Den

namespace Go.Den
open Go Go.RowKit
def operOk (n : Nat) (o : Oper) : Bool := match o.dst with
  | some t => (match o.op with | .store _ _ _ => false | .mapUpdate _ _ _ _ => false | .entryStore _ _ _ _ => false | _ => true) && Nat.blt t n
  | none => true
def opersOk (n : Nat) : List Oper → Bool
  | [] => true
  | o :: r => match operOk n o with | true => opersOk n r | false => false
theorem operOk_dst {n : Nat} {o : Oper} (h : operOk n o = true) : (∀ t, o.dst = some t → t < n) ∧ (∀ t x y, o.op = .store t x y → o.dst = none) ∧ (∀ {t x i v}, o.op = .mapUpdate t x i v → o.dst = none) ∧ (∀ {t x i v}, o.op = .entryStore t x i v → o.dst = none) := by
  unfold operOk at h
  split at h
  · rename_i t ht
    simp only [Bool.and_eq_true] at h
    refine ⟨fun t' ht' => ?_, fun t' x y ho => ?_, fun ho => ?_, fun ho => ?_⟩
    · rw [ht] at ht'; cases ht'; simpa [Nat.blt_eq] using h.2
    all_goals (rw [ho] at h; simp at h)
  · rename_i ht
    exact ⟨fun t' ht' => (by rw [ht] at ht'; cases ht'), fun _ _ _ _ => ht, fun _ => ht, fun _ => ht⟩
theorem nth_map_some : ∀ (l : List Oper) (j : Nat), nth none (l.map some) j = l[j]?
  | [], 0 => rfl
  | [], _ + 1 => rfl
  | _ :: _, 0 => rfl
  | _ :: l, j + 1 => nth_map_some l j
theorem guard_slot {ops : Array Oper} {j t : Nat} {a : Act} (hgs : gslot ops.toList j = some t) : (∀ b, a.tmps.getD t undef = .bool b → yielded ops a.tmps j = some b) ∧ (a.tmps.getD t undef = undef → yielded ops a.tmps j = none) := by
  have hops : (ops[j]?).bind (·.dst) = some t := by
    unfold gslot at hgs
    rw [nth_map_some] at hgs
    rw [← Array.getElem?_toList]
    cases hj : ops.toList[j]? with
    | none => rw [hj] at hgs; cases hgs
    | some oj => rw [hj] at hgs; exact hgs
  constructor
  · intro b hb
    unfold yielded
    rw [hops]
    simp only [Option.bind_some]
    have : a.tmps[t]? = some (.bool b) := by
      rw [Array.getD_eq_getD_getElem?] at hb
      cases ht : a.tmps[t]? with
      | none => rw [ht] at hb; cases hb
      | some v => rw [ht] at hb; simp at hb; rw [hb]
    rw [this]
  · intro hb
    unfold yielded
    rw [hops]
    simp only [Option.bind_some]
    rw [Array.getD_eq_getD_getElem?] at hb
    cases ht : a.tmps[t]? with
    | none => rfl
    | some v => rw [ht] at hb; simp at hb; rw [hb]; rfl
theorem opersOk_mem {n : Nat} : ∀ {l : List Oper}, opersOk n l = true → ∀ o ∈ l, operOk n o = true
  | [], _, _, h => by cases h
  | p :: r, hok, o, h => by
    unfold opersOk at hok
    split at hok
    · rename_i hp
      rcases List.mem_cons.1 h with rfl | h
      · exact hp
      · exact opersOk_mem hok o h
    · cases hok
theorem opersOk_at {n : Nat} {ops : Array Oper} (hok : opersOk n ops.toList = true) {i : Nat} {o : Oper} (hi : ops[i]? = some o) : operOk n o = true :=
  opersOk_mem hok o (by have := Array.mem_of_getElem? hi; simpa using this)
theorem noneB_mem {C : Ctx} : ∀ {l : List Oper}, noneB C l = true → ∀ o ∈ l, touchB C o = false
  | [], _, _, h => by cases h
  | p :: r, hok, o, h => by
    unfold noneB at hok
    split at hok
    · cases hok
    · rename_i hp
      rcases List.mem_cons.1 h with rfl | h
      · exact hp
      · exact noneB_mem hok o h
theorem noneA_mem {C : Ctx} : ∀ {l : List Oper}, noneA C l = true → ∀ o ∈ l, touchA C o = false
  | [], _, _, h => by cases h
  | p :: r, hok, o, h => by
    unfold noneA at hok
    split at hok
    · cases hok
    · rename_i hp
      rcases List.mem_cons.1 h with rfl | h
      · exact hp
      · exact noneA_mem hok o h
section
variable {C : Ctx} {Θ : Anc} {n : Nat} {K : Act → World → Prop} {Q : Exit → Act → World → Prop}
theorem one_sound (hC : C.Ok) {ops : Array Oper} {i : Nat} {o : Oper} {l : List Oper} {σ : St} {a : Act} {w : World} {Z : Nat → Prop} {G : Nat → Value} {k : St → Prop} (hi : ops[i]? = some o) (hok : operOk n o = true) (hT : Θ.lets C o = true)
    (S : Sim C.P Θ n σ a w Z G) (h : execOps C ops.toList (o :: l) σ k)
    (hrest : ∀ σ' a' w' Z' G', execOps C ops.toList l σ' k → Sim C.P Θ n σ' a' w' Z' G' → K a' w') (hp : ∀ s σ' w' Z' G' v, C.pan s σ' → Sim C.P Θ n σ' a w' Z' G' → RepSV w' Z' G' s v → Q (.panic [{ v := v, recovered := false }]) a w') : wpOp C.P ops Q i K a w := by
  obtain ⟨hd, hst, hst1, hst2⟩ := operOk_dst hok
  simp only [wpOp, hi]
  unfold execOps at h
  split at h
  · rename_i hg
    have hw : Region.wanted o (yielded ops a.tmps) = true := by simp [Region.wanted, hg]
    rw [if_pos hw]
    exact .inl (op1_sound hC hT S hd hst hst1 hst2 h hrest hp)
  · rename_i j want hg
    split at h
    · cases h
    · rename_i t hgs
      have hops : (ops[j]?).bind (·.dst) = some t := by
        unfold gslot at hgs
        rw [nth_map_some] at hgs
        rw [← Array.getElem?_toList]
        cases hj : ops.toList[j]? with
        | none => rw [hj] at hgs; cases hgs
        | some oj => rw [hj] at hgs; exact hgs
      have hyes : ∀ b, a.tmps.getD t undef = .bool b → yielded ops a.tmps j = some b := by
        intro b hb
        unfold yielded
        rw [hops]
        simp only [Option.bind_some]
        have : a.tmps[t]? = some (.bool b) := by
          rw [Array.getD_eq_getD_getElem?] at hb
          cases ht : a.tmps[t]? with
          | none => rw [ht] at hb; cases hb
          | some v => rw [ht] at hb; simp at hb; rw [hb]
        rw [this]
      have hno : a.tmps.getD t undef = undef → yielded ops a.tmps j = none := by
        intro hb
        unfold yielded
        rw [hops]
        simp only [Option.bind_some]
        rw [Array.getD_eq_getD_getElem?] at hb
        cases ht : a.tmps[t]? with
        | none => rfl
        | some v => rw [ht] at hb; simp at hb; rw [hb]; rfl
      have hslot := S.slot t
      split at h
      · rename_i u hu
        rw [hu] at hslot
        have hv : a.tmps.getD t undef = .bool u.bool := hslot
        rcases cond_some h with ⟨hb, h⟩ | ⟨hb, h⟩
        · have S' := S.know (t := t) (s := .val .bool (.b true)) (by rw [hv, hb]; rfl)
          have hw : Region.wanted o (yielded ops a.tmps) = true := by simp [Region.wanted, hg, hyes _ hv, hb]
          rw [if_pos hw]
          exact .inl (op1_sound hC hT S' hd hst hst1 hst2 h hrest hp)
        · have S' := S.know (t := t) (s := .val .bool (.b false)) (by rw [hv, hb]; rfl)
          have hw : ¬ Region.wanted o (yielded ops a.tmps) = true := by simp [Region.wanted, hg, hyes _ hv, hb]
          rw [if_neg hw]
          exact hrest _ _ _ _ _ h (S'.put (s := .und) rfl hd)
      · rename_i u hu
        rw [hu] at hslot
        have hv : a.tmps.getD t undef = .bool u.bool := hslot
        rcases cond_some h with ⟨hb, h⟩ | ⟨hb, h⟩
        · have S' := S.know (t := t) (s := .val .bool (.b true)) (by rw [hv, hb]; rfl)
          have hw : ¬ Region.wanted o (yielded ops a.tmps) = true := by simp [Region.wanted, hg, hyes _ hv, hb]
          rw [if_neg hw]
          exact hrest _ _ _ _ _ h (S'.put (s := .und) rfl hd)
        · have S' := S.know (t := t) (s := .val .bool (.b false)) (by rw [hv, hb]; rfl)
          have hw : Region.wanted o (yielded ops a.tmps) = true := by simp [Region.wanted, hg, hyes _ hv, hb]
          rw [if_pos hw]
          exact .inl (op1_sound hC hT S' hd hst hst1 hst2 h hrest hp)
      · rename_i hu
        rw [hu] at hslot
        have hv : a.tmps.getD t undef = undef := hslot
        have hw : ¬ Region.wanted o (yielded ops a.tmps) = true := by simp [Region.wanted, hg, hno hv]
        rw [if_neg hw]
        exact hrest _ _ _ _ _ h (S.put (s := .und) rfl hd)
      · cases h
structure Inv (P : Program) (Θ : Anc) (kb ka : Bool) (n : Nat) (σ : St) (a : Act) (w : World) (Z : Nat → Prop) (G : Nat → Value) (L : Nat → Prop) : Prop where
  sim : Sim P Θ n σ a w Z G
  old : ∀ b, L b → Θ.M b ∨ Θ.w.heap.size ≤ b
  lt : ∀ b, L b → b < w.heap.size
  keep : ∀ id o b, getO σ.objs id = some o → blk (G id) = some b → L b → kept kb ka o = true
def anchor (ds : List Deferred) (kb ka : Bool) (σ : St) (w : World) (Z : Nat → Prop) (G : Nat → Value) (L : Nat → Prop) : Anc where
  w := w
  M := fun b => ∃ id o, getO σ.objs id = some o ∧ blk (G id) = some b ∧ kept kb ka o = false
  N := fun b => L b ∨ ∃ id o, getO σ.objs id = some o ∧ blk (G id) = some b ∧ kept kb ka o = true
  Z0 := Z
  kb := kb
  ka := ka
  G0 := G
  ds := ds
theorem lets_of {kb ka : Bool} {σ : St} {w : World} {Z : Nat → Prop} {G : Nat → Value} {L : Nat → Prop} {ops : Array Oper} (hkb : noneB C ops.toList = kb) (hka : noneA C ops.toList = ka) {i : Nat} {o : Oper} {ds : List Deferred} (hi : ops[i]? = some o) : (anchor ds kb ka σ w Z G L).lets C o = true := by
  have hm : o ∈ ops.toList := by have := Array.mem_of_getElem? hi; simpa using this
  unfold Anc.lets
  simp only [Bool.and_eq_true, Bool.or_eq_true, Bool.not_eq_true']
  constructor
  · show touchB C o = false ∨ kb = false
    cases kb with
    | true => exact .inl (noneB_mem hkb o hm)
    | false => exact .inr rfl
  · show touchA C o = false ∨ ka = false
    cases ka with
    | true => exact .inl (noneA_mem hka o hm)
    | false => exact .inr rfl
theorem keeps_kept (Θ : Anc) (o : Obj) : Θ.keeps o = kept Θ.kb Θ.ka o := by cases o <;> rfl
theorem Inv.enter {P : Program} {kb ka : Bool} {σ : St} {a : Act} {w : World} {Z : Nat → Prop} {G : Nat → Value} {L : Nat → Prop} (I : Inv P Θ kb ka n σ a w Z G L) : Sim P (anchor Θ.ds kb ka σ w Z G L) n σ a w Z G :=
  { size := I.sim.size, calm := I.sim.calm, slot := I.sim.slot, obj := I.sim.obj, sep := I.sim.sep, lt := I.sim.lt, flat := I.sim.flat, fut := Fut.refl _ w, odd := fun _ _ => rfl, row := fun _ hb => .inl hb
    free := fun id o b h hb => ⟨(I.sim.free id o b h hb).1, by
      cases hk : kept kb ka o with
      | true => exact .inr (.inl (.inr ⟨id, o, h, hb, hk⟩))
      | false => exact .inl ⟨id, o, h, hb, hk⟩⟩
    keep := fun id o b h hb hN => by
      rw [keeps_kept]
      rcases hN with hN | ⟨id', o', h', hb', hk'⟩
      · exact I.keep id o b h hb hN
      · have := I.sim.sep id id' o o' b h h' hb hb'
        subst this
        rw [h] at h'
        cases h'
        exact hk'
    nlt := fun b hN => by
      rcases hN with hN | ⟨id', o', h', hb', hk'⟩
      · exact I.lt b hN
      · exact RepO.lt I.sim h' hb'
    new := fun b hb => .inl hb
    sub := fun b hb => hb }
theorem Inv.leave {P : Program} {kb ka : Bool} {σ σ' : St} {a a' : Act} {w w' : World} {Z Z' : Nat → Prop} {G G' : Nat → Value} {L : Nat → Prop} (hN : ∀ b, ¬ Θ.N b) (I : Inv P Θ kb ka n σ a w Z G L)
    (S : Sim P (anchor Θ.ds kb ka σ w Z G L) n σ' a' w' Z' G') : Inv P Θ kb ka n σ' a' w' Z' G' (anchor Θ.ds kb ka σ w Z G L).N ∧
      (∀ b, (Held kb ka σ G Z b ∨ L b) → (Held kb ka σ' G' Z' b ∨ (anchor Θ.ds kb ka σ w Z G L).N b)) ∧ ∀ b, (Held kb ka σ G Z b ∨ L b) → w'.heap[b]? = w.heap[b]? := by
  have live0 : ∀ id o b, getO σ.objs id = some o → blk (G id) = some b → Θ.M b ∨ Θ.w.heap.size ≤ b := fun id o b h hb => by
    rcases (I.sim.free id o b h hb).2 with h1 | h1 | h1
    · exact .inl h1
    · exact absurd h1 (hN b)
    · exact .inr h1
  have hM : ∀ b, (anchor Θ.ds kb ka σ w Z G L).M b → Θ.M b ∨ Θ.w.heap.size ≤ b := fun b ⟨id, o, h, hb, _⟩ => live0 id o b h hb
  have hNN : ∀ b, (anchor Θ.ds kb ka σ w Z G L).N b → Θ.M b ∨ Θ.w.heap.size ≤ b := fun b hb => by
    rcases hb with hb | ⟨id, o, h, hb, _⟩
    · exact I.old b hb
    · exact live0 id o b h hb
  have hsz : Θ.w.heap.size ≤ w.heap.size := I.sim.fut.size
  have hsame : ∀ b, (Held kb ka σ G Z b ∨ L b) → w'.heap[b]? = w.heap[b]? := by
    intro b hb
    refine S.fut.block b ?_ ?_
    · rcases hb with (hb | ⟨id, o, h, hb, _⟩) | hb
      · exact I.sim.lt b hb
      · exact RepO.lt I.sim h hb
      · exact I.lt b hb
    · rintro ⟨id, o, h, hbo, hk⟩
      rcases hb with (hb | ⟨id', o', h', hb', hk'⟩) | hb
      · exact (I.sim.free id o b h hbo).1 hb
      · have := I.sim.sep id id' o o' b h h' hbo hb'
        subst this
        rw [h] at h'
        cases h'
        rw [hk] at hk'; cases hk'
      · have := I.keep id o b h hbo hb
        rw [hk] at this; cases this
  refine ⟨⟨?_, hNN, fun b hb => Nat.lt_of_lt_of_le (S.nlt b hb) S.fut.size, fun id o b h hb hL => by have := S.keep id o b h hb hL; rw [keeps_kept] at this; exact this⟩, ?_, hsame⟩
  · refine { size := S.size, calm := S.calm, slot := S.slot, obj := S.obj, sep := S.sep, lt := S.lt, flat := S.flat, odd := fun i hi => (S.odd i hi).trans (I.sim.odd i hi), row := fun b hb => (S.row b hb).elim (fun h => (I.sim.row b h).imp (fun h => h) fun h2 => h2.of (hsame b (.inl (.inl h)))) .inr, fut := ?_, free := ?_, keep := ?_, nlt := I.sim.nlt, new := ?_, sub := fun b hb => S.sub b (I.sim.sub b hb) }
    · intro id o b h hb
      refine ⟨(S.free id o b h hb).1, ?_⟩
      rcases (S.free id o b h hb).2 with h1 | h1 | h1
      · exact (hM b h1).elim .inl (fun h => .inr (.inr h))
      · exact (hNN b h1).elim .inl (fun h => .inr (.inr h))
      · exact .inr (.inr (Nat.le_trans hsz h1))
    · exact fun id o b _ _ h => absurd h (hN b)
    · exact I.sim.fut.trans S.fut (fun _ h => h) (fun b hb hm => by
        rcases hM b hm with h | h
        · exact h
        · omega)
    · intro b hb
      rcases S.new b hb with h1 | h1 | h1 | h1
      · exact I.sim.new b h1
      · exact (hM b h1).elim (fun h => .inr (.inl h)) (fun h => .inr (.inr (.inr h)))
      · exact (hNN b h1).elim (fun h => .inr (.inl h)) (fun h => .inr (.inr (.inr h)))
      · exact .inr (.inr (.inr (Nat.le_trans hsz h1)))
  · rintro b ((hb | hb) | hb)
    · exact .inl (.inl (S.sub b hb))
    · exact .inr (.inr hb)
    · exact .inr (.inl hb)
theorem firstQ_some {P : Program} {kb ka : Bool} {ops : Array Oper} {listed : Array Bool} {σ : St} : ∀ {rs : List Nat} {i : Nat} {o : Oper}, firstQ P kb ka ops listed σ rs = some (i, o) →
    i ∈ rs ∧ ops[i]? = some o ∧ quietG P kb ka ops.toList σ o = true ∧ Region.free .any ops listed i = true
  | [], i, o, h => by cases h
  | j :: r, i, o, h => by
    unfold firstQ at h
    split at h
    · cases h
    · rename_i oj hj
      split at h
      · rename_i h1 h2
        injection h with h
        injection h with h3 h4
        subst h3 h4
        exact ⟨List.mem_cons_self .., hj, h1, h2⟩
      · obtain ⟨h1, h2⟩ := firstQ_some h
        exact ⟨List.mem_cons_of_mem _ h1, h2⟩
theorem allK_mem {f : Nat → Prop} : ∀ {l : List Nat}, allK f l → ∀ i ∈ l, f i
  | [], _, i, hi => by cases hi
  | [j], h, i, hi => by
    have : i = j := by simpa using hi
    subst this; exact h
  | j :: j' :: r, h, i, hi => by
    rcases List.mem_cons.1 hi with rfl | hi
    · exact h.l
    · exact allK_mem (l := j' :: r) h.r i hi
theorem draw_sound (hC : C.Ok) {ops : Array Oper} {kb ka : Bool} (hkb : noneB C ops.toList = kb) (hka : noneA C ops.toList = ka) (hsel : Region.noSelect ops = true) (hok : opersOk n ops.toList = true) (hN : ∀ b, ¬ Θ.N b)
    (hQ : ∀ c a w d v, Q (.panic c) (a.put d v) w → Q (.panic c) a w) (hp : ∀ s σ' a' w' Z' G' v, C.pan s σ' → Sim C.P Θ n σ' a' w' Z' G' → RepSV w' Z' G' s v → Q (.panic [{ v := v, recovered := false }]) a' w') {k : St → Prop} (hk : ∀ σ' a' w' Z' G', k σ' → Sim C.P Θ n σ' a' w' Z' G' → Q .normal a' w') : ∀ (fuel : Nat) (listed : Array Bool) {σ : St} {a : Act} {w : World} {Z : Nat → Prop} {G : Nat → Value} {L : Nat → Prop},
      Inv C.P Θ kb ka n σ a w Z G L → drawK C ops kb ka fuel listed σ k → AnyR C.P .any ops Q fuel listed a w (fun b => Held kb ka σ G Z b ∨ L b)
  | 0, listed, σ, a, w, Z, G, L, I, h => by
    unfold drawK at h
    split at h
    · rename_i hr
      exact ⟨hr, hk _ _ _ _ _ h I.sim⟩
    · exact h.elim
  | fuel + 1, listed, σ, a, w, Z, G, L, I, h => by
    have heavy : ∀ i o, ops[i]? = some o → execOps C ops.toList [o] σ (fun σ' => drawK C ops kb ka fuel (listed.setIfInBounds i true) σ' k) →
        wpOp C.P ops Q i (fun a' w' => ∃ H' : Nat → Prop, (∀ b, (Held kb ka σ G Z b ∨ L b) → H' b) ∧ (∀ b, (Held kb ka σ G Z b ∨ L b) → w'.heap[b]? = w.heap[b]?) ∧ AnyR C.P .any ops Q fuel (listed.setIfInBounds i true) a' w' H') a w := by
      intro i o hi h
      refine one_sound hC hi (opersOk_at hok hi) (lets_of hkb hka hi) I.enter h ?_ (fun s σ' w' Z' G' v h' S' hr => hp s σ' a w' Z' G' v h' (I.leave hN S').1.sim hr)
      intro σ' a' w' Z' G' h' S'
      obtain ⟨I', h1, h2⟩ := I.leave hN S'
      exact ⟨_, h1, h2, draw_sound hC hkb hka hsel hok hN hQ hp hk fuel (listed.setIfInBounds i true) I' h'⟩
    unfold drawK at h
    split at h
    · rename_i hr
      exact ⟨fun _ => hk _ _ _ _ _ h I.sim, fun i hi => by rw [hr] at hi; cases hi⟩
    · rename_i hrs
      split at h
      · rename_i i o hf
        obtain ⟨hir, hi, hq, hfree⟩ := firstQ_some hf
        have hd := (operOk_dst (opersOk_at hok hi)).1
        have take : ∀ {σ1 : St} (S1 : Sim C.P Θ n σ1 a w Z G) (ho : σ1.objs = σ.objs) (s : SV) (v : Value), RepSV w Z G s v → YieldsIf C.P ops (fun w' => ∀ b, (Held kb ka σ G Z b ∨ L b) → w'.heap[b]? = w.heap[b]?) o v a →
            drawK C ops kb ka fuel (listed.setIfInBounds i true) (setD σ1 o.dst s) k → AnyR C.P .any ops Q (fuel + 1) listed a w (fun b => Held kb ka σ G Z b ∨ L b) := by
          intro σ1 S1 ho s v hrep hy hk'
          have S2 := S1.put (s := s) hrep hd
          have hobj : (setD σ1 o.dst s).objs = σ.objs := by cases o.dst <;> exact ho
          have I2 : Inv C.P Θ kb ka n (setD σ1 o.dst s) (a.put o.dst v) w Z G L := ⟨S2, I.old, I.lt, by rw [hobj]; exact I.keep⟩
          refine AnyR.first hi hsel hQ fuel listed a w _ (Region.free_spec hi hfree) hir hy ?_
          have := draw_sound hC hkb hka hsel hok hN hQ hp hk fuel (listed.setIfInBounds i true) I2 hk'
          unfold Held at this ⊢
          rw [hobj] at this
          exact this
        have held : ∀ {σ1 : St} (_ : σ1.objs = σ.objs) {w' : World}, (∀ b, (Held kb ka σ G Z b ∨ L b) → w'.heap[b]? = w.heap[b]?) → ∀ b, Held kb ka σ1 G Z b → w'.heap[b]? = w.heap[b]? := by
          intro σ1 ho w' hw b hb
          refine hw b (.inl ?_)
          unfold Held at hb ⊢
          rwa [ho] at hb
        unfold execOps at h
        unfold quietG at hq
        split at h
        · rename_i hg
          rw [hg] at hq
          have hw : Region.wanted o (yielded ops a.tmps) = true := by simp [Region.wanted, hg]
          obtain ⟨s, v, h1, h2, h3⟩ := quiet_sound hC I.sim hq h
          exact take I.sim rfl s v h2 (.inl ⟨hw, fun w' hw' => h3 w' (held rfl hw')⟩) h1
        · rename_i j want hg
          rw [hg] at hq
          simp only at hq
          split at h
          · cases h
          · rename_i t hgs
            rw [hgs] at hq
            simp only at hq
            obtain ⟨hyes, hno⟩ := guard_slot (a := a) hgs
            have hslot := I.sim.slot t
            split at h
            · rename_i u hu
              rw [hu] at hslot hq
              simp only at hq
              have hv : a.tmps.getD t undef = .bool u.bool := hslot
              rcases cond_some h with ⟨hb, h⟩ | ⟨hb, h⟩
              · have S' := I.sim.know (t := t) (s := .val .bool (.b true)) (by rw [hv, hb]; rfl)
                have hw : Region.wanted o (yielded ops a.tmps) = true := by simp [Region.wanted, hg, hyes _ hv, hb]
                obtain ⟨s, v, h1, h2, h3⟩ := quiet_sound hC S' hq h
                exact take S' rfl s v h2 (.inl ⟨hw, fun w' hw' => h3 w' (held rfl hw')⟩) h1
              · have S' := I.sim.know (t := t) (s := .val .bool (.b false)) (by rw [hv, hb]; rfl)
                have hw : Region.wanted o (yielded ops a.tmps) = false := by simp [Region.wanted, hg, hyes _ hv, hb]
                exact take S' rfl .und undef rfl (.inr ⟨hw, rfl⟩) h
            · rename_i u hu
              rw [hu] at hslot hq
              simp only at hq
              have hv : a.tmps.getD t undef = .bool u.bool := hslot
              rcases cond_some h with ⟨hb, h⟩ | ⟨hb, h⟩
              · have S' := I.sim.know (t := t) (s := .val .bool (.b true)) (by rw [hv, hb]; rfl)
                have hw : Region.wanted o (yielded ops a.tmps) = false := by simp [Region.wanted, hg, hyes _ hv, hb]
                exact take S' rfl .und undef rfl (.inr ⟨hw, rfl⟩) h
              · have S' := I.sim.know (t := t) (s := .val .bool (.b false)) (by rw [hv, hb]; rfl)
                have hw : Region.wanted o (yielded ops a.tmps) = true := by simp [Region.wanted, hg, hyes _ hv, hb]
                obtain ⟨s, v, h1, h2, h3⟩ := quiet_sound hC S' hq h
                exact take S' rfl s v h2 (.inl ⟨hw, fun w' hw' => h3 w' (held rfl hw')⟩) h1
            · rename_i hu
              rw [hu] at hslot
              have hv : a.tmps.getD t undef = undef := hslot
              have hw : Region.wanted o (yielded ops a.tmps) = false := by simp [Region.wanted, hg, hno hv]
              exact take I.sim rfl .und undef rfl (.inr ⟨hw, rfl⟩) h
            · cases h
      · refine ⟨fun h0 => absurd h0 hrs, fun i hi => ?_⟩
        have hone := allK_mem h i hi
        unfold oneK at hone
        split at hone
        · rename_i o hi'
          exact heavy i o hi' hone
        · exact hone.elim
end
end Go.Den

namespace Go.Den
open Go Go.RowKit
def codeOk (n : Nat) : Code → Bool
  | .region _ ops draw => match draw with | true => opersOk n ops.toList && Region.noSelect ops | false => opersOk n ops.toList
  | .seq a b => match codeOk n a with | true => codeOk n b | false => false
  | .cond _ a b => match codeOk n a with | true => codeOk n b | false => false
  | .block _ a => codeOk n a
  | .loop a => codeOk n a
  | _ => true
def LoopOk (C : Ctx) (c : Nat) (body : Code) : Prop := ∀ ts os F, C.loops c = some (ts, os, F) → ∃ μ : List SV → List Obj → Nat, ∀ (pan : SV → St → Prop) (svs : List SV) (l : List Obj) (k : Ex → St → Prop),
  svs.length = ts.length → l.length = os.length → okS.okSs svs → okOs C.P l → F pan svs l k → exec (C.panics pan) body c ⟨ts.zip svs, os.zip l⟩ (again C.P (C.lout c) (C.lout (c + 1048576)) pan ts os F μ (μ svs l) k)
def LoopsOk (C : Ctx) : Code → Nat → Prop
  | .seq a b, c => LoopsOk C a c ∧ LoopsOk C b c
  | .cond _ a b, c => LoopsOk C a c ∧ LoopsOk C b c
  | .block id a, _ => LoopsOk C a id
  | .loop a, c => LoopsOk C a c ∧ LoopOk C c a
  | _, _ => True
theorem get_keepE (env : List (Nat × SV)) : ∀ (ts : List Nat) (t : Nat), get (keepE env ts) t = get env t ∨ get (keepE env ts) t = .unk
  | [], _ => .inr rfl
  | s :: ts, t => by
    have e : get (keepE env (s :: ts)) t = if s = t then get env s else get (keepE env ts) t := get_cons s t _ _
    rw [e]
    by_cases h : s = t
    · rw [if_pos h, h]; exact .inl rfl
    · rw [if_neg h]; exact get_keepE env ts t
theorem getO_keepO (objs : List (Nat × Obj)) : ∀ (ts : List Nat) (t : Nat) (o : Obj), getO (keepO objs ts) t = some o → getO objs t = some o
  | [], _, _, h => by cases h
  | s :: ts, t, o, h => by
    unfold keepO at h
    split at h
    · rename_i o' ho
      rw [getO_cons] at h
      by_cases hs : s = t
      · rw [if_pos hs] at h; rw [← hs, ho]; exact h
      · rw [if_neg hs] at h; exact getO_keepO objs ts t o h
    · exact getO_keepO objs ts t o h
theorem get_zip (env : List (Nat × SV)) : ∀ (ts : List Nat) (t : Nat), get (ts.zip (gets env ts)) t = get env t ∨ get (ts.zip (gets env ts)) t = .unk
  | [], _ => .inr rfl
  | s :: ts, t => by
    have e : get ((s :: ts).zip (gets env (s :: ts))) t = if s = t then get env s else get (ts.zip (gets env ts)) t := get_cons s t _ _
    rw [e]
    by_cases h : s = t
    · rw [if_pos h, h]; exact .inl rfl
    · rw [if_neg h]; exact get_zip env ts t
theorem getO_zip (objs : List (Nat × Obj)) : ∀ (ts : List Nat) (l : List Obj), getOs objs ts = some l → ∀ (t : Nat) (o : Obj), getO (ts.zip l) t = some o → getO objs t = some o
  | [], l, _, _, _, h => by cases l <;> cases h
  | s :: ts, l, hl, t, o, h => by
    unfold getOs at hl
    split at hl
    · rename_i o' os ho hos
      injection hl with hl
      subst hl
      have h : getO ((s, o') :: ts.zip os) t = some o := h
      rw [getO_cons] at h
      by_cases hs : s = t
      · rw [if_pos hs] at h; rw [← hs, ho]; exact h
      · rw [if_neg hs] at h; exact getO_zip objs ts os hos t o h
    · cases hl
theorem gets_length (env : List (Nat × SV)) : ∀ ts : List Nat, (gets env ts).length = ts.length
  | [] => rfl
  | _ :: ts => by simp [gets, gets_length env ts]
theorem getOs_length (objs : List (Nat × Obj)) : ∀ (ts : List Nat) (l : List Obj), getOs objs ts = some l → l.length = ts.length
  | [], l, h => by simp only [getOs, Option.some.injEq] at h; subst h; rfl
  | s :: ts, l, h => by
    unfold getOs at h
    split at h
    · rename_i o os ho hos
      injection h with h
      subst h
      simp [getOs_length objs ts os hos]
    · cases h
section
variable {C : Ctx} {Θ : Anc} {n : Nat} {Q : Exit → Act → World → Prop}
theorem mask_sim {P : Program} {σ : St} {a : Act} {w : World} {Z : Nat → Prop} {G : Nat → Value} {x : Option (List Nat × List Nat)} (S : Sim P Θ n σ a w Z G) : Sim P Θ n (mask σ x) a w Z G := by
  unfold mask
  split
  · exact S
  · rename_i ts os
    exact S.less (get_keepE _ ts) (getO_keepO _ os)
theorem gets_ok {P : Program} {σ : St} {a : Act} {w : World} {Z : Nat → Prop} {G : Nat → Value} (S : Sim P Θ n σ a w Z G) : ∀ ts : List Nat, okS.okSs (gets σ.env ts)
  | [] => trivial
  | t :: ts => ⟨RepSV.ok (S.slot t), gets_ok S ts⟩
theorem getOs_ok {P : Program} {σ : St} {a : Act} {w : World} {Z : Nat → Prop} {G : Nat → Value} (S : Sim P Θ n σ a w Z G) : ∀ (os : List Nat) (l : List Obj), getOs σ.objs os = some l → okOs P l
  | [], l, h => by simp only [getOs, Option.some.injEq] at h; subst h; trivial
  | o :: os, l, h => by
    unfold getOs at h
    split at h
    · rename_i x xs h1 h2
      injection h with h
      subst h
      exact ⟨RepO.ok (S.obj _ _ h1), getOs_ok S os _ h2⟩
    · cases h
def Pans (C : Ctx) (Θ : Anc) (n : Nat) (Q : Exit → Act → World → Prop) : Prop := ∀ s σ' a' w' Z' G' v, C.pan s σ' → Sim C.P Θ n σ' a' w' Z' G' → RepSV w' Z' G' s v → Q (.panic [{ v := v, recovered := false }]) a' w'
theorem execOps_sound (hC : C.Ok) (hp : Pans C Θ n Q) (hkb : Θ.kb = false) (hka : Θ.ka = false) {ops : Array Oper} {k : St → Prop} (hk : ∀ σ' a' w' Z' G', k σ' → Sim C.P Θ n σ' a' w' Z' G' → Q .normal a' w') :
    ∀ (l : List Oper) (i : Nat) {σ : St} {a : Act} {w : World} {Z : Nat → Prop} {G : Nat → Value}, ops.toList.drop i = l → opersOk n l = true → Sim C.P Θ n σ a w Z G → execOps C ops.toList l σ k →
      wpOps C.P ops Q (List.range' i l.length) a w
  | [], i, σ, a, w, Z, G, _, _, S, h => hk _ _ _ _ _ h S
  | o :: l, i, σ, a, w, Z, G, hl, hok, S, h => by
    unfold opersOk at hok
    split at hok
    · rename_i hoo
      have hi : ops[i]? = some o := by
        rw [← Array.getElem?_toList]
        have := List.getElem?_drop (xs := ops.toList) (i := i) (j := 0)
        rw [hl] at this
        simpa using this.symm
      rw [List.length_cons, List.range'_succ, wpOps_cons]
      refine one_sound hC hi hoo (by simp [Anc.lets, hkb, hka]) S h (fun σ' a' w' Z' G' h' S' => execOps_sound hC hp hkb hka hk l (i + 1) ?_ hok S' h') (fun s σ' w' Z' G' v h' S' hr => hp s σ' _ w' Z' G' v h' S' hr)
      rw [← List.tail_drop, hl]
      rfl
    · cases hok
def toExit : Ex → Exit
  | .normal => .normal
  | .ret => .ret
  | .exit n => .exit n
def hasDraw : Code → Bool
  | .region _ _ draw => draw
  | .seq a b => hasDraw a || hasDraw b
  | .cond _ a b => hasDraw a || hasDraw b
  | .block _ a => hasDraw a
  | .loop a => hasDraw a
  | _ => false
theorem exec_sound (hC : C.Ok) (hkb : Θ.kb = false) (hka : Θ.ka = false) (hN : ∀ b, ¬ Θ.N b) : ∀ (code : Code) (c : Nat) {Q : Exit → Act → World → Prop} {σ : St} {a : Act} {w : World} {Z : Nat → Prop} {G : Nat → Value} {k : Ex → St → Prop}, codeOk n code = true → LoopsOk C code c → Sim C.P Θ n σ a w Z G →
    exec C code c σ k → (∀ e σ' a' w' Z' G', k e σ' → Sim C.P Θ n σ' a' w' Z' G' → Q (toExit e) a' w') → Pans C Θ n Q → (hasDraw code = true → ∀ c a w d v, Q (.panic c) (a.put d v) w → Q (.panic c) a w) → code.wp C.P Q a w
  | .skip, c, Q, σ, a, w, Z, G, k, _, _, S, h, hk, _, _ => wp_skip (hk .normal _ _ _ _ _ h S)
  | .ret, c, Q, σ, a, w, Z, G, k, _, _, S, h, hk, _, _ => wp_ret (hk .ret _ _ _ _ _ h S)
  | .exit m, c, Q, σ, a, w, Z, G, k, _, _, S, h, hk, _, _ => wp_exit (hk (.exit m) _ _ _ _ _ h S)
  | .seq x y, c, Q, σ, a, w, Z, G, k, hok, hl, S, h, hk, hp, hQ => by
    unfold codeOk at hok
    split at hok
    · rename_i hx
      refine wp_seq (exec_sound hC hkb hka hN x c hx hl.1 S h ?_ hp (fun h => hQ (by simp [hasDraw, h])))
      intro e σ' a' w' Z' G' he S'
      cases e with
      | normal => exact exec_sound hC hkb hka hN y c hok hl.2 S' he hk hp (fun h => hQ (by simp [hasDraw, h]))
      | ret => exact hk .ret _ _ _ _ _ he S'
      | exit m => exact hk (.exit m) _ _ _ _ _ he S'
    · cases hok
  | .cond x y z, c, Q, σ, a, w, Z, G, k, hok, hl, S, h, hk, hp, hQ => by
    unfold codeOk at hok
    split at hok
    · rename_i hx
      unfold exec at h
      split at h
      · rename_i u hu
        have hv : a.eval x = .bool u.bool := by have := S.ev x; rw [hu] at this; exact this
        refine wp_cond hv ?_
        rcases cond_some h with ⟨hb, h⟩ | ⟨hb, h⟩
        · rw [hb]; exact exec_sound hC hkb hka hN y c hx hl.1 S h hk hp (fun h => hQ (by simp [hasDraw, h]))
        · rw [hb]; exact exec_sound hC hkb hka hN z c hok hl.2 S h hk hp (fun h => hQ (by simp [hasDraw, h]))
      · cases h
    · cases hok
  | .block id x, c, Q, σ, a, w, Z, G, k, hok, hl, S, h, hk, hp, hQ => by
    refine wp_block (exec_sound hC hkb hka hN x id hok hl S h ?_ hp hQ)
    have hmask : ∀ σ' a' w' Z' G', Sim C.P Θ n σ' a' w' Z' G' → Sim C.P Θ n (mask σ' (C.kout id)) a' w' Z' G' := fun _ _ _ _ _ S' => mask_sim S'
    intro e σ' a' w' Z' G' he S'
    cases e with
    | normal => exact hk .normal _ _ _ _ _ he (hmask _ _ _ _ _ S')
    | ret => exact hk .ret _ _ _ _ _ he S'
    | exit m =>
      show (if m = id then Q .normal a' w' else Q (.exit m) a' w')
      unfold outOf at he
      rcases cond_some he with ⟨hb, he⟩ | ⟨hb, he⟩
      · rw [if_pos (Nat.eq_of_beq_eq_true hb)]
        exact hk .normal _ _ _ _ _ he (hmask _ _ _ _ _ S')
      · rw [if_neg (Nat.ne_of_beq_eq_false hb)]
        exact hk (.exit m) _ _ _ _ _ he S'
  | .loop x, c, Q, σ, a, w, Z, G, k, hok, hl, S, h, hk, hp, hQ => by
    unfold exec at h
    split at h
    · rename_i ts os F hF
      split at h
      · rename_i σ1 hfr
        obtain ⟨Z1, S1⟩ := freezes_sim S hfr
        split at h
        case h_2 => cases h
        rename_i l hos
        obtain ⟨μ, hμ⟩ := hl.2 ts os F hF
        have key : ∀ (N : Nat) (svs : List SV) (l : List Obj) (a : Act) (w : World) (Z : Nat → Prop) (G : Nat → Value), μ svs l < N → svs.length = ts.length → l.length = os.length → okS.okSs svs → okOs C.P l → F C.pan svs l k →
            Sim C.P Θ n ⟨ts.zip svs, os.zip l⟩ a w Z G → Code.rounds C.P x Q N a w := by
          intro N
          induction N with
          | zero => intro svs l a w Z G hlt; omega
          | succ N ih =>
            intro svs l a w Z G hlt h1 h2 ho1 ho2 hFk S1
            rw [rounds_succ]
            refine exec_sound hC hkb hka hN x c hok hl.1 S1 (hμ C.pan svs l k h1 h2 ho1 ho2 hFk) ?_ hp hQ
            intro e σ' a' w' Z' G' he S'
            cases e with
            | normal =>
              simp only [again] at he
              split at he
              · rename_i σ2 hfr2
                obtain ⟨Z2, S2⟩ := freezes_sim S' hfr2
                split at he
                · rename_i l' hl'
                  obtain ⟨hb, he⟩ := cond_only he
                  have hb : μ (gets σ2.env ts) l' < μ svs l := by simpa [Nat.blt_eq] using hb
                  exact ih _ _ _ _ _ _ (by omega) (gets_length _ _) (getOs_length _ _ _ hl') (gets_ok S2 ts) (getOs_ok S2 os l' hl') he (S2.less (get_zip _ ts) (getO_zip _ os l' hl'))
                · cases he
              · cases he
            | ret => exact hk .ret _ _ _ _ _ he (mask_sim S')
            | exit m => exact hk (.exit m) _ _ _ _ _ he (mask_sim S')
        exact wp_loop_rounds (μ (gets σ1.env ts) l + 1) (key _ _ _ _ _ _ _ (Nat.lt_succ_self _) (gets_length _ _) (getOs_length _ _ _ hos) (gets_ok S1 ts) (getOs_ok S1 os l hos) h (S1.less (get_zip _ ts) (getO_zip _ os l hos)))
      · cases h
    · cases h
  | .region id ops draw, c, Q, σ, a, w, Z, G, k, hok, _, S, h, hk, hp, hQ => by
    unfold codeOk at hok
    unfold exec at h
    cases draw with
    | true =>
      simp only [Bool.and_eq_true] at hok
      have I : Inv C.P Θ (noneB C ops.toList) (noneA C ops.toList) n σ a { w with drawn := w.drawn + 1 } Z G (fun _ => False) := ⟨S.drew _, fun _ h => h.elim, fun _ h => h.elim, fun _ _ _ _ _ h => h.elim⟩
      have := draw_sound (Q := Q) hC rfl rfl hok.2 hok.1 hN (hQ rfl) (fun s σ' a' w' Z' G' v h' S' hr => hp s σ' a' w' Z' G' v h' S' hr) (k := fun σ' => k .normal σ') (fun σ' a' w' Z' G' h' S' => hk .normal _ _ _ _ _ h' S') _ _ I h
      exact wp_region_R hC.mixed this
    | false =>
      refine wp_region ?_
      have := execOps_sound (Q := Q) hC hp hkb hka (k := fun σ' => k .normal σ') (fun σ' a' w' Z' G' h' S' => hk .normal _ _ _ _ _ h' S') ops.toList 0 rfl hok S h
      rw [List.range_eq_range']
      simpa using this
end
theorem Ctx.Ok.panics {C : Ctx} (h : C.Ok) (pan : SV → St → Prop) : (C.panics pan).Ok := ⟨h.fns, h.trs, h.eqs, h.mixed, h.exts⟩
theorem LoopsOk.panics {C : Ctx} (pan : SV → St → Prop) : ∀ {code : Code} {c : Nat}, LoopsOk C code c → LoopsOk (C.panics pan) code c
  | .seq _ _, _, h => ⟨LoopsOk.panics pan h.1, LoopsOk.panics pan h.2⟩
  | .cond _ _ _, _, h => ⟨LoopsOk.panics pan h.1, LoopsOk.panics pan h.2⟩
  | .block _ x, c, h => LoopsOk.panics (code := x) pan h
  | .loop _, _, h => ⟨LoopsOk.panics pan h.1, h.2⟩
  | .skip, _, _ => trivial
  | .region _ _ _, _, _ => trivial
  | .rangeFunc _ _ _ _, _, _ => trivial
  | .exit _, _, _ => trivial
  | .scope _, _, _ => trivial
  | .label _, _, _ => trivial
  | .goto _, _, _ => trivial
  | .ret, _, _ => trivial
  | .refuse _, _, _ => trivial
theorem args_rep {P : Program} {w : World} {Z : Nat → Prop} {G : Nat → Value} : ∀ {ts : List TypeId} {us : List (List U)} {svs : List SV} {vs : List Value} {env : List (Nat × SV)} {i : Nat}, unflats P ts us = some svs → args P i ts us = some env → RepSVs w Z none_ svs vs →
    vs.length = ts.length ∧ ∀ t, (get env t = .unk ∨ ∃ v, i ≤ t ∧ vs[t - i]? = some v ∧ RepSV w Z G (get env t) v)
  | [], [], svs, vs, env, i, h, he, hr => by
    simp only [unflats, Option.some.injEq] at h
    subst h
    have hr : vs = [] := hr
    subst hr
    simp only [args, Option.some.injEq] at he
    subst he
    exact ⟨rfl, fun t => .inl rfl⟩
  | [], _ :: _, svs, vs, env, i, h, he, hr => by simp [unflats] at h
  | _ :: _, [], svs, vs, env, i, h, he, hr => by simp [unflats] at h
  | t :: ts, u :: us, svs, vs, env, i, h, he, hr => by
    unfold unflats at h
    unfold args at he
    split at h
    · rename_i s l h1 h2
      injection h with h
      subst h
      rw [h1] at he
      split at he
      · rename_i s' env' hs' henv
        injection he with he
        subst he
        injection hs' with hs'
        subst hs'
        obtain ⟨v, r, rfl, hv, hr⟩ := hr
        obtain ⟨hl, ih⟩ := args_rep h2 henv hr
        refine ⟨by simp [hl], fun t' => ?_⟩
        rw [get_cons]
        by_cases ht : i = t'
        · subst ht
          rw [if_pos rfl]
          exact .inr ⟨v, Nat.le_refl _, by simp, unflat_any h1 hv⟩
        · rw [if_neg ht]
          rcases ih t' with h3 | ⟨v', h3, h4, h5⟩
          · exact .inl h3
          · refine .inr ⟨v', by omega, ?_, h5⟩
            rw [show t' - i = (t' - (i + 1)) + 1 by omega]
            simpa using h4
      · cases he
    · cases h
def resOf (tmps : Array Value) : ResultVar → Sem Value
  | .tmp t => pure (tmps.getD t undef)
  | .cell x t => do loadVar t (← asAddr (tmps.getD x undef))
theorem results_of (fn : Func) (tmps : Array Value) : results fn tmps = (do let vs ← fn.results.mapM (resOf tmps); pure (if h : vs.size = 1 then vs[0] else .tuple vs)) := by
  unfold results
  congr 1
theorem resVals_rep {P : Program} {Θ : Anc} {n : Nat} {σ : St} {a : Act} {w : World} {Z : Nat → Prop} {G : Nat → Value} (S : Sim P Θ n σ a w Z G) : ∀ {l : List ResultVar} {svs : List SV}, resVals P σ l = some svs →
    ∃ vs : List Value, (l.mapM (resOf a.tmps)).run P w = .ok vs w ∧ RepSVs w Z G svs vs
  | [], svs, h => by
    simp only [resVals, Option.some.injEq] at h
    subst h
    exact ⟨[], rfl, rfl⟩
  | .tmp t :: l, svs, h => by
    unfold resVals at h
    split at h
    · rename_i r hr
      injection h with h
      subst h
      obtain ⟨vs, h1, h2⟩ := resVals_rep S hr
      have h0 : (resOf a.tmps (.tmp t)).run P w = .ok (a.tmps.getD t undef) w := rfl
      refine ⟨a.tmps.getD t undef :: vs, ?_, ⟨_, _, rfl, S.slot t, h2⟩⟩
      simp only [List.mapM_cons, Sem.run_bind, h0, h1, Result.andThen, Sem.run_pure]
    · cases h
  | .cell x t :: l, svs, h => by
    unfold resVals at h
    split at h
    · rename_i id off r hp hr
      split at h
      · rename_i cells hob
        split at h
        · rename_i s hs
          injection h with h
          subst h
          obtain ⟨vs, h1, h2⟩ := resVals_rep S hr
          have hx := S.slot x
          rw [hp] at hx
          obtain ⟨b, hG, hv⟩ := hx
          obtain ⟨b', ty, c, g1, g2, g3⟩ := S.obj id _ hob
          rw [hG] at g1
          cases g1
          obtain ⟨v, hl, hrep⟩ := run_load_part (P := P) (o := 0) (b := b) g3 (fun j v hj => by rw [Nat.zero_add, cell_of_row w b j c ty (0, 0) g2]; simpa using hj) hs
          rw [Nat.zero_add] at hl
          have h0 : (resOf a.tmps (.cell x t)).run P w = .ok v w := by
            simp only [resOf, Sem.run_bind, hv, asAddr, Sem.run_pure, Result.andThen, hl]
          refine ⟨v :: vs, ?_, ⟨_, _, rfl, hrep, h2⟩⟩
          simp only [List.mapM_cons, Sem.run_bind, h0, h1, Result.andThen, Sem.run_pure]
        · cases h
      · cases h
    · cases h
def okArgs (P : Program) (ts : List TypeId) (us : List (List U)) : Prop := shapeOk P ts us ∧ ∀ svs, unflats P ts us = some svs → okS.okSs svs
theorem run_sound {C : Ctx} (hC : C.Ok) {f : FuncId} {fn : Func} {code : Code} {us rs : List (List U)} (hf : C.P.funcs[f]? = some fn) (hbody : fn.body = some code) (hname : (fn.name == "runtime.NumGoroutine") = false)
    (hparams : fn.params.size ≤ fn.ntmps) (hok : codeOk fn.ntmps code = true) (hloops : LoopsOk C code 0) (hrun : okArgs C.P fn.params.toList us → run C fn us (· = rs)) : FnOk C.P f fn us rs where
  body := by rw [hbody]; rfl
  name := hname
  calls := by
    intro w Z vs hZ hsh ⟨svs, hsvs, hrep⟩
    have hrun := hrun ⟨hsh, fun svs' h => by rw [hsvs] at h; cases h; exact hrep.ok⟩
    unfold run at hrun
    split at hrun
    · rename_i env henv
      obtain ⟨hl, hargs⟩ := args_rep (G := fun _ => .pointer none) hsvs henv hrep
      have hbd : bodyOf fn = code := by unfold bodyOf; rw [hbody]
      rw [hbd] at hrun
      have hlen : vs.toArray.size = fn.params.size := by simpa using hl
      have S : Sim C.P ⟨w, fun _ => False, fun _ => False, Z, false, false, fun _ => .pointer none, []⟩ fn.ntmps ⟨env, []⟩ { tmps := vs.toArray ++ Array.replicate (fn.ntmps - vs.toArray.size) undef, defers := [] } w Z (fun _ => .pointer none) :=
        { size := by simp only [Array.size_append, Array.size_replicate, hlen]; omega
          calm := rfl
          slot := fun t => by
            rcases hargs t with h | ⟨v, _, h2, h3⟩
            · show RepSV w Z _ (get env t) _
              rw [h]; trivial
            · show RepSV w Z _ (get env t) _
              have ht : t < vs.length := by
                have := (List.getElem?_eq_some_iff.1 h2).1; omega
              have hv : (vs.toArray ++ Array.replicate (fn.ntmps - vs.toArray.size) undef).getD t undef = v := by
                rw [Array.getD_eq_getD_getElem?, Array.getElem?_append_left (by simpa using ht)]
                simp only [Nat.sub_zero] at h2
                simp [h2]
              rw [hv]
              exact h3
          obj := fun id o h => by cases h
          sep := fun id id' o o' b h => by cases h
          free := fun id o b h => by cases h
          keep := fun id o b h => by cases h
          nlt := fun _ h => h.elim
          lt := hZ
          fut := Fut.refl _ w
          new := fun b hb => .inl hb
          sub := fun b hb => hb
          flat := fun _ => rfl
          odd := fun _ _ => rfl
          row := fun _ hb => .inl hb }
      refine calls_of_wp hf hbody (exec_sound (hC.panics fun _ _ => False) rfl rfl (fun _ h => h) code 0 hok (hloops.panics _) S hrun ?_ (fun _ _ _ _ _ _ _ h _ _ => False.elim h) (fun _ c a w d v h => by cases d <;> exact h))
      intro e σ' a' w' Z' G' he S'
      have S' : Sim C.P _ _ _ _ _ _ _ := S'
      have hfin : (match resVals C.P σ' fn.results.toList with | some vs => flats C.P (toU C.P σ'.objs) fn.resultTypes.toList vs | none => none) = some rs ∧ (toExit e = .normal ∨ toExit e = .ret) := by
        unfold finK at he
        split at he
        · rename_i rs' hrs'
          have he : rs' = rs := he
          subst he
          cases e with
          | normal => exact ⟨hrs', .inl rfl⟩
          | ret => exact ⟨hrs', .inr rfl⟩
          | exit m => cases hrs'
        · exact he.elim
      obtain ⟨hfin, hexit⟩ := hfin
      have hpost : ∀ R, (∃ v, (results fn a'.tmps).run C.P w' = .ok v w' ∧ R (Ending.returned v) w') → bodyPost C.P fn R (toExit e) a' w' := by
        intro R ⟨v, h1, h2⟩
        rcases hexit with h | h <;> (rw [h]; exact ⟨S'.calm, v, h1, h2⟩)
      refine hpost _ ?_
      split at hfin
      · rename_i rvs hrv
        obtain ⟨rv, hrun', hrr⟩ := resVals_rep S' hrv
        obtain ⟨svs', hu, hreps⟩ := flats_rep (Zc := fun b => Z' b ∨ Live σ' G' b) (fun c s u v hu hs => toU_rep S' hu hs) hfin hrr
        have hres : (results fn a'.tmps).run C.P w' = .ok (if h : rv.toArray.size = 1 then rv.toArray[0] else .tuple rv.toArray) w' := by
          rw [results_of, Array.mapM_eq_mapM_toList]
          simp [hrun']
        refine ⟨_, hres, _, fun b => Z' b ∨ Live σ' G' b, rfl, S'.fut, fun b hb => .inl (S'.sub b hb), ?_, ?_, svs', hu, ?_⟩
        · rintro b (hb | ⟨id, e, xs, h1, h2⟩)
          · rcases S'.new b hb with h | h | h | h
            · exact .inl h
            · exact h.elim
            · exact h.elim
            · exact (S'.row b hb).imp (fun h => h) fun h2 => ⟨h, h2⟩
          · rcases (S'.free id _ b h1 h2).2 with h3 | h3
            · exact h3.elim
            · exact .inr ⟨h3.elim False.elim (fun h => h), arr_plain (S'.obj id _ h1) h2⟩
        · rintro b (hb | ⟨id, e, xs, h1, h2⟩)
          · exact S'.lt b hb
          · exact RepO.lt S' h1 h2
        · unfold RepRes
          split
          · rename_i s
            obtain ⟨v, t, rfl, hv, ht⟩ := hreps
            have ht : t = [] := ht
            subst ht
            exact hv
          · rename_i hne
            have hl2 := hreps.length
            have h1 : ¬ rv.toArray.size = 1 := by
              intro h
              have h : rv.length = 1 := by simpa using h
              rw [h] at hl2
              obtain ⟨s, hs⟩ := List.length_eq_one_iff.1 hl2
              exact hne s hs
            rw [dif_neg h1]
            exact ⟨_, rfl, by simpa using hreps⟩
      · cases hfin
    · cases hrun
theorem argsT_get : ∀ {vs : List SV} {k t : Nat}, get (argsT k vs) t = .unk ∨ (k ≤ t ∧ ∃ s, vs[t - k]? = some s ∧ get (argsT k vs) t = s)
  | [], _, _ => .inl rfl
  | s :: vs, k, t => by
    have e : get (argsT k (s :: vs)) t = if k = t then s else get (argsT (k + 1) vs) t := get_cons k t _ _
    rw [e]
    by_cases h : k = t
    · subst h
      rw [if_pos rfl]
      exact .inr ⟨Nat.le_refl _, s, by simp, rfl⟩
    · rw [if_neg h]
      rcases argsT_get (vs := vs) (k := k + 1) (t := t) with h1 | ⟨h1, s', h2, h3⟩
      · exact .inl h1
      · refine .inr ⟨by omega, s', ?_, h3⟩
        rw [show t - k = (t - (k + 1)) + 1 by omega]
        simpa using h2
theorem clear_mem {objs0 : Objs} : ∀ {m : List (Nat × Nat)} {i j : Nat}, finT.clear objs0 m = true → (i, j) ∈ m → i = j ∨ j ∉ keysO objs0
  | (a, b) :: r, i, j, hc, h => by
    unfold finT.clear at hc
    cases hb : (Nat.beq a b || !memB b (keysO objs0)) with
    | false => rw [hb] at hc; cases hc
    | true =>
      rw [hb] at hc
      rcases List.mem_cons.1 h with h | h
      · cases h
        simp only [Bool.or_eq_true, Bool.not_eq_true'] at hb
        rcases hb with hb | hb
        · exact .inl (Nat.eq_of_beq_eq_true hb)
        · exact .inr (fun hm => by rw [memB_iff.2 hm] at hb; cases hb)
      · exact clear_mem hc h
theorem finT_sound {P : Program} {w w' : World} {Z Z' : Nat → Prop} {G G' : Nat → Value} {n : Nat} {a : Act} {objs0 : Objs} {σ : St} {ds : List Deferred} {R : Out → Objs → Prop} {out : Out} {e : Ending}
    (S : Sim P ⟨w, Blocks G objs0, fun _ => False, Z, false, false, G, ds⟩ n σ a w' Z' G') (hflat : ∀ id, (G id).oneCell' = true) (hout : RepOut w' Z' G' out e) (h : finT objs0 R out σ.objs) :
    ∃ out objs' Z' G', R out objs' ∧ RepOut w' Z' G' out e ∧ After P w Z G objs0 w' Z' G' objs' := by
  unfold finT at h
  simp only at h
  generalize finMap objs0 σ.objs objs0.length (reach σ.objs 400 (keysO objs0 ++ out.hs) []) = m at h
  obtain ⟨hb, h⟩ := cond_only h
  simp only [Bool.and_eq_true] at hb
  obtain ⟨⟨h1, h2⟩, h3⟩ := hb
  let G2 : Nat → Value := fun j => match lk (swaps m) j with | some i => G' i | none => G j
  have hG2 : ∀ i j, lk m i = some j → G2 j = G' i := fun i j hij => by show (match lk (swaps m) j with | some i => G' i | none => G j) = _; rw [lk_swaps h2 hij]
  have hL : ∀ j o', getO (pickR σ.objs m m) j = some o' → ∃ i p, lk m i = some j ∧ getO σ.objs i = some p ∧ o' = p.ren m ∧ G2 j = G' i := fun j o' hj => by
    obtain ⟨i, p, g1, g2, g3⟩ := getO_pickR hj
    exact ⟨i, p, lk_of_mem h1 g1, g2, g3, hG2 i j (lk_of_mem h1 g1)⟩
  have hpos : 0 ≤ w.heap.size := Nat.zero_le _
  have hodd : ∀ id, id % 2 = 1 → (∃ o, getO objs0 id = some o) → G2 id = G id := fun id hid ⟨o, ho⟩ => by
    show (match lk (swaps m) id with | some i => G' i | none => G id) = _
    split
    · rename_i i hi
      have hm : (i, id) ∈ m := mem_swaps.1 (lk_mem hi)
      rcases clear_mem h3 hm with hc | hc
      · subst hc; exact S.odd i hid
      · exact absurd (mem_keysO (getO_mem ho)) hc
    · rfl
  · refine ⟨_, _, Z', G2, h, ?_, ?_⟩
    · cases out with
      | ret vs =>
        match vs, hout with
        | [v], ⟨x, he, hx⟩ => exact ⟨x, he, RepSV.ren hG2 _ _ hx⟩
        | [], ⟨x, he, hx⟩ => exact ⟨x, he, RepSV.ren hG2 (.tup []) _ hx⟩
        | v :: v' :: vs, ⟨x, he, hx⟩ => exact ⟨x, he, RepSV.ren hG2 (.tup (v :: v' :: vs)) _ hx⟩
      | pan s =>
        obtain ⟨x, he, hx⟩ := hout
        exact ⟨x, he, RepSV.ren hG2 _ _ hx⟩
    · exact
        { stand :=
            { lt := S.lt
              flat := fun j => by
                show (match lk (swaps m) j with | some i => G' i | none => G j).oneCell' = true
                split
                · exact S.flat _
                · exact hflat _
              obj := fun j o' hj => by
                obtain ⟨i, p, g1, g2, rfl, _⟩ := hL j o' hj
                exact RepO.ren hG2 g1 (S.obj i p g2)
              sep := fun j j' o1 o2 b hj hj' hb hb' => by
                obtain ⟨i, p, g1, g2, _, g3⟩ := hL j o1 hj
                obtain ⟨i', p', g1', g2', _, g3'⟩ := hL j' o2 hj'
                rw [g3] at hb
                rw [g3'] at hb'
                have := S.sep i i' p p' b g2 g2' hb hb'
                subst this
                rw [g1] at g1'
                exact Option.some.inj g1'
              free := fun j o' b hj hb => by
                obtain ⟨i, p, g1, g2, _, g3⟩ := hL j o' hj
                rw [g3] at hb
                exact (S.free i p b g2 hb).1 }
          fut := S.fut
          sub := S.sub
          new := fun b hb => by
            rcases S.new b hb with g | g | g | g
            · exact .inl g
            · exact .inr (.inl g)
            · exact g.elim
            · exact .inr (.inr g)
          row := fun b hb => S.row b hb
          own := fun j o' b hj hb => by
            obtain ⟨i, p, g1, g2, _, g3⟩ := hL j o' hj
            rw [g3] at hb
            rcases (S.free i p b g2 hb).2 with g | g | g
            · exact .inl g
            · exact g.elim
            · exact .inr g
          keep := fun id o ho hid => hodd id hid ⟨o, ho⟩ }
theorem runT_sound {C : Ctx} (hC : C.Ok) {f : FuncId} {fn : Func} {code : Code} (hf : C.P.funcs[f]? = some fn) (hbody : fn.body = some code) (hname : (fn.name == "runtime.NumGoroutine") = false)
    (hparams : fn.params.size + fn.nfree ≤ fn.ntmps) (hok : codeOk fn.ntmps code = true) (hloops : LoopsOk C code 0) : FnTr C.P f fn (runD C fn) where
  body := by rw [hbody]; rfl
  name := hname
  calls := by
    intro vs objs R _ h w Z G args hargs hst
    unfold runD at h
    obtain ⟨hb, h⟩ := cond_only h
    have hvl : vs.length = fn.params.size + fn.nfree := Nat.eq_of_beq_eq_true hb
    have hal : args.length = vs.length := hargs.length.symm
    have hbd : bodyOf fn = code := by unfold bodyOf; rw [hbody]
    rw [hbd] at h
    have S : Sim C.P ⟨w, Blocks G objs, fun _ => False, Z, false, false, G, []⟩ fn.ntmps ⟨argsT 0 vs, objs⟩ { tmps := args.toArray ++ Array.replicate (fn.ntmps - args.toArray.size) undef, defers := [] } w Z G :=
      { size := by simp only [Array.size_append, Array.size_replicate, List.size_toArray]; omega
        calm := rfl
        slot := fun t => by
          rcases argsT_get (vs := vs) (k := 0) (t := t) with h1 | ⟨_, s, h2, h3⟩
          · show RepSV w Z _ (get (argsT 0 vs) t) _
            rw [h1]; trivial
          · show RepSV w Z _ (get (argsT 0 vs) t) _
            simp only [Nat.sub_zero] at h2
            have ht : t < args.length := by have := (List.getElem?_eq_some_iff.1 h2).1; omega
            have hv : (args.toArray ++ Array.replicate (fn.ntmps - args.toArray.size) undef).getD t undef = args[t] := by
              rw [Array.getD_eq_getD_getElem?, Array.getElem?_append_left (by simpa using ht)]
              simp [ht]
            rw [hv, h3]
            have := hargs.nth t args[t] (List.getElem?_eq_getElem ht)
            rwa [nth_getElem h2] at this
        obj := hst.obj
        sep := hst.sep
        free := fun id o b h1 h2 => ⟨hst.free id o b h1 h2, .inl ⟨id, o, h1, h2⟩⟩
        keep := fun id o b _ _ h => h.elim
        nlt := fun _ h => h.elim
        lt := hst.lt
        fut := Fut.refl _ w
        new := fun b hb => .inl hb
        sub := fun b hb => hb
        flat := hst.flat
        odd := fun _ _ => rfl
        row := fun _ hb => .inl hb }
    refine calls_of_wp hf hbody (exec_sound (hC.panics fun v σ => finT objs R (.pan v) σ.objs) rfl rfl (fun _ h => h) code 0 hok (hloops.panics _) S h ?_ ?_ (fun _ c a w d v h => by cases d <;> exact h))
    · intro e σ' a' w' Z' G' he S'
      have S' : Sim C.P _ _ _ _ _ _ _ := S'
      have hexit : toExit e = .normal ∨ toExit e = .ret := by
        cases e with
        | normal => exact .inl rfl
        | ret => exact .inr rfl
        | exit m => exact he.elim
      have hfin : ∃ rs, resVals C.P σ' fn.results.toList = some rs ∧ finT objs R (.ret rs) σ'.objs := by
        unfold endT at he
        split at he
        · exact he.elim
        · split at he
          · rename_i rs hrs; exact ⟨rs, hrs, he⟩
          · exact he.elim
      obtain ⟨rs, hrs, hfin⟩ := hfin
      obtain ⟨rv, hrun', hrr⟩ := resVals_rep S' hrs
      have hres : (results fn a'.tmps).run C.P w' = .ok (if h : rv.toArray.size = 1 then rv.toArray[0] else .tuple rv.toArray) w' := by
        rw [results_of, Array.mapM_eq_mapM_toList]
        simp [hrun']
      have hout : RepOut w' Z' G' (.ret rs) (.returned (if h : rv.toArray.size = 1 then rv.toArray[0] else .tuple rv.toArray)) := by
        have hl := hrr.length
        match rs, hrr with
        | [s], hrr =>
          obtain ⟨v, t, rfl, hv, ht⟩ := hrr
          have ht : t = [] := ht
          subst ht
          exact ⟨_, rfl, hv⟩
        | [], hrr =>
          have hrr : rv = [] := hrr
          subst hrr
          exact ⟨_, rfl, #[], rfl, rfl⟩
        | s :: s' :: rs, hrr =>
          refine ⟨_, rfl, rv.toArray, ?_, by simpa using hrr⟩
          rw [dif_neg]
          simp at hl ⊢
          omega
      have := finT_sound S' hst.flat hout hfin
      rcases hexit with h | h <;> (rw [h]; exact ⟨S'.calm, _, hres, this⟩)
    · intro s σ' a' w' Z' G' v h' S' hr
      exact ⟨S'.calm, finT_sound (out := .pan s) (e := .panicked [{ v := v, recovered := false }]) S' hst.flat ⟨v, rfl, hr⟩ h'⟩
theorem loopsOk_of {C : Ctx} : ∀ {code : Code} {c : Nat}, (∀ p ∈ loopsOf code c, LoopOk C p.1 p.2) → LoopsOk C code c
  | .seq _ _, _, h => ⟨loopsOk_of fun p hp => h p (List.mem_append.2 (.inl hp)), loopsOk_of fun p hp => h p (List.mem_append.2 (.inr hp))⟩
  | .cond _ _ _, _, h => ⟨loopsOk_of fun p hp => h p (List.mem_append.2 (.inl hp)), loopsOk_of fun p hp => h p (List.mem_append.2 (.inr hp))⟩
  | .block id a, _, h => loopsOk_of (code := a) (c := id) h
  | .loop a, c, h => ⟨loopsOk_of (code := a) (c := c) fun p hp => h p (List.mem_cons_of_mem _ hp), h (c, a) (List.mem_cons_self ..)⟩
  | .skip, _, _ => trivial
  | .region _ _ _, _, _ => trivial
  | .rangeFunc _ _ _ _, _, _ => trivial
  | .exit _, _, _ => trivial
  | .scope _, _, _ => trivial
  | .label _, _, _ => trivial
  | .goto _, _, _ => trivial
  | .ret, _, _ => trivial
  | .refuse _, _, _ => trivial
def fnCk (fn : Func) : Bool := fn.body.isSome && !(fn.name == "runtime.NumGoroutine") && Nat.ble fn.params.size fn.ntmps && codeOk fn.ntmps (bodyOf fn)
theorem fn_ok {C : Ctx} (hC : C.Ok) {f : FuncId} {fn : Func} {us rs : List (List U)} (hf : C.P.funcs[f]? = some fn) (hck : fnCk fn = true) (hl : ∀ p ∈ loopsOf (bodyOf fn) 0, LoopOk C p.1 p.2) (hrun : okArgs C.P fn.params.toList us → run C fn us (· = rs)) : FnOk C.P f fn us rs := by
  unfold fnCk at hck
  simp only [Bool.and_eq_true] at hck
  obtain ⟨⟨⟨h1, h2⟩, h3⟩, h4⟩ := hck
  cases hb : fn.body with
  | none => rw [hb] at h1; cases h1
  | some code =>
    have hbd : bodyOf fn = code := by unfold bodyOf; rw [hb]
    rw [hbd] at h4 hl
    exact run_sound hC hf hb (by simpa using h2) (Nat.le_of_ble_eq_true h3) h4 (loopsOk_of hl) hrun
def fnCkT (fn : Func) : Bool := fn.body.isSome && !(fn.name == "runtime.NumGoroutine") && Nat.ble (fn.params.size + fn.nfree) fn.ntmps && codeOk fn.ntmps (bodyOf fn)
theorem fnT_ok {C : Ctx} (hC : C.Ok) {f : FuncId} {fn : Func} (hf : C.P.funcs[f]? = some fn) (hck : fnCkT fn = true) (hl : ∀ p ∈ loopsOf (bodyOf fn) 0, LoopOk C p.1 p.2) : FnTr C.P f fn (runD C fn) := by
  unfold fnCkT at hck
  simp only [Bool.and_eq_true] at hck
  obtain ⟨⟨⟨h1, h2⟩, h3⟩, h4⟩ := hck
  cases hb : fn.body with
  | none => rw [hb] at h1; cases h1
  | some code =>
    have hbd : bodyOf fn = code := by unfold bodyOf; rw [hb]
    rw [hbd] at h4 hl
    exact runT_sound hC hf hb (by simpa using h2) (Nat.le_of_ble_eq_true h3) h4 (loopsOk_of hl)
def SpecF (P : Program) (f : FuncId) (S : List (List U) → List (List U)) : Prop := ∀ fn us, P.funcs[f]? = some fn → FnOk P f fn us (S us)
def SpecT (P : Program) (f : FuncId) (F : Tr) : Prop := ∀ fn, P.funcs[f]? = some fn → FnTr P f fn F
abbrev FnTab : Type := FuncId → List (List U) → Option (Option Prop × List (List U))
def fnsNil : FnTab := fun _ _ => none
def fnsCons (g : FuncId) (S : List (List U) → List (List U)) (r : FnTab) : FnTab := fun f us => bif Nat.beq f g then some (none, S us) else r f us
def fnsConsP (g : FuncId) (p : List (List U) → Prop) (S : List (List U) → List (List U)) (r : FnTab) : FnTab := fun f us => bif Nat.beq f g then some (some (p us), S us) else r f us
def SpecFP (P : Program) (f : FuncId) (p : List (List U) → Prop) (S : List (List U) → List (List U)) : Prop := ∀ fn us, P.funcs[f]? = some fn → p us → FnOk P f fn us (S us)
def trsNil : FuncId → Option (List Bool × Tr) := fun _ => none
def trsCons (g : FuncId) (fs : List Bool) (F : Tr) (r : FuncId → Option (List Bool × Tr)) : FuncId → Option (List Bool × Tr) := fun f => bif Nat.beq f g then some (fs, F) else r f
def OkF (P : Program) (T : FnTab) : Prop := ∀ f fn us p rs, P.funcs[f]? = some fn → T f us = some (p, rs) → withP p True → FnOk P f fn us rs
def OkT (P : Program) (T : FuncId → Option (List Bool × Tr)) : Prop := ∀ f fn fs F, P.funcs[f]? = some fn → T f = some (fs, F) → FnTr P f fn F
theorem OkF.nil {P : Program} : OkF P fnsNil := fun _ _ _ _ _ _ h => by cases h
theorem OkT.nil {P : Program} : OkT P trsNil := fun _ _ _ _ _ h => by cases h
theorem OkF.cons {P : Program} {g : FuncId} {S : List (List U) → List (List U)} {r : FnTab} (h : SpecF P g S) (hr : OkF P r) : OkF P (fnsCons g S r) := fun f fn us p rs hf h' hp => by
  unfold fnsCons at h'
  cases hb : Nat.beq f g with
  | true =>
    rw [hb] at h'
    have := Nat.eq_of_beq_eq_true hb
    subst this
    injection h' with h'
    cases h'
    exact h fn us hf
  | false => rw [hb] at h'; exact hr f fn us p rs hf h' hp
theorem OkF.consP {P : Program} {g : FuncId} {pre : List (List U) → Prop} {S : List (List U) → List (List U)} {r : FnTab} (h : SpecFP P g pre S) (hr : OkF P r) : OkF P (fnsConsP g pre S r) := fun f fn us p rs hf h' hp => by
  unfold fnsConsP at h'
  cases hb : Nat.beq f g with
  | true =>
    rw [hb] at h'
    have := Nat.eq_of_beq_eq_true hb
    subst this
    injection h' with h'
    cases h'
    exact h fn us hf hp.1
  | false => rw [hb] at h'; exact hr f fn us p rs hf h' hp
theorem OkT.cons {P : Program} {g : FuncId} {fs : List Bool} {F : Tr} {r : FuncId → Option (List Bool × Tr)} (h : SpecT P g F) (hr : OkT P r) : OkT P (trsCons g fs F r) := fun f fn fs' F' hf h' => by
  unfold trsCons at h'
  cases hb : Nat.beq f g with
  | true =>
    rw [hb] at h'
    have := Nat.eq_of_beq_eq_true hb
    subst this
    injection h' with h'
    cases h'
    exact h fn hf
  | false => rw [hb] at h'; exact hr f fn fs' F' hf h'
def mkC (P : Program) (eqs : TypeId → Option (List IntKind)) (fns : FnTab) (trs : FuncId → Option (List Bool × Tr)) (loops : Nat → Option (List Nat × List Nat × LoopF)) (lout kout : Nat → Option (List Nat × List Nat)) : Ctx :=
  { P := P, eqs := eqs, fns := fns, trs := trs, pan := fun _ _ => False, loops := loops, kout := kout, lout := lout }
theorem mkC_ok {P : Program} {eqs : TypeId → Option (List IntKind)} {fns : FnTab} {trs : FuncId → Option (List Bool × Tr)} {loops : Nat → Option (List Nat × List Nat × LoopF)} {lout kout : Nat → Option (List Nat × List Nat)}
    (he : ∀ t ks, eqs t = some ks → EqOk P t ks) (hm : P.follows .mixedOrders = true) (hf : OkF P fns) (ht : OkT P trs) : (mkC P eqs fns trs loops lout kout).Ok := ⟨hf, ht, he, hm, fun _ _ h => by cases h⟩
def Ctx.withExt (C : Ctx) (g : FuncId) (e : Ext) : Ctx := { C with exts := fun f => bif Nat.beq f g then some e else C.exts f }
theorem Ctx.Ok.withExt {C : Ctx} (h : C.Ok) {g : FuncId} {e : Ext} (he : ExtOk C.P g e) : (C.withExt g e).Ok := ⟨h.fns, h.trs, h.eqs, h.mixed, fun f e' h' => by
  have h2 : (bif Nat.beq f g then some e else C.exts f) = some e' := h'
  cases hb : Nat.beq f g with
  | true =>
    rw [hb, cond_true] at h2
    have := Nat.eq_of_beq_eq_true hb
    subst this
    cases h2
    exact he
  | false => rw [hb, cond_false] at h2; exact h.exts f e' h2⟩
def SV.u : SV → U
  | .val _ u => u
  | _ => .i 0
def Obj.xs : Obj → List U
  | .arr _ xs => xs
  | _ => []
@[simp] theorem SV.u_val (c : Ct) (u : U) : (SV.val c u).u = u := rfl
@[simp] theorem Obj.xs_arr (e : TypeId) (xs : List U) : (Obj.arr e xs).xs = xs := rfl
abbrev Mu : Type := List SV → List Obj → Nat
abbrev KE : Type := Ex → St → Prop
abbrev KP : Type := SV → St → Prop
abbrev RT : Type := Out → Objs → Prop
abbrev RF : Type := List (List U) → Prop
def noLoops : Nat → Option (List Nat × List Nat × LoopF) := fun _ => none
def noOut : Nat → Option (List Nat × List Nat) := fun _ => none
def loopCons (c : Nat) (ts os : List Nat) (F : LoopF) (r : Nat → Option (List Nat × List Nat × LoopF)) : Nat → Option (List Nat × List Nat × LoopF) := fun d => bif Nat.beq d c then some (ts, os, F) else r d
def outCons (c : Nat) (ts os : List Nat) (r : Nat → Option (List Nat × List Nat)) : Nat → Option (List Nat × List Nat) := fun d => bif Nat.beq d c then some (ts, os) else r d
end Go.Den

namespace Go.Den
open Go Go.RowKit
def fieldsInt (P : Program) : Nat → List Field → List IntKind → Bool
  | _, [], [] => true
  | n, f :: fs, k :: ks => match P.underlying f.type with
    | some (.int k') => (f.name != "_") && Nat.beq f.offset n && IntKind.same k k' && fieldsInt P (n + 1) fs ks
    | _ => false
  | _, _, _ => false
theorem run_part_int {P : Program} {w : World} {t : TypeId} {k : IntKind} {vs : Array Value} {off : Nat} {v : Value} (hu : P.underlying t = some (.int k)) (hv : vs[off]? = some v) : (_root_.Go.part t vs off).run P w = .ok v w := by
  have hl : off < vs.size := (Array.getElem?_eq_some_iff.1 hv).1
  have hv' : vs[off] = v := (Array.getElem?_eq_some_iff.1 hv).2
  simp only [_root_.Go.part, Sem.run_bind, run_isAgg hu, Result.andThen, aggD]
  simp [Array.getElem?_eq_getElem hl, hv']
theorem eqFields_ints {P : Program} {w : World} : ∀ (fs : List Field) (ks : List IntKind) (n : Nat) (is js : List Int) (xs ys : List Value), fieldsInt P n fs ks = true → is.length = ks.length → js.length = ks.length →
    xs.drop n = List.zipWith Value.int ks is → ys.drop n = List.zipWith Value.int ks js → (Op.eqFields 9999 xs.toArray ys.toArray fs).run P w = .ok (decide (is = js)) w
  | [], [], n, [], [], xs, ys, _, _, _, _, _ => by simp [Op.eqFields]
  | [], _ :: _, _, _, _, _, _, h, _, _, _, _ => by simp [fieldsInt] at h
  | _ :: _, [], _, _, _, _, _, h, _, _, _, _ => by simp [fieldsInt] at h
  | f :: fs, k :: ks, n, i :: is, j :: js, xs, ys, h, hi, hj, hx, hy => by
    unfold fieldsInt at h
    split at h
    · rename_i k' hu
      simp only [Bool.and_eq_true] at h
      obtain ⟨⟨⟨h1, h2⟩, h3⟩, h4⟩ := h
      have h1 : f.name ≠ "_" := by simpa using h1
      have h2 := Nat.eq_of_beq_eq_true h2
      have := same_eq h3
      subst this
      have hx0 : xs[n]? = some (.int k i) := by
        have := List.getElem?_drop (xs := xs) (i := n) (j := 0)
        rw [hx] at this
        simpa using this.symm
      have hy0 : ys[n]? = some (.int k j) := by
        have := List.getElem?_drop (xs := ys) (i := n) (j := 0)
        rw [hy] at this
        simpa using this.symm
      have hpx := run_part_int (w := w) hu (vs := xs.toArray) (off := f.offset) (v := .int k i) (by simpa [h2] using hx0)
      have hpy := run_part_int (w := w) hu (vs := ys.toArray) (off := f.offset) (v := .int k j) (by simpa [h2] using hy0)
      have heq := run_equalIn_int (P := P) w 9998 f.type k k i j hu
      have hx1 : xs.drop (n + 1) = List.zipWith Value.int ks is := by
        rw [← List.tail_drop, hx]; rfl
      have hy1 : ys.drop (n + 1) = List.zipWith Value.int ks js := by
        rw [← List.tail_drop, hy]; rfl
      have ih := eqFields_ints (w := w) fs ks (n + 1) is js xs ys h4 (by simpa using hi) (by simpa using hj) hx1 hy1
      simp only [Op.eqFields, h1, ne_eq, not_false_eq_true, if_true, Sem.run_bind, hpx, hpy, Result.andThen_ok]
      rw [show (9999 : Nat) = 9998 + 1 from rfl, heq]
      simp only [Result.andThen_ok]
      by_cases hij : i = j
      · subst hij
        simp only [BEq.rfl, Bool.not_true, Bool.false_eq_true, if_false]
        rw [ih]
        simp
      · have : (i == j) = false := by simpa using hij
        simp [this, hij]
    · cases h
  | _ :: _, _ :: _, _, [], _, _, _, _, hi, _, _, _ => by simp at hi
  | _ :: _, _ :: _, _, _ :: _, [], _, _, _, _, hj, _, _ => by simp at hj
  | [], [], _, _ :: _, _, _, _, _, hi, _, _, _ => by simp at hi
  | [], [], _, [], _ :: _, _, _, _, _, hj, _, _ => by simp at hj
def eqCk (P : Program) (t : TypeId) (ks : List IntKind) : Bool := match P.underlying t with
  | some (.struct fs) => !P.stoodInHeld t && !P.eqGuardType P.depth t && fieldsInt P 0 fs.toList ks
  | _ => false
theorem eq_ok {P : Program} {t : TypeId} {ks : List IntKind} (h : eqCk P t ks = true) : EqOk P t ks := by
  unfold eqCk at h
  split at h
  · rename_i fs hu
    simp only [Bool.and_eq_true, Bool.not_eq_true'] at h
    obtain ⟨⟨h1, h2⟩, h3⟩ := h
    intro x y is js w hi hj
    have hf : P.fieldsOf t = fs := by unfold Program.fieldsOf; rw [hu]
    have hrun := run_equalIn_struct (P := P) w 9999 t (List.zipWith Value.int ks is).toArray (List.zipWith Value.int ks js).toArray (by rw [hf]; exact hu) h1
    rw [hf, eqFields_ints fs.toList ks 0 is js _ _ h3 hi hj rfl rfl] at hrun
    unfold aggI
    constructor
    · simp only [Sem.run_bind, run_eqGuard_agg w _ t x y _ _ h2, Result.andThen_ok, run_eql_struct]
      rw [show (10000 : Nat) = 9999 + 1 from rfl, hrun]; rfl
    · simp only [Sem.run_bind, run_eqGuard_agg w _ t x y _ _ h2, Result.andThen_ok, run_neq_struct]
      rw [show (10000 : Nat) = 9999 + 1 from rfl, hrun]; rfl
  · cases h
theorem shape1 {P : Program} {t : TypeId} {us : List (List U)} {m : Bool} {cs : List Ct} (hc : Cs P t = some (m, cs)) (h : shapeOk P [t] us) : ∃ u, us = [u] ∧ u.length = cs.length := by
  obtain ⟨u, r, m', cs', rfl, hcs, hl, hr⟩ := h
  rw [hc] at hcs; cases hcs
  have hr : r = [] := hr
  subst hr
  exact ⟨u, rfl, hl⟩
theorem shape2 {P : Program} {t t2 : TypeId} {us : List (List U)} {m m2 : Bool} {cs cs2 : List Ct} (hc : Cs P t = some (m, cs)) (hc2 : Cs P t2 = some (m2, cs2)) (h : shapeOk P [t, t2] us) : ∃ u u2, us = [u, u2] ∧ u.length = cs.length ∧ u2.length = cs2.length := by
  obtain ⟨u, r, m', cs', rfl, hcs, hl, hr⟩ := h
  rw [hc] at hcs; cases hcs
  obtain ⟨u2, rfl, hl2⟩ := shape1 hc2 hr
  exact ⟨u, u2, rfl, hl, hl2⟩
theorem shape3 {P : Program} {t t2 t3 : TypeId} {us : List (List U)} {m m2 m3 : Bool} {cs cs2 cs3 : List Ct} (hc : Cs P t = some (m, cs)) (hc2 : Cs P t2 = some (m2, cs2)) (hc3 : Cs P t3 = some (m3, cs3)) (h : shapeOk P [t, t2, t3] us) :
    ∃ u u2 u3, us = [u, u2, u3] ∧ u.length = cs.length ∧ u2.length = cs2.length ∧ u3.length = cs3.length := by
  obtain ⟨u, r, m', cs', rfl, hcs, hl, hr⟩ := h
  rw [hc] at hcs; cases hcs
  obtain ⟨u2, u3, rfl, hl2, hl3⟩ := shape2 hc2 hc3 hr
  exact ⟨u, u2, u3, rfl, hl, hl2, hl3⟩
theorem len1 {u : List U} (h : u.length = 1) : ∃ a, u = [a] := List.length_eq_one_iff.1 h
theorem len2 {u : List U} (h : u.length = 2) : ∃ a b, u = [a, b] := match u, h with | [a, b], _ => ⟨a, b, rfl⟩
theorem len5 {u : List U} (h : u.length = 5) : ∃ a b c d e, u = [a, b, c, d, e] := match u, h with | [a, b, c, d, e], _ => ⟨a, b, c, d, e, rfl⟩
theorem len7 {u : List U} (h : u.length = 7) : ∃ a b c d e f g, u = [a, b, c, d, e, f, g] := match u, h with | [a, b, c, d, e, f, g], _ => ⟨a, b, c, d, e, f, g, rfl⟩
theorem bi {b : Bool} {x y : Prop} (h1 : b = true → x) (h2 : b = false → y) : (bif b then x else y) := by
  cases b
  · exact h2 rfl
  · exact h1 rfl
theorem bt {b : Bool} {x y : Prop} (h : b = true) (hx : x) : (bif b then x else y) := by rw [h]; exact hx
theorem bf {b : Bool} {x y : Prop} (h : b = false) (hy : y) : (bif b then x else y) := by rw [h]; exact hy
theorem bd {p : Prop} [Decidable p] {x y : Prop} (h1 : p → x) (h2 : ¬ p → y) : (bif decide p then x else y) := by
  by_cases h : p
  · rw [decide_eq_true h]; exact h1 h
  · rw [decide_eq_false h]; exact h2 h
theorem dt {p : Prop} [Decidable p] {x y : Prop} (h : p) (hx : x) : (bif decide p then x else y) := by rw [decide_eq_true h]; exact hx
theorem df {p : Prop} [Decidable p] {x y : Prop} (h : ¬ p) (hy : y) : (bif decide p then x else y) := by rw [decide_eq_false h]; exact hy
theorem blt {a b : Nat} {x y : Prop} (h : a < b) (hx : x) : (bif Nat.blt a b then x else y) := bt (by simpa [Nat.blt_eq] using h) hx
theorem broom {p : Prop} [Decidable p] {c : Bool} {x y : Prop} (h : p) (hc : c = true) (hx : x) : (bif decide p && c then x else y) := bt (by simp [h, hc]) hx
theorem loops_one {C : Ctx} {code : Code} {c : Nat} {b : Code} (h : loopsOf code 0 = [(c, b)]) (hl : LoopOk C c b) : ∀ p ∈ loopsOf code 0, LoopOk C p.1 p.2 := by
  rw [h]; intro p hp
  have : p = (c, b) := by simpa using hp
  subst this; exact hl
theorem loops_two {C : Ctx} {code : Code} {c c' : Nat} {b b' : Code} (h : loopsOf code 0 = [(c, b), (c', b')]) (hl : LoopOk C c b) (hl' : LoopOk C c' b') : ∀ p ∈ loopsOf code 0, LoopOk C p.1 p.2 := by
  rw [h]; intro p hp
  rcases List.mem_cons.1 hp with hp | hp
  · subst hp; exact hl
  · have : p = (c', b') := by simpa using hp
    subst this; exact hl'
theorem loops_three {C : Ctx} {code : Code} {c c' c2 : Nat} {b b' b2 : Code} (h : loopsOf code 0 = [(c, b), (c', b'), (c2, b2)]) (hl : LoopOk C c b) (hl' : LoopOk C c' b') (hl2 : LoopOk C c2 b2) : ∀ p ∈ loopsOf code 0, LoopOk C p.1 p.2 := by
  rw [h]; intro p hp
  rcases List.mem_cons.1 hp with hp | hp
  · subst hp; exact hl
  rcases List.mem_cons.1 hp with hp | hp
  · subst hp; exact hl'
  · have : p = (c2, b2) := by simpa using hp
    subst this; exact hl2
theorem loops_none {C : Ctx} {code : Code} (h : loopsOf code 0 = []) : ∀ p ∈ loopsOf code 0, LoopOk C p.1 p.2 := by
  rw [h]; intro p hp; cases hp
structure Holds (p : Prop) : Prop where
  out : p
theorem Holds.eq {a b : Prop} (h : a = b) (hb : b) : Holds a := ⟨by rw [h]; exact hb⟩
theorem fn_okH {C : Ctx} (hC : C.Ok) {f : FuncId} {fn : Func} {us rs : List (List U)} (hf : C.P.funcs[f]? = some fn) (hck : fnCk fn = true) (hl : ∀ p ∈ loopsOf (bodyOf fn) 0, LoopOk C p.1 p.2) (hrun : okArgs C.P fn.params.toList us → Holds (run C fn us (· = rs))) : FnOk C.P f fn us rs :=
  fn_ok hC hf hck hl fun h => (hrun h).out
theorem fnT_okH {C : Ctx} (hC : C.Ok) {f : FuncId} {fn : Func} {F : Tr} (hf : C.P.funcs[f]? = some fn) (hck : fnCkT fn = true) (hl : ∀ p ∈ loopsOf (bodyOf fn) 0, LoopOk C p.1 p.2)
    (h : ∀ vs objs R, okS.okSs vs → (∀ id o, (id, o) ∈ objs → okO C.P o) → F vs objs R → Holds (runD C fn vs objs R)) : FnTr C.P f fn F :=
  (fnT_ok hC hf hck hl).weakenOk fun vs objs R h1 h2 h3 => (h vs objs R h1 h2 h3).out
theorem nt {b : Bool} (h : (!b) = true) : b = false := by simpa using h
theorem nf {b : Bool} (h : (!b) = false) : b = true := by simpa using h
theorem str_len (s : ByteArray) : s.data.toList.length = s.size := by rw [Array.length_toList]; rfl
theorem loopOk_of {C : Ctx} {c : Nat} {b : Code} {ts os : List Nat} {F : LoopF} (hF : C.loops c = some (ts, os, F)) (μ : Mu)
    (h : ∀ (pan : KP) (svs : List SV) (l : List Obj) (k : KE), okS.okSs svs → okOs C.P l → F pan svs l k → Holds (exec (C.panics pan) b c ⟨ts.zip svs, os.zip l⟩ (again C.P (C.lout c) (C.lout (c + 1048576)) pan ts os F μ (μ svs l) k))) : LoopOk C c b := by
  intro ts' os' F' h'
  rw [hF] at h'
  cases h'
  exact ⟨μ, fun pan svs l k _ _ h1 h2 h3 => (h pan svs l k h1 h2 h3).out⟩
end Go.Den

namespace Go.Den
open Go Go.RowKit Go.ChangeShapes Go.WideShapes Go.Deep
def offOk (P : Program) (ok : TypeId → Bool) (n : Nat) : Nat → List Field → Bool
  | _, [] => true
  | off, f :: fs => match cts P n f.type with
    | some (_, cs) => Nat.beq f.offset off && Nat.beq (P.cellsOf f.type) cs.length && ok f.type && offOk P ok n (off + cs.length) fs
    | none => false
def readOk (P : Program) : Nat → TypeId → Bool
  | 0, _ => false
  | n + 1, t => match P.underlying t with
    | some (.int _) => true
    | some .bool => true
    | some .string => true
    | some (.slice e) => match cts P n e with
      | some (_, cs) => Nat.beq (P.cellsOf e) cs.length && Nat.blt 0 cs.length && readOk P n e
      | none => false
    | some (.struct fs) => match fldCts (cts P n) fs.toList with
      | some cs => Nat.beq (P.cellsOf t) cs.length && offOk P (readOk P n) n 0 fs.toList
      | none => false
    | _ => false
theorem cts_false {P : Program} : ∀ {n : Nat} {t : TypeId} {cs : List Ct}, cts P n t = some (false, cs) → ∃ c, cs = [c]
  | 0, t, cs, h => by cases h
  | n + 1, t, cs, h => by
    unfold cts at h
    repeat' split at h
    all_goals first | (cases h; exact ⟨_, rfl⟩) | cases h
section
variable {H : Type} {enc : TypeId × Value → H} {P : Program} {w : World} {base : Nat} {sp : Nat → Bool} {held : Bool}
theorem RepL.cat {w : World} {Z : Nat → Prop} : ∀ {cs ds : List Ct} {v x : List Value} {us ys : List U}, RepL w Z cs v us → us.length = cs.length → RepL w Z ds x ys → RepL w Z (cs ++ ds) (v ++ x) (us ++ ys)
  | [], ds, v, x, us, ys, hv, hu, hx => by
    have hv : v = [] := hv
    have hu : us = [] := List.eq_nil_of_length_eq_zero hu
    subst hv hu
    exact hx
  | c :: cs, ds, v, x, [], ys, hv, hu, hx => by simp at hu
  | c :: cs, ds, v, x, u :: us, ys, hv, hu, hx => by
    obtain ⟨a, t, rfl, hr, ht⟩ := hv
    exact ⟨a, t ++ x, rfl, hr, RepL.cat (us := us) ht (by simpa using hu) hx⟩
theorem cell_lt {a : Addr} {v : Value} (h : w.cell? a = some v) : a.block < w.heap.size ∧ a = ⟨a.block, a.off, none⟩ := by
  unfold World.cell? at h
  split at h
  · rename_i c e fr hb
    split at h
    · cases h
    · rename_i hs
      refine ⟨(Array.getElem?_eq_some_iff.1 hb).1, ?_⟩
      obtain ⟨b, o, s⟩ := a
      cases s with
      | none => rfl
      | some x => simp at hs
  · cases h
theorem listOf {p : Nat → U → Prop} : ∀ (n : Nat), (∀ i, i < n → ∃ u, p i u) → ∃ L : List U, L.length = n ∧ ∀ i, i < n → p i (U.at L i)
  | 0, _ => ⟨[], rfl, fun i hi => by omega⟩
  | n + 1, h => by
    obtain ⟨L, hl, hp⟩ := listOf n fun i hi => h i (by omega)
    obtain ⟨u, hu⟩ := h n (by omega)
    refine ⟨L ++ [u], by simp [hl], fun i hi => ?_⟩
    by_cases hin : i < n
    · have := hp i hin
      rw [at_getElem _ _ (by omega)] at this
      rw [at_getElem _ _ (by simp; omega), List.getElem_append_left (by omega)]
      exact this
    · have : i = n := by omega
      subst this
      rw [at_getElem _ _ (by simp; omega), List.getElem_append_right (by omega)]
      simpa [hl] using hu
theorem flds_rep {n : Nat} {ok : TypeId → Bool} {vals : List Value} {Z : Nat → Prop}
    (ih : ∀ t m cs vs, cts P n t = some (m, cs) → ok t = true → (∃ fuel x, DataW.trod enc P w base sp held fuel t vs = some x) → ∃ us, us.length = cs.length ∧ RepL w Z cs vs us) :
    ∀ (fs : List Field) (off : Nat) (cs : List Ct), fldCts (cts P n) fs = some cs → offOk P ok n off fs = true → (∀ f ∈ fs, ∃ fuel x, DataW.trod enc P w base sp held fuel f.type ((vals.drop f.offset).take (P.cellsOf f.type)) = some x) →
      vals.length = off + cs.length → ∃ us, us.length = cs.length ∧ RepL w Z cs (vals.drop off) us
  | [], off, cs, h, _, _, hl => by
    simp only [fldCts, Option.some.injEq] at h
    subst h
    refine ⟨[], rfl, ?_⟩
    show vals.drop off = []
    rw [List.drop_of_length_le (by simp at hl; omega)]
  | f :: fs, off, cs, h, ho, ht, hl => by
    unfold fldCts at h
    unfold offOk at ho
    split at h
    · rename_i m c1 c2 h1 h2
      injection h with h
      subst h
      rw [h1] at ho
      simp only [Bool.and_eq_true] at ho
      obtain ⟨⟨⟨ho1, ho2⟩, ho3⟩, ho4⟩ := ho
      have ho1 := Nat.eq_of_beq_eq_true ho1
      have ho2 := Nat.eq_of_beq_eq_true ho2
      simp only [List.length_append] at hl
      obtain ⟨u1, g1, g2⟩ := ih _ _ _ _ h1 ho3 (ht f (List.mem_cons_self ..))
      obtain ⟨u2, g3, g4⟩ := flds_rep ih fs (off + c1.length) c2 h2 ho4 (fun f' hf' => ht f' (List.mem_cons_of_mem _ hf')) (by omega)
      refine ⟨u1 ++ u2, by simp [g1, g3], ?_⟩
      rw [ho1, ho2] at g2
      have := RepL.cat g2 g1 g4
      have hsp : (vals.drop off).take c1.length ++ vals.drop (off + c1.length) = vals.drop off := by
        rw [← List.drop_drop, List.take_append_drop]
      rw [hsp] at this
      exact this
    · cases h
theorem trod_rep : ∀ (n : Nat) (t : TypeId) (m : Bool) (cs : List Ct) (vals : List Value), cts P n t = some (m, cs) → readOk P n t = true → (∃ fuel x, DataW.trod enc P w base sp held fuel t vals = some x) →
    ∃ us, us.length = cs.length ∧ RepL w (fun b => b < w.heap.size) cs vals us
  | 0, _, _, _, _, h, _, _ => by cases h
  | n + 1, t, m, cs, vals, h, hr, ⟨fuel, x, hx⟩ => by
    unfold cts at h
    unfold readOk at hr
    split at h
    · rename_i k hu
      cases h
      obtain ⟨i, rfl, _, hw⟩ := DataW.trod_int hu hx
      exact ⟨[.i i], rfl, _, [], rfl, ⟨rfl, by simpa [Lit.wf] using hw⟩, rfl⟩
    · rename_i hu
      cases h
      obtain ⟨b, rfl, _⟩ := DataW.trod_bool hu hx
      exact ⟨[.b b], rfl, _, [], rfl, rfl, rfl⟩
    · rename_i hu
      cases h
      obtain ⟨s, rfl, _, hs⟩ := DataW.trod_string hu hx
      exact ⟨[.s s], rfl, _, [], rfl, ⟨rfl, hs⟩, rfl⟩
    · rename_i e hu
      rw [hu] at hr
      simp only at hr
      split at h
      · rename_i m' cs' hc
        cases h
        rw [hc] at hr
        simp only [Bool.and_eq_true] at hr
        obtain ⟨⟨hr1, hr2⟩, hr3⟩ := hr
        have hr1 := Nat.eq_of_beq_eq_true hr1
        have hr2 : 0 < cs'.length := by simpa [Nat.blt_eq] using hr2
        rcases open_slice hu hx with ⟨rfl, _⟩ | ⟨a, len, cap, mm, n', D, Pl, rfl, hb, hl, hm, hmm, _, hi⟩
        · exact ⟨[.l []], rfl, _, [], rfl, ⟨none, 0, rfl, Nat.le_refl _, Nat.zero_le _, fun k hk => absurd hk (by simp)⟩, rfl⟩
        · have hle : len ≤ mm := by rw [hmm]; split <;> omega
          have hA : 0 < len → a.block < w.heap.size ∧ a = ⟨a.block, a.off, none⟩ := fun hp => by
            obtain ⟨vs, h1, _⟩ := hi 0 (by omega)
            rw [hr1] at h1
            obtain ⟨_, h3, h4⟩ := World.cells?_some h1
            have hv := h4 0 hr2
            rw [List.getElem?_eq_getElem (by omega)] at hv
            have h0 : (a.add (0 * cs'.length)).add 0 = a := by simp [Addr.add]
            rw [h0] at hv
            exact cell_lt hv
          have hel : ∀ i, i < len → ∃ u, a = ⟨a.block, a.off, none⟩ ∧ a.block < w.heap.size ∧ RepCs w (fun b => b < w.heap.size) cs' a.block (a.off + i * cs'.length) (elemU m' u) := fun i hil => by
            obtain ⟨vs, h1, h2⟩ := hi i (by omega)
            rw [hr1] at h1
            obtain ⟨_, h3, h4⟩ := World.cells?_some h1
            obtain ⟨us, g1, g2⟩ := trod_rep n e m' cs' vs hc hr3 ⟨_, _, h2⟩
            obtain ⟨q1, ha⟩ := hA (by omega)
            refine ⟨ofElem m' us, ha, q1, ?_⟩
            have hE := RepL.elem (m := m') (fun hm0 => by subst hm0; exact cts_false hc) g2
            refine RepL.cells hE fun j v hj => ?_
            have hjl : j < vs.length := (List.getElem?_eq_some_iff.1 hj).1
            rw [← hj, ← h4 j (by omega)]
            congr 1
            obtain ⟨b, o, s⟩ := a
            cases ha
            by_cases hi0 : i * cs'.length = 0 <;> by_cases hj0 : j = 0 <;> simp [Addr.add, hi0, hj0, Nat.add_assoc]
          obtain ⟨L, hL, hp⟩ := listOf len hel
          refine ⟨[.l L], rfl, _, [], rfl, ⟨some a, cap, by rw [U.at]; simp [hL], by rw [U.at]; simpa [hL] using hl, hm, fun k hk => ?_⟩, rfl⟩
          obtain ⟨q1, q2, q3⟩ := hp k (by simpa [U.at, hL] using hk)
          exact ⟨a.block, a.off, by rw [← q1], q2, q3⟩
      · cases h
    · rename_i fs hu
      rw [hu] at hr
      simp only at hr
      split at h
      · rename_i cs' hc
        cases h
        rw [hc] at hr
        simp only [Bool.and_eq_true] at hr
        have hr1 := Nat.eq_of_beq_eq_true hr.1
        obtain ⟨xs, n', rfl, _, hlen, hxs, hf⟩ := DataW.trod_struct hu hx
        have := flds_rep (enc := enc) (base := base) (sp := sp) (held := held) (vals := vals) (fun t m cs vs a b c => trod_rep n t m cs vs a b c) fs.toList 0 _ hc hr.2 (fun f hfm => by
          obtain ⟨i, hi, hfi⟩ := List.mem_iff_getElem.1 hfm
          have hfi' : fs[i]? = some f := by
            rw [← hfi, ← Array.getElem?_toList, List.getElem?_eq_getElem hi]
          have := hf i f hfi'
          rw [List.getElem?_eq_getElem (by simp at hi; omega)] at this
          exact ⟨_, _, this⟩) (by omega)
        simpa using this
      · cases h
    · rename_i hu
      rename_i d _ _ _ _ _
      rw [hu] at hr
      split at hr <;> first | (rename_i hh; cases hh; simp_all) | cases hr
    · cases h
end
end Go.Den

namespace Go.Den
open Go Go.RowKit Go.ChangeShapes Go.WideShapes Go.Deep
section
variable {H : Type} {enc : TypeId × Value → H} {P : Program} {w : World} {base : Nat} {sp : Nat → Bool} {held : Bool}
theorem arg_rep {t : TypeId} {m : Bool} {cs : List Ct} {v : Value} {d : DataW H} {ps : List MemPlace} {r : Reach} {b0 : Nat} (hc : Cs P t = some (m, cs)) (hr : readOk P 8 t = true) (hv : Value.okWide P w r b0 t v) (h : DataW.Trod enc P w base sp held t v d ps) :
    ∃ us s, us.length = cs.length ∧ unflat P t us = some s ∧ RepSV w (fun b => b < w.heap.size) none_ s v := by
  obtain ⟨fuel, hx⟩ := h
  obtain ⟨us, hl, hR⟩ := trod_rep 8 t m cs _ hc hr ⟨_, _, hx⟩
  have hc' := hc
  unfold unflat
  rw [hc]
  have hone : ∀ {c : Ct}, cs = [c] → v.cells = #[v] → ∃ s, (match some (false, cs) with | some (true, cs) => some (SV.agg (vals cs us)) | some (false, [c]) => some (.val c (U.at us 0)) | _ => none) = some s ∧ RepSV w (fun b => b < w.heap.size) none_ s v := fun {c} hcs hvc => by
    subst hcs
    rw [hvc] at hR
    obtain ⟨x, l, he, hC, _⟩ := hR
    have he : v = x := by simp at he; exact he.1
    subst he
    exact ⟨_, rfl, hC⟩
  unfold cts at hc'
  split at hc'
  · rename_i k hu
    cases hc'
    obtain ⟨n, rfl⟩ := okWide_int hu hv
    obtain ⟨s, h1, h2⟩ := hone rfl rfl
    exact ⟨us, s, hl, h1, h2⟩
  · rename_i hu
    cases hc'
    obtain ⟨n, rfl⟩ := okWide_bool hu hv
    obtain ⟨s, h1, h2⟩ := hone rfl rfl
    exact ⟨us, s, hl, h1, h2⟩
  · rename_i hu
    cases hc'
    obtain ⟨n, rfl⟩ := okWide_string hu hv
    obtain ⟨s, h1, h2⟩ := hone rfl rfl
    exact ⟨us, s, hl, h1, h2⟩
  · rename_i e hu
    split at hc'
    · cases hc'
      obtain ⟨a, l, c, rfl⟩ := okWide_slice hu hv
      obtain ⟨s, h1, h2⟩ := hone rfl rfl
      exact ⟨us, s, hl, h1, h2⟩
    · cases hc'
  · rename_i fs hu
    split at hc'
    · cases hc'
      obtain ⟨vs, rfl, _⟩ := okWide_struct hu hv
      exact ⟨us, _, hl, rfl, vs, rfl, hR.vals⟩
    · cases hc'
  · rename_i hu1 hu2 hu3 hu4 hu5 hu
    unfold readOk at hr
    rw [hu] at hr
    split at hr <;> first | (rename_i hh; cases hh; simp_all) | cases hr
  · cases hc'
def argCk (P : Program) (t : TypeId) : Bool := P.readableRec t && decide (t < P.types.size) && readOk P 8 t && (Cs P t).isSome
def argsCk (P : Program) : List TypeId → Bool
  | [] => true
  | t :: ts => argCk P t && argsCk P ts
theorem argsD_rep : ∀ {ts : List TypeId} {vs : List Value} {ds : List (DataW H)} {ps : List MemPlace} {r : Reach} {b0 : Nat}, argsCk P ts = true → (∀ (j : Nat) t v, ts[j]? = some t → vs[j]? = some v → Value.okWide P w r b0 t v) → DataW.TrodAll enc P w base sp held ts vs ds ps →
    ds.length = ts.length ∧ ∃ us, shapeOk P ts us ∧ ArgsRep P w (fun b => b < w.heap.size) ts us vs
  | [], vs, ds, ps, _, _, _, _, h => by
    obtain ⟨rfl, rfl, _⟩ := trodAll_nil h
    exact ⟨rfl, [], rfl, [], rfl, rfl⟩
  | t :: ts, vs, ds, ps, r, b0, hck, hv, h => by
    obtain ⟨v0, vs0, d0, ds0, p0, q0, rfl, rfl, rfl, h0, r0⟩ := trodAll_cons h
    unfold argsCk at hck
    rw [Bool.and_eq_true] at hck
    have hck1 := hck.1
    unfold argCk at hck1
    simp only [Bool.and_eq_true] at hck1
    obtain ⟨⟨_, hck2⟩, hck3⟩ := hck1
    obtain ⟨⟨m, cs⟩, hcs⟩ := Option.isSome_iff_exists.1 hck3
    obtain ⟨u, s, h1, h2, h3⟩ := arg_rep hcs hck2 (hv 0 t v0 rfl rfl) h0
    obtain ⟨h4, us, h5, svs, h6, h7⟩ := argsD_rep hck.2 (fun j t v ht hv' => hv (j + 1) t v (by simpa using ht) (by simpa using hv')) r0
    refine ⟨by simp [h4], u :: us, ⟨u, us, m, cs, rfl, hcs, h1, h5⟩, s :: svs, ?_, v0, vs0, rfl, h3, h7⟩
    unfold unflats
    rw [h2, h6]
theorem args_stay (hl : laidOutB P = true) {W W' : World} (hb : Below W.heap.size W W') {sp' : Nat → Bool} : ∀ {ts : List TypeId} {vs : List Value} {ds : List (DataW H)} {ps : List MemPlace}, argsCk P ts = true →
    DataW.TrodAll enc P W 0 (fun _ => true) true ts vs ds ps → (∀ p ∈ ps, p.block < W.heap.size) → (∀ p ∈ ps, sp' p.block = true) → DataW.TrodAll enc P W' 0 sp' true ts vs ds ps
  | [], vs, ds, ps, _, h, _, _ => by
    obtain ⟨rfl, rfl, rfl⟩ := trodAll_nil h
    exact trodAll_mk0
  | t :: ts, vs, ds, ps, hck, h, hlt, hsp => by
    obtain ⟨v0, vs0, d0, ds0, p0, q0, rfl, rfl, rfl, h0, r0⟩ := trodAll_cons h
    unfold argsCk at hck
    rw [Bool.and_eq_true] at hck
    have hck1 := hck.1
    unfold argCk at hck1
    simp only [Bool.and_eq_true, decide_eq_true_eq] at hck1
    obtain ⟨⟨⟨hk1, hk2⟩, _⟩, _⟩ := hck1
    refine trodAll_cons_mk (WideElems.Trod_stays hl hk1 hk2 h0 (fun x hx => hb.same (hlt x (List.mem_append.2 (.inl hx)))) (fun x hx => hsp x (List.mem_append.2 (.inl hx)))) ?_
    exact args_stay hl hb hck.2 r0 (fun x hx => hlt x (List.mem_append.2 (.inr hx))) (fun x hx => hsp x (List.mem_append.2 (.inr hx)))
end
theorem law_calls {H : Type} {enc : TypeId × Value → H} {P : Program} {f : FuncId} {fn : Func} {s : ChangeSpec} {tb : TypeId} {apart handsOn : Bool} (hf : P.funcs[f]? = some fn) (hS : SpecF P f fun _ => [[.b true]]) (hrt : fn.resultTypes = #[tb]) (htb : P.underlying tb = some .bool)
    (hl : laidOutB P = true) (hck : argsCk P fn.params.toList = true) (hsv : s.vars = []) (hs : ∀ ds : List (DataW H), ds.length = fn.params.size → s.fn H ds = { results := [.lit (.bool true)], args := ds })
    {W : World} {base : Nat} {args : Array Value} {ds gs : List (DataW H)} {before : List MemPlace} (hval : ∀ (j : Nat) t v, fn.params[j]? = some t → args[j]? = some v → Value.okWide P W .any base t v)
    (hW : DataW.Whole enc P fn.params.toList s.vars apart W args.toList ds gs before) :
    Calls P f args W fun e W' => ∃ v, e = .returned v ∧ s.post enc P fn apart true handsOn false W args v W' := by
  have hlt := hW.lt
  have hW' := hW
  obtain ⟨p, q, hA, hV, rfl, _, _⟩ := hW
  rw [hsv] at hV
  obtain ⟨rfl, rfl⟩ := trodVars_none hV
  rw [List.append_nil] at hlt hW'
  obtain ⟨hlen, us, hsh, hrep⟩ := argsD_rep (enc := enc) hck (fun j t v ht hv => hval j t v (by simpa using ht) (by simpa using hv)) hA
  have hfn := hS fn us hf
  have hc := hfn.calls W (fun b => b < W.heap.size) args.toList (fun b hb => hb) hsh hrep
  rw [show args.toList.toArray = args by simp] at hc
  refine hc.mono fun e W' ⟨v, Z', he, hfut, _, _, _, svs, hsvs, hres⟩ => ⟨v, he, ?_⟩
  have hb : Below W.heap.size W W' := ⟨hfut.os, hfut.tape, hfut.output, hfut.size, fun k hk => hfut.block k hk (fun h => h)⟩
  have hcb : Cs P tb = some (false, [.bool]) := by simp [Cs, cts, htb]
  have hv : v = .bool true := by
    rw [hrt] at hsvs
    have : unflats P [tb] [[U.b true]] = some [.val .bool (.b true)] := by
      unfold unflats unflat
      rw [hcb]
      rfl
    have h2 : unflats P (#[tb] : Array TypeId).toList [[U.b true]] = some [.val .bool (.b true)] := this
    rw [h2] at hsvs
    cases hsvs
    exact hres
  subst hv
  have hsfn : s.fn H (ds ++ []) = { results := [.lit (.bool true)], args := ds } := by
    rw [List.append_nil]; exact hs ds (by rw [hlen]; simp)
  refine ⟨ds, [], p, [], p, [], hW', ?_, ?_, ?_, hb.frame _, fun h => by cases h⟩
  · rw [hsfn, hrt]
    exact trodAll_cons_mk (shut_bool htb true) trodAll_mk0
  · rw [hsfn]
    exact args_stay hl hb hck hA hlt fun x hx => by simpa using hlt x hx
  · rw [hsfn, hsv]
    exact rfl
end Go.Den

namespace Go.Den
open Go Go.RowKit
def afterHand (d : Nat) (m : List (Nat × Nat)) (σ : St) (kk : Out → St → Prop) (out : Out) (objs : Objs) : Prop :=
  forceM (backMap (swaps m) (d * 64 + 8) (keysO objs)) fun b =>
  bif nodupB (fsts b) && nodupB (snds b) && allEven (evenNames m ++ newNames (swaps m) b) then
    (St.mk (St.wipe ⟨σ.env, dropsO σ.objs m⟩ (evenNames m ++ newNames (swaps m) b)).env (layO (St.wipe ⟨σ.env, dropsO σ.objs m⟩ (evenNames m ++ newNames (swaps m) b)).objs (pickR objs b b))).force fun σ' =>
    kk (out.ren b) σ'
  else False
def handT (d : Nat) (F : Tr) (vs : List SV) (σ : St) (kk : Out → St → Prop) : Prop :=
  forceM (canonMap σ.objs 0 (reach σ.objs 400 (SV.hs.hss vs) [])) fun m =>
  bif nodupB (fsts m) && nodupB (snds m) && canonOk (pickR σ.objs m m) then forceSV.forceSVs (SV.ren.rens m vs) fun vs' => forceOs (pickR σ.objs m m) fun os' => F vs' os' (afterHand d m σ kk) else False
section
variable {C : Ctx} {Θ : Anc} {n : Nat} {σ : St} {a : Act} {w : World} {Z : Nat → Prop} {G : Nat → Value}
theorem RepOut.ren {w : World} {Z : Nat → Prop} {G G' : Nat → Value} {m : List (Nat × Nat)} (H : ∀ i j, lk m i = some j → G' j = G i) {out : Out} {e : Ending} (h : RepOut w Z G out e) : RepOut w Z G' (out.ren m) e := by
  cases out with
  | ret vs =>
    match vs, h with
    | [v], ⟨x, he, hx⟩ => exact ⟨x, he, RepSV.ren H _ _ hx⟩
    | [], ⟨x, he, hx⟩ => exact ⟨x, he, RepSV.ren H (.tup []) _ hx⟩
    | v :: v' :: vs, ⟨x, he, hx⟩ => exact ⟨x, he, RepSV.ren H (.tup (v :: v' :: vs)) _ hx⟩
  | pan s =>
    obtain ⟨x, he, hx⟩ := h
    exact ⟨x, he, RepSV.ren H _ _ hx⟩
theorem hand_sound {P : Program} (S : Sim P Θ n σ a w Z G) (hkb : Θ.kb = false) (hka : Θ.ka = false) {d : Nat} {F : Tr} {vs : List SV} {args : List Value} {kk : Out → St → Prop} (hvs : RepSVs w Z G vs args) (h : handT d F vs σ kk) :
    ∃ vs' os' R Gc, canonOk os' = true ∧ F vs' os' R ∧ RepSVs w Z Gc vs' args ∧ Stand P w Z Gc os' ∧
      ∀ e w', (∃ out objs' Z' G', R out objs' ∧ RepOut w' Z' G' out e ∧ After P w Z Gc os' w' Z' G' objs') → ∃ out σ' Z' G', kk out σ' ∧ Sim P Θ n σ' a w' Z' G' ∧ RepOut w' Z' G' out e := by
  unfold handT at h
  simp only [forceM_eq, forceSVs_eq, forceOs_eq] at h
  obtain ⟨hb, h⟩ := cond_only h
  simp only [Bool.and_eq_true] at hb
  obtain ⟨⟨hn1, hn2⟩, hcan⟩ := hb
  generalize hm : canonMap σ.objs 0 (reach σ.objs 400 (SV.hs.hss vs) []) = m at h hn1 hn2 hcan
  let Gc : Nat → Value := fun j => match lk (swaps m) j with | some i => G i | none => .pointer none
  have hGc : ∀ i j, lk m i = some j → Gc j = G i := fun i j hij => by show (match lk (swaps m) j with | some i => G i | none => .pointer none) = _; rw [lk_swaps hn2 hij]
  have hpk : ∀ j o', getO (pickR σ.objs m m) j = some o' → ∃ i p, lk m i = some j ∧ getO σ.objs i = some p ∧ o' = p.ren m ∧ Gc j = G i := fun j o' hj => by
    obtain ⟨i, p, h1, h2, h3⟩ := getO_pickR hj
    exact ⟨i, p, lk_of_mem hn1 h1, h2, h3, hGc i j (lk_of_mem hn1 h1)⟩
  have hst : Stand P w Z Gc (pickR σ.objs m m) :=
    { lt := S.lt
      flat := fun j => by
        show (match lk (swaps m) j with | some i => G i | none => Value.pointer none).oneCell' = true
        split
        · exact S.flat _
        · rfl
      obj := fun j o' hj => by
        obtain ⟨i, p, h1, h2, rfl, _⟩ := hpk j o' hj
        exact RepO.ren hGc h1 (S.obj i p h2)
      sep := fun j j' o1 o2 b hj hj' hb hb' => by
        obtain ⟨i, p, h1, h2, _, h3⟩ := hpk j o1 hj
        obtain ⟨i', p', h1', h2', _, h3'⟩ := hpk j' o2 hj'
        rw [h3] at hb
        rw [h3'] at hb'
        have := S.sep i i' p p' b h2 h2' hb hb'
        subst this
        rw [h1] at h1'
        exact Option.some.inj h1'
      free := fun j o' b hj hb => by
        obtain ⟨i, p, h1, h2, _, h3⟩ := hpk j o' hj
        rw [h3] at hb
        exact (S.free i p b h2 hb).1 }
  refine ⟨_, _, _, Gc, hcan, h, RepSVs.ren hGc _ _ hvs, hst, ?_⟩
  intro e w' ⟨out, objs', Z', G', hR, hout, A⟩
  unfold afterHand at hR
  simp only [force_eq, forceM_eq] at hR
  generalize hbm : backMap (swaps m) (d * 64 + 8) (keysO objs') = b at hR
  obtain ⟨hb, hR⟩ := cond_only hR
  simp only [Bool.and_eq_true] at hb
  obtain ⟨⟨hb1, hb2⟩, hev⟩ := hb
  have hbmem : ∀ c i, (c, i) ∈ b → lk (swaps m) c = some i ∨ (lk (swaps m) c = none ∧ i % 2 = 0) := fun c i hci => backMap_mem (by rw [hbm]; exact hci)
  let G2 : Nat → Value := fun id => match lk (swaps b) id with | some c => G' c | none => G id
  have hG2 : ∀ c i, lk b c = some i → G2 i = G' c := fun c i hci => by show (match lk (swaps b) i with | some c => G' c | none => G i) = _; rw [lk_swaps hb2 hci]
  have hmobj : ∀ i j, (i, j) ∈ m → ∃ p, getO σ.objs i = some p := fun i j hij => canonMap_obj (by rw [hm]; exact hij)
  have hsame : ∀ i, i ∉ evenNames m ++ newNames (swaps m) b → G2 i = G i := by
    intro i hi
    have hi1 : i ∉ evenNames m := fun hx => hi (List.mem_append.2 (.inl hx))
    have hi2 : i ∉ newNames (swaps m) b := fun hx => hi (List.mem_append.2 (.inr hx))
    show (match lk (swaps b) i with | some c => G' c | none => G i) = _
    split
    · rename_i c hc'
      have hci : (c, i) ∈ b := mem_swaps.1 (lk_mem hc')
      rcases hbmem c i hci with h1 | ⟨h1, _⟩
      · have him : (i, c) ∈ m := mem_swaps.1 (lk_mem h1)
        have hoc : c % 2 = 1 := by
          cases hod : oddB c with
          | true => exact Nat.eq_of_beq_eq_true hod
          | false => exact absurd (mem_evenNames him hod) hi1
        obtain ⟨p, hp'⟩ := hmobj i c him
        obtain ⟨p', hp''⟩ := getO_some_of_mem (pickR_mem (m := m) him hp')
        rw [A.keep c p' hp'' hoc, hGc i c (lk_of_mem hn1 him)]
      · exact absurd (mem_newNames hci h1) hi2
    · rfl
  have hflat : ∀ i, (G2 i).oneCell' = true := fun i => by
    show (match lk (swaps b) i with | some c => G' c | none => G i).oneCell' = true
    split
    · exact A.stand.flat _
    · exact S.flat _
  have hodd : ∀ i, i % 2 = 1 → G2 i = Θ.G0 i := fun i hi => by
    rw [hsame i (fun hm' => by have := allEven_mem hev hm'; omega)]
    exact S.odd i hi
  have S2 : Sim P Θ n ⟨σ.env, dropsO σ.objs m⟩ a w Z G := S.less (fun t => .inl rfl) (fun id o' ho' => (getO_dropsO ho').2)
  have S3 := Sim.wipe (evenNames m ++ newNames (swaps m) b) S2 hsame hflat hodd
  generalize hσ3 : St.wipe ⟨σ.env, dropsO σ.objs m⟩ (evenNames m ++ newNames (swaps m) b) = σ3 at S3 hR
  have hold : ∀ id o', getO σ3.objs id = some o' → id ∉ fsts m ∧ G2 id = G id ∧ ∃ p, getO σ.objs id = some p := by
    intro id o' hid
    rw [← hσ3] at hid
    obtain ⟨h1, p, h2⟩ := wipe_obj hid
    obtain ⟨h3, h4⟩ := getO_dropsO h2
    exact ⟨h3, hsame id h1, p, h4⟩
  have hB : ∀ c, Blocks Gc (pickR σ.objs m m) c → ∃ i j p, lk m i = some j ∧ getO σ.objs i = some p ∧ blk (G i) = some c := fun c ⟨j, o', hj, hbj⟩ => by
    obtain ⟨i, p, h1, h2, _, h3⟩ := hpk j o' hj
    rw [h3] at hbj
    exact ⟨i, j, p, h1, h2, hbj⟩
  have hBM : ∀ c, Blocks Gc (pickR σ.objs m m) c → (Θ.M c ∨ Θ.w.heap.size ≤ c) ∧ c < w.heap.size ∧ ¬ Z c := fun c hc' => by
    obtain ⟨i, j, p, h1, h2, h3⟩ := hB c hc'
    obtain ⟨h4, h5⟩ := S.free i p c h2 h3
    refine ⟨?_, RepO.lt S h2 h3, h4⟩
    rcases h5 with h5 | h5 | h5
    · exact .inl h5
    · have := S.keep i p c h2 h3 h5
      cases p <;> simp [Anc.keeps, hkb, hka] at this
    · exact .inr h5
  have hnot : ∀ id o' c, getO σ3.objs id = some o' → blk (G2 id) = some c → ¬ Blocks Gc (pickR σ.objs m m) c ∧ c < w.heap.size := by
    intro id o' c hid hbc
    obtain ⟨h1, h2, p, h3⟩ := hold id o' hid
    rw [h2] at hbc
    refine ⟨fun hc' => ?_, RepO.lt S h3 hbc⟩
    obtain ⟨i, j, q, h4, h5, h6⟩ := hB c hc'
    have := S.sep id i p q c h3 h5 hbc h6
    subst this
    exact h1 (mem_fsts (lk_mem h4))
  have S4 := S3.goes hBM (fun id o' c hid hbc => (hnot id o' c hid hbc).1) A.fut A.sub A.new A.stand.lt A.row
  have hL : ∀ id o', (id, o') ∈ pickR objs' b b → ∃ c p, lk b c = some id ∧ getO objs' c = some p ∧ o' = p.ren b ∧ G2 id = G' c := fun id o' hid => by
    obtain ⟨c, p, h1, h2, h3⟩ := mem_pickR hid
    exact ⟨c, p, lk_of_mem hb1 h1, h2, h3, hG2 c id (lk_of_mem hb1 h1)⟩
  have hown : ∀ c p d, getO objs' c = some p → blk (G' c) = some d → ¬ Z' d ∧ (Θ.M d ∨ Θ.w.heap.size ≤ d) := fun c p d hc' hbd => by
    refine ⟨A.stand.free c p d hc' hbd, ?_⟩
    rcases A.own c p d hc' hbd with h1 | h1
    · exact (hBM d h1).1
    · exact .inr (Nat.le_trans S.fut.size h1)
  have S5 : Sim P Θ n ⟨σ3.env, layO σ3.objs (pickR objs' b b)⟩ a w' Z' G2 := by
    refine S4.lay ?_ ?_ ?_ ?_ ?_
    · intro id o' hid
      obtain ⟨c, p, h1, h2, rfl, _⟩ := hL id o' hid
      exact RepO.ren hG2 h1 (A.stand.obj c p h2)
    · intro id o' d hid hbd
      obtain ⟨c, p, h1, h2, _, h3⟩ := hL id o' hid
      rw [h3] at hbd
      exact hown c p d h2 hbd
    · intro id o' d hid hbd hN
      obtain ⟨c, p, h1, h2, _, h3⟩ := hL id o' hid
      rw [h3] at hbd
      rcases A.own c p d h2 hbd with h4 | h4
      · obtain ⟨i, j, q, h5, h6, h7⟩ := hB d h4
        have := S.keep i q d h6 h7 hN
        cases q <;> simp [Anc.keeps, hkb, hka] at this
      · have h5 := S.nlt d hN
        have h6 := S.fut.size
        omega
    · intro id id' o1 o2 d hid hid' hbd hbd'
      obtain ⟨c, p, h1, h2, _, h3⟩ := hL id o1 hid
      obtain ⟨c', p', h1', h2', _, h3'⟩ := hL id' o2 hid'
      rw [h3] at hbd
      rw [h3'] at hbd'
      have := A.stand.sep c c' p p' d h2 h2' hbd hbd'
      subst this
      rw [h1] at h1'
      exact Option.some.inj h1'
    · intro id id' o1 o2 d hid hid' hbd hbd'
      obtain ⟨c, p, h1, h2, _, h3⟩ := hL id o1 hid
      rw [h3] at hbd
      obtain ⟨h4, h5⟩ := hnot id' o2 d hid' hbd'
      rcases A.own c p d h2 hbd with h6 | h6
      · exact h4 h6
      · omega
  exact ⟨_, _, Z', G2, hR, S5, hout.ren hG2⟩
end
structure FnDf (P : Program) (f : FuncId) (fn : Func) (F : Option TypeId → Tr) : Prop where
  body : fn.body.isNone = false
  name : (fn.name == "runtime.NumGoroutine") = false
  calm : ∀ (vs : List SV) (objs : Objs) (R : Out → Objs → Prop), canonOk objs = true → F none vs objs R → ∀ (w : World) (Z : Nat → Prop) (G : Nat → Value) (args : List Value), RepSVs w Z G vs args → Stand P w Z G objs →
    CallsD P f args.toArray .returning w fun e u' w' => u' = .returning ∧ ∃ out objs' Z' G', R out objs' ∧ RepOut w' Z' G' out e ∧ After P w Z G objs w' Z' G' objs'
  pans : ∀ (t : TypeId) (x : Value) (vs : List SV) (objs : Objs) (R : Out → Objs → Prop), canonOk objs = true → F (some t) vs objs R → ∀ (w : World) (Z : Nat → Prop) (G : Nat → Value) (args : List Value), RepSVs w Z G vs args → Stand P w Z G objs →
    CallsD P f args.toArray (.panicking [{ v := .iface t x, recovered := false }]) w fun e u' w' => u' = .panicking [{ v := .iface t x, recovered := true }] ∧ ∃ out objs' Z' G', R out objs' ∧ RepOut w' Z' G' out e ∧ After P w Z G objs w' Z' G' objs'
def recOf (fn : Func) : Option (Nat × Nat × TypeId × Code) := match bodyOf fn with
  | .seq (.region _ ops false) y => match ops.toList with
    | [o1, o2] => match o1.op, o1.guard, o1.dst, o2.op, o2.guard, o2.dst with
      | .call { callee := .builtin .recover, .. }, none, some t, .binOp .neq ty (.tmp t1) (.const .nilIface) _, none, some t2 =>
        bif Nat.beq t1 t && Nat.blt t fn.ntmps && Nat.blt t2 fn.ntmps then some (t, t2, ty, y) else none
      | _, _, _, _, _, _ => none
    | _ => none
  | _ => none
def runRec (C : Ctx) (fn : Func) (m : Option TypeId) : Tr := fun vs objs R =>
  bif Nat.beq vs.length (fn.params.size + fn.nfree) then
    match recOf fn with
    | some (t, t2, _, y) => exec (C.panics fun _ _ => False) y 0 ⟨(t2, .val .bool (.b m.isSome)) :: (t, .unk) :: argsT 0 vs, objs⟩ (endT C.P fn objs R)
    | none => False
  else False
theorem put_size {a : Act} {d : Option Nat} {v : Value} : (a.put d v).tmps.size = a.tmps.size := by
  cases d with
  | none => rfl
  | some t => simp [Act.put]
theorem put_same {a : Act} {t : Nat} {v : Value} (h : t < a.tmps.size) : (a.put (some t) v).eval (.tmp t) = v := by
  simp [Act.put, Act.eval, Array.getD_eq_getD_getElem?, h]
abbrev modeOf : Option (TypeId × Value) → FrameMode
  | none => .returning
  | some (t, x) => .panicking [{ v := .iface t x, recovered := false }]
abbrev modeTo : Option (TypeId × Value) → FrameMode
  | none => .returning
  | some (t, x) => .panicking [{ v := .iface t x, recovered := true }]
theorem recWalk {C : Ctx} (hC : C.Ok) {f : FuncId} {fn : Func} (hf : C.P.funcs[f]? = some fn) (hsz : fn.params.size + fn.nfree ≤ fn.ntmps) {t t2 : Nat} {ty : TypeId} {y : Code} (hrec : recOf fn = some (t, t2, ty, y)) (hok : codeOk fn.ntmps y = true) (hl : LoopsOk C y 0)
    (hty : C.P.underlying ty = some (.interface (C.P.methodsAt ty))) (m : Option (TypeId × Value)) {vs : List SV} {objs : Objs} {R : Out → Objs → Prop} (h : runRec C fn (m.map (·.1)) vs objs R) {w : World} {Z : Nat → Prop} {G : Nat → Value} {args : List Value}
    (hargs : RepSVs w Z G vs args) (hst : Stand C.P w Z G objs) :
    CallsD C.P f args.toArray (modeOf m) w fun e u' w' => u' = modeTo m ∧ ∃ out objs' Z' G', R out objs' ∧ RepOut w' Z' G' out e ∧ After C.P w Z G objs w' Z' G' objs' := by
  unfold runRec at h
  obtain ⟨hb, h⟩ := cond_only h
  rw [hrec] at h
  have hvl : vs.length = fn.params.size + fn.nfree := Nat.eq_of_beq_eq_true hb
  have hal : args.length = vs.length := hargs.length.symm
  unfold recOf at hrec
  split at hrec
  case h_2 => cases hrec
  rename_i id ops y' hbody0
  split at hrec
  case h_2 => cases hrec
  rename_i o1 o2 hops
  split at hrec
  case h_2 => cases hrec
  rename_i xs ats tt ty' t1 bt tt2 ho1 hg1 hd1 ho2 hg2 hd2
  obtain ⟨hb, hrec⟩ : (Nat.beq t1 tt && Nat.blt tt fn.ntmps && Nat.blt tt2 fn.ntmps) = true ∧ some (tt, tt2, ty', y') = some (t, t2, ty, y) := by
    cases hx : (Nat.beq t1 tt && Nat.blt tt fn.ntmps && Nat.blt tt2 fn.ntmps) with
    | true => rw [hx] at hrec; exact ⟨rfl, hrec⟩
    | false => rw [hx] at hrec; cases hrec
  cases hrec
  simp only [Bool.and_eq_true, Nat.blt_eq] at hb
  obtain ⟨⟨hb1, hb2⟩, hb3⟩ := hb
  have hb1 := Nat.eq_of_beq_eq_true hb1
  subst hb1
  have hbody : fn.body = some (.seq (.region id ops false) y) := by
    unfold bodyOf at hbody0
    split at hbody0
    · rename_i c hc; rw [hc, hbody0]
    · cases hbody0
  have hops' : ops = #[o1, o2] := by cases ops; simp_all
  subst hops'
  refine callsD_of_wpS hf hbody fun c₀ cs hu => ?_
  generalize ha : ({ tmps := args.toArray ++ Array.replicate (fn.ntmps - args.toArray.size) undef, defers := [] } : Act) = a
  have hsize : a.tmps.size = fn.ntmps := by rw [← ha]; simp only [Array.size_append, Array.size_replicate, List.size_toArray]; omega
  obtain ⟨rv, hrv⟩ : ∃ rv : Value, rv = (match m with | none => .nilIface | some (t, x) => .iface t x) := ⟨_, rfl⟩
  let cs1 : List Frame := { c₀ with mode := modeTo m } :: cs
  have S : Sim C.P ⟨w, Blocks G objs, fun _ => False, Z, false, false, G, []⟩ fn.ntmps ⟨argsT 0 vs, objs⟩ a w Z G :=
    { size := hsize
      calm := by rw [← ha]
      slot := fun t => by
        rcases argsT_get (vs := vs) (k := 0) (t := t) with h1 | ⟨_, s, h2, h3⟩
        · show RepSV w Z _ (get (argsT 0 vs) t) _
          rw [h1]; trivial
        · show RepSV w Z _ (get (argsT 0 vs) t) _
          simp only [Nat.sub_zero] at h2
          have ht : t < args.length := by have := (List.getElem?_eq_some_iff.1 h2).1; omega
          have hv : a.tmps.getD t undef = args[t] := by
            rw [← ha, Array.getD_eq_getD_getElem?, Array.getElem?_append_left (by simpa using ht)]
            simp [ht]
          rw [hv, h3]
          have := hargs.nth t args[t] (List.getElem?_eq_getElem ht)
          rwa [nth_getElem h2] at this
      obj := hst.obj
      sep := hst.sep
      free := fun id o b h1 h2 => ⟨hst.free id o b h1 h2, .inl ⟨id, o, h1, h2⟩⟩
      keep := fun id o b _ _ h => h.elim
      nlt := fun _ h => h.elim
      lt := hst.lt
      fut := Fut.refl _ w
      new := fun b hb => .inl hb
      sub := fun b hb => hb
      flat := hst.flat
      odd := fun _ _ => rfl
      row := fun _ hb => .inl hb }
  have S2 : Sim C.P ⟨w, Blocks G objs, fun _ => False, Z, false, false, G, []⟩ fn.ntmps ⟨(t2, .val .bool (.b (m.map (·.1)).isSome)) :: (t1, .unk) :: argsT 0 vs, objs⟩ ((a.put (some t1) rv).put (some t2) (.bool (m.map (·.1)).isSome)) w Z G := by
    have h1 := Sim.put (d := some t1) (v := rv) (s := .unk) S trivial (fun t h => by cases h; exact hb2)
    exact Sim.put (d := some t2) (v := .bool (m.map (·.1)).isSome) (s := .val .bool (.b (m.map (·.1)).isSome)) h1 (show RepSV w Z G (.val .bool (.b (m.map (·.1)).isSome)) (.bool (m.map (·.1)).isSome) from rfl) (fun t h => by cases h; exact hb3)
  refine wpS_seq (wpS_region ?_)
  have hrange : List.range (#[o1, o2] : Array Oper).size = [0, 1] := rfl
  rw [hrange]
  have hw1 : Region.wanted o1 (yielded #[o1, o2] a.tmps) = true := by simp [Region.wanted, hg1]
  have hr1 : (execOp a.eval o1).run C.P w = .ok .recover w := by simp [execOp, ho1, resolve, invoke, builtin]
  have hw2 : Region.wanted o2 (yielded #[o1, o2] (a.put (some t1) rv).tmps) = true := by simp [Region.wanted, hg2]
  have hr2 : (execOp (a.put (some t1) rv).eval o2).run C.P w = .ok (.value (.bool (m.map (·.1)).isSome)) w := by
    have h0 : (a.put (some t1) rv).eval (.tmp t1) = rv := put_same (by omega)
    have h1 : (a.put (some t1) rv).eval (.const .nilIface) = .nilIface := rfl
    simp only [execOp, ho2, h0, h1, Sem.run_bind]
    cases m with
    | none =>
      have hrv : rv = .nilIface := hrv
      subst hrv
      have hg : (eqGuard .neq ty (.tmp t1) (.const .nilIface) .nilIface .nilIface).run C.P w = .ok () w := rfl
      rw [hg]
      simp only [Result.andThen, run_neq_nil_nil w ty hty]
      rfl
    | some p =>
      obtain ⟨u, x⟩ := p
      have hrv : rv = .iface u x := hrv
      subst hrv
      have hg : (eqGuard .neq ty (.tmp t1) (.const .nilIface) (.iface u x) .nilIface).run C.P w = .ok () w := rfl
      rw [hg]
      simp only [Result.andThen, run_neq_held_nil w ty u x hty]
      rfl
  have hlast : wpOpsS C.P #[o1, o2] (Exit.thenS (y.wpS C.P (bodyPostS C.P fn c₀ cs fun e u' w' => u' = modeTo m ∧ ∃ out objs' Z' G', R out objs' ∧ RepOut w' Z' G' out e ∧ After C.P w Z G objs w' Z' G' objs')) (bodyPostS C.P fn c₀ cs fun e u' w' => u' = modeTo m ∧ ∃ out objs' Z' G', R out objs' ∧ RepOut w' Z' G' out e ∧ After C.P w Z G objs w' Z' G' objs')) [1] (a.put (some t1) rv) cs1 w := by
    have hi : (#[o1, o2] : Array Oper)[1]? = some o2 := rfl
    simp only [wpOpsS, hi, hw2, if_true, hr2, Oper.upon, hd2]
    show y.wpS C.P _ _ cs1 w
    refine wpS_of_wp (exec_sound (hC.panics fun _ _ => False) rfl rfl (fun _ h => h) y 0 hok (hl.panics _) S2 h ?_ (fun _ _ _ _ _ _ _ h _ _ => False.elim h) (fun _ c a w d v h => ?_))
    · intro e σ' a' w' Z' G' he S'
      have S' : Sim C.P _ _ _ _ _ _ _ := S'
      have hexit : toExit e = .normal ∨ toExit e = .ret := by
        cases e with
        | normal => exact .inl rfl
        | ret => exact .inr rfl
        | exit m => exact he.elim
      have hfin : ∃ rs, resVals C.P σ' fn.results.toList = some rs ∧ finT objs R (.ret rs) σ'.objs := by
        unfold endT at he
        split at he
        · exact he.elim
        · split at he
          · rename_i rs hrs; exact ⟨rs, hrs, he⟩
          · exact he.elim
      obtain ⟨rs, hrs, hfin⟩ := hfin
      obtain ⟨rv', hrun', hrr⟩ := resVals_rep S' hrs
      have hres : (results fn a'.tmps).run C.P w' = .ok (if h : rv'.toArray.size = 1 then rv'.toArray[0] else .tuple rv'.toArray) w' := by
        rw [results_of, Array.mapM_eq_mapM_toList]
        simp [hrun']
      have hout : RepOut w' Z' G' (.ret rs) (.returned (if h : rv'.toArray.size = 1 then rv'.toArray[0] else .tuple rv'.toArray)) := by
        match rs, hrr with
        | [s], hrr =>
          obtain ⟨v, t, rfl, hv, ht⟩ := hrr
          have ht : t = [] := ht
          subst ht
          exact ⟨_, rfl, hv⟩
        | [], hrr =>
          have hrr : rv' = [] := hrr
          subst hrr
          exact ⟨_, rfl, #[], rfl, rfl⟩
        | s :: s' :: rs, hrr =>
          have hl := hrr.length
          refine ⟨_, rfl, rv'.toArray, ?_, by simpa using hrr⟩
          rw [dif_neg]
          simp at hl ⊢
          omega
      have := finT_sound S' hst.flat hout hfin
      rcases hexit with h | h <;> (rw [h]; exact ⟨S'.calm, modeTo m, rfl, _, hres, rfl, this⟩)
    · exact ⟨by have := h.1; cases d <;> exact this, h.2⟩
  have hi : (#[o1, o2] : Array Oper)[0]? = some o1 := rfl
  rw [wpOpsS]
  simp only [hi, hw1, if_true, hr1, hd1]
  cases m with
  | none =>
    have hc : recoverD (c₀ :: cs) = none := by simp [recoverD, hu]
    have e1 : cs1 = c₀ :: cs := by show { c₀ with mode := FrameMode.returning } :: cs = _; rw [← show c₀.mode = FrameMode.returning from hu]
    have hrv : rv = .nilIface := hrv
    rw [e1, hrv] at hlast
    rw [hc]
    exact hlast
  | some p =>
    have hc : recoverD (c₀ :: cs) = some (rv, cs1) := by rw [show rv = .iface p.1 p.2 from hrv]; simp [recoverD, hu, cs1]
    rw [hc]
    exact hlast
theorem runRec_ok {C : Ctx} (hC : C.Ok) {f : FuncId} {fn : Func} (hf : C.P.funcs[f]? = some fn) (hname : (fn.name == "runtime.NumGoroutine") = false) (hsz : fn.params.size + fn.nfree ≤ fn.ntmps) {t t2 : Nat} {ty : TypeId} {y : Code} (hrec : recOf fn = some (t, t2, ty, y)) (hok : codeOk fn.ntmps y = true) (hl : LoopsOk C y 0)
    (hty : C.P.underlying ty = some (.interface (C.P.methodsAt ty))) : FnDf C.P f fn (runRec C fn) where
  body := by
    cases hb : fn.body with
    | some c => rfl
    | none => simp [recOf, bodyOf, hb] at hrec
  name := hname
  calm := fun vs objs R _ h w Z G args h1 h2 => recWalk hC hf hsz hrec hok hl hty none h h1 h2
  pans := fun t x vs objs R _ h w Z G args h1 h2 => recWalk hC hf hsz hrec hok hl hty (some (t, x)) h h1 h2
def deferOf (fn : Func) : Option (Code × Array Oper × Oper × Oper × Operand × Code) := match bodyOf fn with
  | .seq x (.seq (.region _ ops false) y) => match ops.toList with
    | [mf, df] => match df.op, df.guard, df.dst with
      | .defer { callee := .value cf, args := xs, .. }, none, none => bif xs.toList.isEmpty then some (x, ops, mf, df, cf, y) else none
      | _, _, _ => none
    | _ => none
  | _ => none
def oddsM : Objs → List (Nat × Nat)
  | [] => []
  | (i, .arr _ _) :: r => (i, i) :: oddsM r
  | (i, _) :: r => (i, bif oddB i then i else i + 1099511627777) :: oddsM r
def renE (m : List (Nat × Nat)) : List (Nat × SV) → List (Nat × SV)
  | [] => []
  | (t, v) :: r => (t, v.ren m) :: renE m r
def oddPs : List SV → Bool
  | [] => true
  | .ptr i _ :: r => oddB i && oddPs r
  | _ :: _ => false
def endG (P : Program) (fn : Func) (R : List (List U) → Prop) (out : Out) (σ : St) : Prop := match out with
  | .ret [] => finK P fn R .ret σ
  | _ => False
def doorG (C : Ctx) (fn : Func) (FD : Option TypeId → Tr) (caps : List SV) (R : List (List U) → Prop) (e : Ex) (σ : St) : Prop := match e with
  | .exit _ => False
  | _ => handT 0 (FD none) caps σ (endG C.P fn R)
def panG (C : Ctx) (fn : Func) (FD : Option TypeId → Tr) (caps : List SV) (R : List (List U) → Prop) (s : SV) (σ : St) : Prop := match s with
  | .ifc t _ => handT 0 (FD (some t)) caps σ (endG C.P fn R)
  | _ => False
def laidG (C : Ctx) (fn : Func) (g : FuncId) (FD : Option TypeId → Tr) (cf : Operand) (y : Code) (R : List (List U) → Prop) (σ : St) : Prop := match σ.ev cf with
  | .clo f caps => forceM (oddsM σ.objs) fun m =>
    bif Nat.beq f g && nodupB (fsts m) && nodupB (snds m) && oddPs (SV.ren.rens m caps) then
      forceSV.forceSVs (SV.ren.rens m caps) fun caps => (St.mk (renE m σ.env) (pickR σ.objs m m)).force fun σ => exec (C.panics (panG C fn FD caps R)) y 0 σ (doorG C fn FD caps R)
    else False
  | _ => False
def aheadG (C : Ctx) (fn : Func) (g : FuncId) (FD : Option TypeId → Tr) (ops : Array Oper) (mf : Oper) (cf : Operand) (y : Code) (R : List (List U) → Prop) (e : Ex) (σ : St) : Prop := match e with
  | .normal => execOps (C.panics fun _ _ => False) ops.toList [mf] σ (laidG C fn g FD cf y R)
  | _ => False
def runG (C : Ctx) (fn : Func) (g : FuncId) (FD : Option TypeId → Tr) (us : List (List U)) (R : List (List U) → Prop) : Prop := match args C.P 0 fn.params.toList us with
  | some env => match deferOf fn with
    | some (x, ops, mf, _, cf, y) => exec (C.panics fun _ _ => False) x 0 ⟨env, []⟩ (aheadG C fn g FD ops mf cf y R)
    | none => False
  | none => False
theorem get_renE (m : List (Nat × Nat)) : ∀ (l : List (Nat × SV)) (t : Nat), get (renE m l) t = (get l t).ren m
  | [], _ => rfl
  | (k, v) :: r, t => by
    show (bif Nat.beq k t then v.ren m else get (renE m r) t) = SV.ren m (bif Nat.beq k t then v else get r t)
    cases Nat.beq k t with
    | true => rfl
    | false => exact get_renE m r t
section
variable {P : Program} {Θ : Anc} {n : Nat} {σ : St} {a : Act} {w : World} {Z : Nat → Prop} {G : Nat → Value}
theorem oddPs_rep {w w' : World} {Z Z' : Nat → Prop} {G G' : Nat → Value} (H : ∀ i, i % 2 = 1 → G' i = G i) : ∀ {l : List SV} {vs : List Value}, oddPs l = true → RepSVs w Z G l vs → RepSVs w' Z' G' l vs
  | [], _, _, h => h
  | s :: r, _, ho, h => by
    obtain ⟨v, t, hv, hs, hr⟩ := h
    cases s with
    | ptr i off =>
      have ho' : (oddB i && oddPs r) = true := ho
      rw [Bool.and_eq_true] at ho'
      obtain ⟨b, h1, h2⟩ := hs
      exact ⟨v, t, hv, ⟨b, by rw [H i (Nat.eq_of_beq_eq_true ho'.1)]; exact h1, h2⟩, oddPs_rep H ho'.2 hr⟩
    | _ => cases ho
theorem Sim.rename (S : Sim P Θ n σ a w Z G) {m : List (Nat × Nat)} (h1 : nodupB (fsts m) = true) (h2 : nodupB (snds m) = true) {a' : Act} (ht : a'.tmps = a.tmps) :
    ∃ G', (∀ i j, lk m i = some j → G' j = G i) ∧ Sim P ⟨Θ.w, Θ.M, Θ.N, Θ.Z0, Θ.kb, Θ.ka, G', a'.defers⟩ n ⟨renE m σ.env, pickR σ.objs m m⟩ a' w Z G' := by
  let G' : Nat → Value := fun j => match lk (swaps m) j with | some i => G i | none => .pointer none
  have hG : ∀ i j, lk m i = some j → G' j = G i := fun i j hij => by show (match lk (swaps m) j with | some i => G i | none => .pointer none) = _; rw [lk_swaps h2 hij]
  have hpk : ∀ j o', getO (pickR σ.objs m m) j = some o' → ∃ i p, lk m i = some j ∧ getO σ.objs i = some p ∧ o' = p.ren m ∧ G' j = G i := fun j o' hj => by
    obtain ⟨i, p, h3, h4, h5⟩ := getO_pickR hj
    exact ⟨i, p, lk_of_mem h1 h3, h4, h5, hG i j (lk_of_mem h1 h3)⟩
  refine ⟨G', hG, ?_⟩
  exact
    { size := by rw [ht]; exact S.size
      calm := rfl
      slot := fun t => by
        show RepSV w Z G' (get (renE m σ.env) t) (a'.tmps.getD t undef)
        rw [get_renE, ht]
        exact RepSV.ren hG _ _ (S.slot t)
      obj := fun j o' hj => by
        obtain ⟨i, p, h3, h4, rfl, _⟩ := hpk j o' hj
        exact RepO.ren hG h3 (S.obj i p h4)
      sep := fun j j' o1 o2 b hj hj' hb hb' => by
        obtain ⟨i, p, g1, g2, _, g3⟩ := hpk j o1 hj
        obtain ⟨i', p', g1', g2', _, g3'⟩ := hpk j' o2 hj'
        rw [g3] at hb
        rw [g3'] at hb'
        have := S.sep i i' p p' b g2 g2' hb hb'
        subst this
        rw [g1] at g1'
        exact Option.some.inj g1'
      free := fun j o' b hj hb => by
        obtain ⟨i, p, g1, g2, _, g3⟩ := hpk j o' hj
        rw [g3] at hb
        exact S.free i p b g2 hb
      keep := fun j o' b hj hb hN => by
        obtain ⟨i, p, g1, g2, rfl, g3⟩ := hpk j o' hj
        rw [g3] at hb
        have := S.keep i p b g2 hb hN
        cases p <;> exact this
      nlt := S.nlt
      lt := S.lt
      fut := S.fut
      new := S.new
      sub := S.sub
      flat := fun j => by
        show (match lk (swaps m) j with | some i => G i | none => Value.pointer none).oneCell' = true
        split
        · exact S.flat _
        · rfl
      odd := fun _ _ => rfl
      row := S.row }
end
theorem fin_rep {C : Ctx} {fn : Func} {w w' : World} {Z Z' : Nat → Prop} {G0 G' : Nat → Value} {ds : List Deferred} {rs : List (List U)} {σ : St} {a : Act} {e : Ex}
    (S : Sim C.P ⟨w, fun _ => False, fun _ => False, Z, false, false, G0, ds⟩ fn.ntmps σ a w' Z' G') (he : finK C.P fn (· = rs) e σ) :
    ∃ v, (results fn a.tmps).run C.P w' = .ok v w' ∧ ∃ v' Z2, Ending.returned v = .returned v' ∧ Fut (fun _ => False) w w' ∧ (∀ b, Z b → Z2 b) ∧ (∀ b, Z2 b → Z b ∨ (w.heap.size ≤ b ∧ Plain w' b)) ∧ (∀ b, Z2 b → b < w'.heap.size) ∧
      ∃ svs, unflats C.P fn.resultTypes.toList rs = some svs ∧ RepRes w' Z2 svs v' := by
  have hfin : (match resVals C.P σ fn.results.toList with | some vs => flats C.P (toU C.P σ.objs) fn.resultTypes.toList vs | none => none) = some rs := by
    unfold finK at he
    split at he
    · rename_i rs' hrs'
      have he : rs' = rs := he
      subst he
      cases e with
      | normal => exact hrs'
      | ret => exact hrs'
      | exit m => cases hrs'
    · exact he.elim
  split at hfin
  · rename_i rvs hrv
    obtain ⟨rv, hrun', hrr⟩ := resVals_rep S hrv
    obtain ⟨svs', hu, hreps⟩ := flats_rep (Zc := fun b => Z' b ∨ Live σ G' b) (fun c s u v hu hs => toU_rep S hu hs) hfin hrr
    have hres : (results fn a.tmps).run C.P w' = .ok (if h : rv.toArray.size = 1 then rv.toArray[0] else .tuple rv.toArray) w' := by
      rw [results_of, Array.mapM_eq_mapM_toList]
      simp [hrun']
    refine ⟨_, hres, _, fun b => Z' b ∨ Live σ G' b, rfl, S.fut, fun b hb => .inl (S.sub b hb), ?_, ?_, svs', hu, ?_⟩
    · rintro b (hb | ⟨id, e, xs, h1, h2⟩)
      · rcases S.new b hb with h | h | h | h
        · exact .inl h
        · exact h.elim
        · exact h.elim
        · exact (S.row b hb).imp (fun h => h) fun h2 => ⟨h, h2⟩
      · rcases (S.free id _ b h1 h2).2 with h3 | h3
        · exact h3.elim
        · exact .inr ⟨h3.elim False.elim (fun h => h), arr_plain (S.obj id _ h1) h2⟩
    · rintro b (hb | ⟨id, e, xs, h1, h2⟩)
      · exact S.lt b hb
      · exact RepO.lt S h1 h2
    · unfold RepRes
      split
      · rename_i s
        obtain ⟨v, t, rfl, hv, ht⟩ := hreps
        have ht : t = [] := ht
        subst ht
        exact hv
      · rename_i hne
        have hl2 := hreps.length
        have h1 : ¬ rv.toArray.size = 1 := by
          intro h
          have h : rv.length = 1 := by simpa using h
          rw [h] at hl2
          obtain ⟨s, hs⟩ := List.length_eq_one_iff.1 hl2
          exact hne s hs
        rw [dif_neg h1]
        exact ⟨_, rfl, by simpa using hreps⟩
  · cases hfin
theorem runG_sound {C : Ctx} (hC : C.Ok) {f : FuncId} {fn : Func} {us rs : List (List U)} (hf : C.P.funcs[f]? = some fn) (hname : (fn.name == "runtime.NumGoroutine") = false) (hparams : fn.params.size ≤ fn.ntmps)
    {x y : Code} {ops : Array Oper} {mf df : Oper} {cf : Operand} (hdef : deferOf fn = some (x, ops, mf, df, cf, y)) (hokx : codeOk fn.ntmps x = true) (hoky : codeOk fn.ntmps y = true) (hokm : operOk fn.ntmps mf = true) (hdx : hasDraw x = false) (hdy : hasDraw y = false) (hlx : LoopsOk C x 0) (hly : LoopsOk C y 0)
    {g : FuncId} {gn : Func} {FD : Option TypeId → Tr} (hg : C.P.funcs[g]? = some gn) (hFD : FnDf C.P g gn FD) (hrun : okArgs C.P fn.params.toList us → runG C fn g FD us (· = rs)) : FnOk C.P f fn us rs := by
  have hdef0 := hdef
  unfold deferOf at hdef
  split at hdef
  case h_2 => cases hdef
  rename_i x0 rid ops0 y0 hbody0
  split at hdef
  case h_2 => cases hdef
  rename_i mf0 df0 hops
  split at hdef
  case h_2 => cases hdef
  rename_i cf0 xs ats hdo hdg hdd
  obtain ⟨hxs, hdef⟩ : xs.toList.isEmpty = true ∧ some (x0, ops0, mf0, df0, cf0, y0) = some (x, ops, mf, df, cf, y) := by
    cases hx : xs.toList.isEmpty with
    | true => rw [hx] at hdef; exact ⟨rfl, hdef⟩
    | false => rw [hx] at hdef; cases hdef
  cases hdef
  have hxs : xs = #[] := by cases xs; simp_all
  subst hxs
  have hbody : fn.body = some (.seq x (.seq (.region rid ops false) y)) := by
    unfold bodyOf at hbody0
    split at hbody0
    · rename_i c hc; rw [hc, hbody0]
    · cases hbody0
  have hops' : ops = #[mf, df] := by cases ops; simp_all
  subst hops'
  refine { body := by rw [hbody]; rfl, name := hname, calls := ?_ }
  intro w Z vs hZ hsh ⟨svs, hsvs, hrep⟩
  have hrun := hrun ⟨hsh, fun svs' h => by rw [hsvs] at h; cases h; exact hrep.ok⟩
  unfold runG at hrun
  split at hrun
  case h_2 => cases hrun
  rename_i env henv
  rw [hdef0] at hrun
  simp only at hrun
  obtain ⟨hl, hargs⟩ := args_rep (G := fun _ => .pointer none) hsvs henv hrep
  have hlen : vs.toArray.size = fn.params.size := by simpa using hl
  have S : Sim C.P ⟨w, fun _ => False, fun _ => False, Z, false, false, fun _ => .pointer none, []⟩ fn.ntmps ⟨env, []⟩ { tmps := vs.toArray ++ Array.replicate (fn.ntmps - vs.toArray.size) undef, defers := [] } w Z (fun _ => .pointer none) :=
    { size := by simp only [Array.size_append, Array.size_replicate, hlen]; omega
      calm := rfl
      slot := fun t => by
        rcases hargs t with h | ⟨v, _, h2, h3⟩
        · show RepSV w Z _ (get env t) _
          rw [h]; trivial
        · show RepSV w Z _ (get env t) _
          have ht : t < vs.length := by
            have := (List.getElem?_eq_some_iff.1 h2).1; omega
          have hv : (vs.toArray ++ Array.replicate (fn.ntmps - vs.toArray.size) undef).getD t undef = v := by
            rw [Array.getD_eq_getD_getElem?, Array.getElem?_append_left (by simpa using ht)]
            simp only [Nat.sub_zero] at h2
            simp [h2]
          rw [hv]
          exact h3
      obj := fun id o h => by cases h
      sep := fun id id' o o' b h => by cases h
      free := fun id o b h => by cases h
      keep := fun id o b h => by cases h
      nlt := fun _ h => h.elim
      lt := hZ
      fut := Fut.refl _ w
      new := fun b hb => .inl hb
      sub := fun b hb => hb
      flat := fun _ => rfl
      odd := fun _ _ => rfl
      row := fun _ hb => .inl hb }
  refine calls_of_wp_defers hf hbody (wp_seq (exec_sound (hC.panics fun _ _ => False) rfl rfl (fun _ h => h) x 0 hokx (hlx.panics _) S hrun ?_ (fun _ _ _ _ _ _ _ h _ _ => False.elim h) (fun h => by rw [hdx] at h; cases h)))
  intro e σ1 a1 w1 Z1 G1 he S1
  have S1 : Sim C.P _ _ _ _ _ _ _ := S1
  unfold aheadG at he
  split at he
  case h_2 => exact he.elim
  refine wp_seq (wp_region ?_)
  have hrange : List.range (#[mf, df] : Array Oper).size = [0, 1] := rfl
  rw [hrange, wpOps_cons]
  have hi : (#[mf, df] : Array Oper)[0]? = some mf := rfl
  refine one_sound (hC.panics fun _ _ => False) hi hokm (by simp [Anc.lets]) S1 he ?_ (fun _ _ _ _ _ _ h _ _ => False.elim h)
  intro σ2 a2 w2 Z2 G2 h2 S2
  have S2 : Sim C.P _ _ _ _ _ _ _ := S2
  have h2 : laidG C fn g FD cf y (· = rs) σ2 := h2
  unfold laidG at h2
  split at h2
  case h_2 => exact h2.elim
  rename_i f' caps hclo
  simp only [forceM_eq, forceSVs_eq, force_eq] at h2
  generalize oddsM σ2.objs = m at h2
  obtain ⟨hb, h3⟩ := cond_only h2
  simp only [Bool.and_eq_true] at hb
  obtain ⟨⟨⟨hb1, hb2⟩, hb3⟩, hb4⟩ := hb
  have hb1 := Nat.eq_of_beq_eq_true hb1
  subst hb1
  obtain ⟨cv, hcv, hcaps⟩ : ∃ vs, a2.eval cf = .func (.func f') #[] vs ∧ RepSVs w2 Z2 G2 caps vs.toList := by have := S2.ev cf; rw [hclo] at this; exact this
  let d : Deferred := { target := .fn (.func f') cv, args := #[] }
  have hi1 : (#[mf, df] : Array Oper)[1]? = some df := rfl
  have hw : Region.wanted df (yielded #[mf, df] a2.tmps) = true := by simp [Region.wanted, hdg]
  have hr : (execOp a2.eval df).run C.P w2 = .ok (.defer d) w2 := by simp [execOp, hdo, resolve, hcv, Deferred.ofValue, d]
  rw [wpOps_cons]
  simp only [wpOp, hi1, hw, if_true]
  refine .inl ?_
  unfold Oper.wp
  rw [hr]
  simp only [Oper.upon, hdd]
  show y.wp C.P _ _ w2
  have hds : a2.defers = [] := S2.calm
  obtain ⟨G3, hG3, S3⟩ := S2.rename (m := m) hb2 hb3 (a' := { a2 with defers := d :: a2.defers }) rfl
  have S3 : Sim C.P ⟨w, fun _ => False, fun _ => False, Z, false, false, G3, d :: a2.defers⟩ fn.ntmps ⟨renE m σ2.env, pickR σ2.objs m m⟩ ({ a2 with defers := d :: a2.defers }.put none undef) w2 Z2 G3 := S3
  have hcaps3 : RepSVs w2 Z2 G3 (SV.ren.rens m caps) cv.toList := RepSVs.ren hG3 _ _ hcaps
  have hn : ¬ gn.name = "runtime.NumGoroutine" := by simpa using hFD.name
  have hbn : ¬ gn.body = none := by intro e; have := hFD.body; rw [e] at this; cases this
  have hinv : ∀ w, (invoke d.target d.args).run C.P w = .ok (.enter f' cv) w := fun w => by simp [d, invoke, callFunc, hg, hn, hbn]
  have hcvl : cv.toList.toArray = cv := by simp
  refine exec_sound (hC.panics (panG C fn FD (SV.ren.rens m caps) (· = rs))) rfl rfl (fun _ h => h) y 0 hoky (hly.panics _) S3 h3 ?_ ?_ (fun h => by rw [hdy] at h; cases h)
  · intro e σ4 a4 w4 Z4 G4 he S4
    have S4 : Sim C.P _ _ _ _ _ _ _ := S4
    have hexit : (toExit e = .normal ∨ toExit e = .ret) ∧ handT 0 (FD none) (SV.ren.rens m caps) σ4 (endG C.P fn (· = rs)) := by
      cases e with
      | normal => exact ⟨.inl rfl, he⟩
      | ret => exact ⟨.inr rfl, he⟩
      | exit m => exact he.elim
    obtain ⟨hexit, hh⟩ := hexit
    have hcv4 : RepSVs w4 Z4 G4 (SV.ren.rens m caps) cv.toList := oddPs_rep (fun i hi => S4.odd i hi) hb4 hcaps3
    obtain ⟨vs', os', R', Gc, k1, k2, k3, k4, k5⟩ := hand_sound S4 rfl rfl hcv4 hh
    have hd4 : a4.defers = [d] := by have h := S4.calm; rw [hds] at h; exact h
    have hL : Leaves C.P fn a4.tmps (fun e w' => ∃ v Z', e = .returned v ∧ Fut (fun _ => False) w w' ∧ (∀ b, Z b → Z' b) ∧ (∀ b, Z' b → Z b ∨ (w.heap.size ≤ b ∧ Plain w' b)) ∧ (∀ b, Z' b → b < w'.heap.size) ∧ ∃ svs, unflats C.P fn.resultTypes.toList rs = some svs ∧ RepRes w' Z' svs v) a4.defers .returning w4 := by
      rw [hd4]
      refine ⟨(by intro h; cases h), _, _, f', cv, rfl, hinv w4, ?_⟩
      have hc := hFD.calm vs' os' R' k1 k2 w4 Z4 Gc cv.toList k3 k4
      rw [hcvl] at hc
      refine hc.mono ?_
      rintro e' u' w5 ⟨rfl, hex⟩
      obtain ⟨out, σ5, Z5, G5, h5, S5, hout⟩ := k5 e' w5 hex
      unfold endG at h5
      split at h5
      case h_2 => exact h5.elim
      obtain ⟨xv, rfl, hxv⟩ := hout
      exact fin_rep S5 h5
    rcases hexit with h | h <;> (rw [h]; exact hL)
  · intro s σ4 a4 w4 Z4 G4 v hp S4 hv
    have S4 : Sim C.P _ _ _ _ _ _ _ := S4
    have hp : panG C fn FD (SV.ren.rens m caps) (· = rs) s σ4 := hp
    unfold panG at hp
    split at hp
    case h_2 => exact hp.elim
    rename_i t sv _
    obtain ⟨xv, rfl, hxv⟩ := hv
    have hcv4 : RepSVs w4 Z4 G4 (SV.ren.rens m caps) cv.toList := oddPs_rep (fun i hi => S4.odd i hi) hb4 hcaps3
    obtain ⟨vs', os', R', Gc, k1, k2, k3, k4, k5⟩ := hand_sound S4 rfl rfl hcv4 hp
    have hd4 : a4.defers = [d] := by have h := S4.calm; rw [hds] at h; exact h
    show Leaves C.P fn a4.tmps _ a4.defers _ w4
    rw [hd4]
    refine ⟨(by intro h; cases h), _, _, f', cv, rfl, hinv w4, ?_⟩
    have hc := hFD.pans t xv vs' os' R' k1 k2 w4 Z4 Gc cv.toList k3 k4
    rw [hcvl] at hc
    refine hc.mono ?_
    rintro e' u' w5 ⟨rfl, hex⟩
    obtain ⟨out, σ5, Z5, G5, h5, S5, hout⟩ := k5 e' w5 hex
    unfold endG at h5
    split at h5
    case h_2 => exact h5.elim
    obtain ⟨xw, rfl, hxw⟩ := hout
    exact fin_rep S5 h5
def dfCk (fn : Func) : Bool := match deferOf fn with
  | some (x, _, mf, _, _, y) => !(fn.name == "runtime.NumGoroutine") && Nat.ble fn.params.size fn.ntmps && codeOk fn.ntmps x && codeOk fn.ntmps y && operOk fn.ntmps mf && !hasDraw x && !hasDraw y && (loopsOf x 0).isEmpty && (loopsOf y 0).isEmpty
  | none => false
def recCk (fn : Func) : Bool := match recOf fn with
  | some (_, _, _, y) => !(fn.name == "runtime.NumGoroutine") && Nat.ble (fn.params.size + fn.nfree) fn.ntmps && codeOk fn.ntmps y && (loopsOf y 0).isEmpty
  | none => false
def recTy (fn : Func) : TypeId := match recOf fn with
  | some (_, _, ty, _) => ty
  | none => 0
theorem loops_empty {C : Ctx} {y : Code} {c : Nat} (h : (loopsOf y c).isEmpty = true) : LoopsOk C y c :=
  loopsOk_of fun p hp => by rw [List.isEmpty_iff.1 h] at hp; cases hp
theorem rec_ok {C : Ctx} (hC : C.Ok) {f : FuncId} {fn : Func} (hf : C.P.funcs[f]? = some fn) (hck : recCk fn = true) (hty : C.P.underlying (recTy fn) = some (.interface (C.P.methodsAt (recTy fn)))) : FnDf C.P f fn (runRec C fn) := by
  unfold recCk at hck
  split at hck
  case h_2 => cases hck
  rename_i t t2 ty y hrec
  simp only [Bool.and_eq_true] at hck
  obtain ⟨⟨⟨h1, h2⟩, h3⟩, h4⟩ := hck
  unfold recTy at hty
  rw [hrec] at hty
  exact runRec_ok hC hf (by simpa using h1) (Nat.le_of_ble_eq_true h2) hrec h3 (loops_empty h4) hty
theorem fnG_ok {C : Ctx} (hC : C.Ok) {f : FuncId} {fn : Func} {us rs : List (List U)} (hf : C.P.funcs[f]? = some fn) (hck : dfCk fn = true) {g : FuncId} {gn : Func} {FD : Option TypeId → Tr} (hg : C.P.funcs[g]? = some gn) (hFD : FnDf C.P g gn FD)
    (hrun : okArgs C.P fn.params.toList us → Holds (runG C fn g FD us (· = rs))) : FnOk C.P f fn us rs := by
  unfold dfCk at hck
  split at hck
  case h_2 => cases hck
  rename_i x ops mf df cf y hdef
  simp only [Bool.and_eq_true, Bool.not_eq_true'] at hck
  obtain ⟨⟨⟨⟨⟨⟨⟨⟨h1, h2⟩, h3⟩, h4⟩, h5⟩, h6⟩, h7⟩, h8⟩, h9⟩ := hck
  exact runG_sound hC hf h1 (Nat.le_of_ble_eq_true h2) hdef h3 h4 h5 h6 h7 (loops_empty h8) (loops_empty h9) hg hFD fun h => (hrun h).out
end Go.Den

namespace Go.Den
open Go Go.RowKit
def RegIs (c : Code) (l : List (Option Nat × Op)) : Prop := ∃ id ops, c = .region id ops false ∧ ops.toList.map (fun o => (o.dst, o.op)) = l ∧ ops.toList.all (fun o => o.guard.isNone) = true
def wpL (P : Program) (Q : Exit → Act → World → Prop) : List (Option Nat × Op) → (Act → World → Prop) → Act → World → Prop
  | [], K, a, w => K a w
  | (d, op) :: r, K, a, w => ∀ o : Oper, o.dst = d → o.op = op → o.wp P a w (fun a' w' => wpL P Q r K a' w') Q
section
variable {P : Program} {a : Act} {w : World} {Q : Exit → Act → World → Prop}
theorem wp_regIs {c : Code} {l : List (Option Nat × Op)} (h : RegIs c l) (hl : wpL P Q l (fun a w => Q .normal a w) a w) : c.wp P Q a w := by
  obtain ⟨id, ops, rfl, rfl, hg⟩ := h
  refine wp_region ?_
  have key : ∀ (l : List Oper) (i : Nat) (a : Act) (w : World), ops.toList.drop i = l → (∀ o ∈ l, o.guard = none) → wpL P Q (l.map fun o => (o.dst, o.op)) (fun a w => Q .normal a w) a w → wpOps P ops Q (List.range' i l.length) a w := by
    intro l
    induction l with
    | nil => intro i a w _ _ h; exact h
    | cons o l ih =>
      intro i a w hd hgs h
      have hi : ops[i]? = some o := by
        rw [← Array.getElem?_toList]
        have := List.getElem?_drop (xs := ops.toList) (i := i) (j := 0)
        rw [hd] at this
        simpa using this.symm
      rw [List.length_cons, List.range'_succ, wpOps_cons]
      simp only [wpOp, hi]
      have hw : Region.wanted o (yielded ops a.tmps) = true := by simp [Region.wanted, hgs o (List.mem_cons_self ..)]
      rw [if_pos hw]
      have h : ∀ o' : Oper, o'.dst = o.dst → o'.op = o.op → o'.wp P a w (fun a' w' => wpL P Q (l.map fun o => (o.dst, o.op)) (fun a w => Q .normal a w) a' w') Q := h
      refine .inl ?_
      have h2 := h o rfl rfl
      have hext : (fun a' w' => wpL P Q (l.map fun o => (o.dst, o.op)) (fun a w => Q .normal a w) a' w') = (fun a' w' => wpL P Q (l.map fun o => (o.dst, o.op)) (fun a w => Q .normal a w) a' w') := rfl
      have hd' : ops.toList.drop (i + 1) = l := by rw [← List.tail_drop, hd]; rfl
      have hmono : ∀ (K K' : Act → World → Prop), (∀ a w, K a w → K' a w) → o.wp P a w K Q → o.wp P a w K' Q := by
        intro K K' hKK h
        unfold Oper.wp Oper.upon at h ⊢
        split <;> rename_i hr <;> simp only [hr] at h
        · exact hKK _ _ h
        · exact hKK _ _ h
        · exact hKK _ _ h
        · exact h.mono fun e w' he => by
            cases e with
            | returned v => exact hKK _ _ he
            | panicked c => exact he
            | outgrown => exact he
        · exact h.mono fun v w' he => hKK _ _ he
        · exact h
      exact hmono _ _ (fun a' w' h3 => ih (i + 1) a' w' hd' (fun o ho => hgs o (List.mem_cons_of_mem _ ho)) h3) h2
  have hall : ∀ o ∈ ops.toList, o.guard = none := fun o ho => by
    have := List.all_eq_true.1 hg o ho
    exact Option.isNone_iff_eq_none.1 this
  have := key ops.toList 0 a w (by simp) hall hl
  rw [List.range_eq_range']
  simpa using this
theorem ev_put {d t : Nat} {v : Value} (h : d < a.tmps.size) : (a.put (some d) v).eval (.tmp t) = if d = t then v else a.eval (.tmp t) := by
  by_cases e : d = t
  · subst e; rw [if_pos rfl]; exact put_same h
  · rw [if_neg e]
    simp [Act.put, Act.eval, Array.getD_eq_getD_getElem?, Array.getElem?_setIfInBounds_ne e]
theorem size_put {d : Option Nat} {v : Value} : (a.put d v).tmps.size = a.tmps.size := put_size
theorem defers_put {d : Option Nat} {v : Value} : (a.put d v).defers = a.defers := by cases d <;> rfl
end
structure Spoil (J : Nat → Prop) (w w' : World) : Prop where
  os : w'.os = w.os
  tape : w'.tape = w.tape
  output : w'.output = w.output
  size : w'.heap.size = w.heap.size
  block : ∀ k, ¬ J k → w'.heap[k]? = w.heap[k]?
  cell : ∀ p v, w.cell? p = some v → w'.cell? p = some v ∨ ∃ i j, v = .int .i64 i ∧ w'.cell? p = some (.int .i64 j)
  row : ∀ b, Plain w b → Plain w' b
theorem Spoil.refl (J : Nat → Prop) (w : World) : Spoil J w w := ⟨rfl, rfl, rfl, rfl, fun _ _ => rfl, fun _ _ h => .inl h, fun _ h => h⟩
theorem Spoil.trans {J : Nat → Prop} {a b c : World} (h : Spoil J a b) (k : Spoil J b c) : Spoil J a c :=
  ⟨k.os.trans h.os, k.tape.trans h.tape, k.output.trans h.output, k.size.trans h.size, fun i hi => (k.block i hi).trans (h.block i hi), fun p v hv => by
    rcases h.cell p v hv with h1 | ⟨i, j, rfl, h1⟩
    · exact k.cell p v h1
    · rcases k.cell p _ h1 with h2 | ⟨i', j', _, h2⟩
      · exact .inr ⟨i, j, rfl, h2⟩
      · exact .inr ⟨i, j', rfl, h2⟩, fun b hb => k.row b (h.row b hb)⟩
theorem Spoil.int {J : Nat → Prop} {w w' : World} (h : Spoil J w w') {p : Addr} {i : Int} (hc : w.cell? p = some (.int .i64 i)) : ∃ j, w'.cell? p = some (.int .i64 j) := by
  rcases h.cell p _ hc with h1 | ⟨_, j, _, h1⟩
  · exact ⟨i, h1⟩
  · exact ⟨j, h1⟩
theorem Spoil.same {J : Nat → Prop} {w w' : World} (h : Spoil J w w') {p : Addr} {v : Value} (hc : w.cell? p = some v) (hv : ∀ i, v ≠ .int .i64 i) : w'.cell? p = some v := by
  rcases h.cell p _ hc with h1 | ⟨i, _, e, _⟩
  · exact h1
  · exact absurd e (hv i)
theorem Spoil.store {P : Program} {J : Nat → Prop} {w : World} {t : TypeId} {b o : Nat} {i j : Int} (ht : sizeT P t = some 1) (hJ : J b) (hp : Plain w b) (hc : w.cell? ⟨b, o, none⟩ = some (.int .i64 i)) :
    ∃ w', (storeVar t ⟨b, o, none⟩ (.int .i64 j)).run P w = .ok () w' ∧ Spoil J w w' := by
  obtain ⟨c, ty, hb⟩ := hp
  have hlt : o < c.size := by
    rw [cell_of_row w b o c ty (0, 0) hb] at hc
    exact (Array.getElem?_eq_some_iff.1 hc).1
  have hrun := run_storeVar_block (P := P) (w := w) (t := t) (k := 1) (b := b) (o := o) (ty := ty) (cur := c) (v := .int .i64 j) ht rfl (fun u hu => by
    have : u = .int .i64 j := by simpa [Value.cells] using hu
    subst this; rfl) hb (by omega)
  refine ⟨_, hrun, ?_⟩
  have hcs : (Value.int .i64 j).cells.toList = [.int .i64 j] := rfl
  rw [hcs]
  obtain ⟨h1, h2, h3, h4⟩ := setCells_plain b [.int .i64 j] o w
  obtain ⟨cur', g1, g2, g3⟩ := setCells_block b ty [.int .i64 j] o w c hb (by simp; omega)
  have hother : ∀ k, k ≠ b → (w.setCells b o [.int .i64 j]).heap[k]? = w.heap[k]? := fun k hk => setCells_other b _ o w k hk
  refine ⟨h1, h2, h3, h4, fun k hk => hother k (fun e => hk (e ▸ hJ)), fun p v hv => ?_, fun b' hb' => ?_⟩
  · have hs : w.setCells b o [.int .i64 j] = w.setCell ⟨b, o, none⟩ (.int .i64 j) := rfl
    rw [hs]
    by_cases hpe : p = ⟨b, o, none⟩
    · subst hpe
      rw [hc] at hv
      cases hv
      exact .inr ⟨i, j, rfl, World.cell?_setCell_same _ _ _ hc⟩
    · refine .inl ?_
      rw [World.cell?_setCell_other _ _ _ _ (Ne.symm hpe)]
      exact hv
  · by_cases e : b' = b
    · subst e; exact ⟨cur', ty, g1⟩
    · exact hb'.of (hother b' e)
end Go.Den

namespace Go.Den
open Go Go.RowKit
def snoc : Code → Code → Code
  | .seq a b, r => .seq a (snoc b r)
  | c, r => .seq c r
section
variable {C : Ctx} {Θ : Anc} {n : Nat}
theorem exec_cut (hC : C.Ok) (hkb : Θ.kb = false) (hka : Θ.ka = false) (hN : ∀ b, ¬ Θ.N b) {rest : Code} {Q : Exit → Act → World → Prop} (hp : Pans C Θ n Q) (hQ : ∀ c a w d v, Q (.panic c) (a.put d v) w → Q (.panic c) a w) :
    ∀ (code : Code) (c : Nat) {σ : St} {a : Act} {w : World} {Z : Nat → Prop} {G : Nat → Value} {k : Ex → St → Prop}, codeOk n code = true → LoopsOk C code c → Sim C.P Θ n σ a w Z G →
    exec C code c σ k → (∀ e σ' a' w' Z' G', k e σ' → Sim C.P Θ n σ' a' w' Z' G' → Exit.then (rest.wp C.P Q) Q (toExit e) a' w') → (snoc code rest).wp C.P Q a w
  | .seq x y, c, σ, a, w, Z, G, k, hok, hl, S, h, hk => by
    unfold codeOk at hok
    split at hok
    · rename_i hx
      refine wp_seq (exec_sound hC hkb hka hN x c hx hl.1 S h ?_ hp (fun _ => hQ))
      intro e σ' a' w' Z' G' he S'
      cases e with
      | normal => exact exec_cut hC hkb hka hN hp hQ y c hok hl.2 S' he hk
      | ret => exact hk .ret _ _ _ _ _ he S'
      | exit m => exact hk (.exit m) _ _ _ _ _ he S'
    · cases hok
  | .cond x y z, c, σ, a, w, Z, G, k, hok, hl, S, h, hk => wp_seq (exec_sound hC hkb hka hN _ c hok hl S h hk hp (fun _ => hQ))
  | .region _ _ _, c, σ, a, w, Z, G, k, hok, hl, S, h, hk => wp_seq (exec_sound hC hkb hka hN _ c hok hl S h hk hp (fun _ => hQ))
  | .skip, c, σ, a, w, Z, G, k, hok, hl, S, h, hk => wp_seq (exec_sound hC hkb hka hN _ c hok hl S h hk hp (fun _ => hQ))
  | .ret, c, σ, a, w, Z, G, k, hok, hl, S, h, hk => wp_seq (exec_sound hC hkb hka hN _ c hok hl S h hk hp (fun _ => hQ))
  | .exit _, c, σ, a, w, Z, G, k, hok, hl, S, h, hk => wp_seq (exec_sound hC hkb hka hN _ c hok hl S h hk hp (fun _ => hQ))
  | .block _ _, c, σ, a, w, Z, G, k, hok, hl, S, h, hk => wp_seq (exec_sound hC hkb hka hN _ c hok hl S h hk hp (fun _ => hQ))
  | .loop _, c, σ, a, w, Z, G, k, hok, hl, S, h, hk => wp_seq (exec_sound hC hkb hka hN _ c hok hl S h hk hp (fun _ => hQ))
  | .rangeFunc _ _ _ _, c, σ, a, w, Z, G, k, hok, hl, S, h, hk => wp_seq (exec_sound hC hkb hka hN _ c hok hl S h hk hp (fun _ => hQ))
  | .scope _, c, σ, a, w, Z, G, k, hok, hl, S, h, hk => wp_seq (exec_sound hC hkb hka hN _ c hok hl S h hk hp (fun _ => hQ))
  | .label _, c, σ, a, w, Z, G, k, hok, hl, S, h, hk => wp_seq (exec_sound hC hkb hka hN _ c hok hl S h hk hp (fun _ => hQ))
  | .goto _, c, σ, a, w, Z, G, k, hok, hl, S, h, hk => wp_seq (exec_sound hC hkb hka hN _ c hok hl S h hk hp (fun _ => hQ))
  | .refuse _, c, σ, a, w, Z, G, k, hok, hl, S, h, hk => wp_seq (exec_sound hC hkb hka hN _ c hok hl S h hk hp (fun _ => hQ))
theorem execOps_lets (hC : C.Ok) {Q : Exit → Act → World → Prop} (hp : Pans C Θ n Q) {ops : Array Oper} {k : St → Prop} (hk : ∀ σ' a' w' Z' G', k σ' → Sim C.P Θ n σ' a' w' Z' G' → Q .normal a' w') :
    ∀ (l : List Oper) (i : Nat) {σ : St} {a : Act} {w : World} {Z : Nat → Prop} {G : Nat → Value}, ops.toList.drop i = l → opersOk n l = true → (l.all fun o => Θ.lets C o) = true → Sim C.P Θ n σ a w Z G → execOps C ops.toList l σ k →
      wpOps C.P ops Q (List.range' i l.length) a w
  | [], i, σ, a, w, Z, G, _, _, _, S, h => hk _ _ _ _ _ h S
  | o :: l, i, σ, a, w, Z, G, hl, hok, hT, S, h => by
    unfold opersOk at hok
    rw [List.all_cons, Bool.and_eq_true] at hT
    split at hok
    · rename_i hoo
      have hi : ops[i]? = some o := by
        rw [← Array.getElem?_toList]
        have := List.getElem?_drop (xs := ops.toList) (i := i) (j := 0)
        rw [hl] at this
        simpa using this.symm
      rw [List.length_cons, List.range'_succ, wpOps_cons]
      refine one_sound hC hi hoo hT.1 S h (fun σ' a' w' Z' G' h' S' => execOps_lets hC hp hk l (i + 1) ?_ hok hT.2 S' h') (fun s σ' w' Z' G' v h' S' hr => hp s σ' _ w' Z' G' v h' S' hr)
      rw [← List.tail_drop, hl]
      rfl
    · cases hok
theorem region_lets (hC : C.Ok) {Q : Exit → Act → World → Prop} (hp : Pans C Θ n Q) {c : Code} (hreg : ∃ id ops, c = .region id ops false ∧ (ops.toList.all fun o => Θ.lets C o) = true) {k : St → Prop} (hk : ∀ σ' a' w' Z' G', k σ' → Sim C.P Θ n σ' a' w' Z' G' → Q .normal a' w')
    {σ : St} {a : Act} {w : World} {Z : Nat → Prop} {G : Nat → Value} (hok : codeOk n c = true) (S : Sim C.P Θ n σ a w Z G) (h : exec C c 0 σ (fun e σ' => e = .normal → k σ')) : c.wp C.P Q a w := by
  obtain ⟨id, ops, rfl, hT⟩ := hreg
  refine wp_region ?_
  have hok : opersOk n ops.toList = true := by unfold codeOk at hok; simpa using hok
  have := execOps_lets hC hp (ops := ops) (k := k) hk ops.toList 0 (by simp) hok hT S (by unfold exec at h; simpa using h)
  rw [List.range_eq_range']
  simpa using this
end
theorem exec_soundH {C : Ctx} {Θ : Anc} {n : Nat} (hC : C.Ok) (hkb : Θ.kb = false) (hka : Θ.ka = false) (hN : ∀ b, ¬ Θ.N b) {code : Code} {Q : Exit → Act → World → Prop} (hp : Pans C Θ n Q) (hQ : ∀ c a w d v, Q (.panic c) (a.put d v) w → Q (.panic c) a w) {σ : St} {a : Act} {w : World} {Z : Nat → Prop} {G : Nat → Value}
    (hok : codeOk n code = true) (hl : loopsOf code 0 = []) (S : Sim C.P Θ n σ a w Z G) {k : Ex → St → Prop} (h : Holds (exec C code 0 σ k)) (hk : ∀ e σ' a' w' Z' G', k e σ' → Sim C.P Θ n σ' a' w' Z' G' → Q (toExit e) a' w') : code.wp C.P Q a w :=
  exec_sound hC hkb hka hN code 0 hok (loopsOk_of fun p hp => by rw [hl] at hp; cases hp) S h.out hk hp (fun _ => hQ)
theorem exec_cutH {C : Ctx} {Θ : Anc} {n : Nat} (hC : C.Ok) (hkb : Θ.kb = false) (hka : Θ.ka = false) (hN : ∀ b, ¬ Θ.N b) {code rest : Code} {Q : Exit → Act → World → Prop} (hp : Pans C Θ n Q) (hQ : ∀ c a w d v, Q (.panic c) (a.put d v) w → Q (.panic c) a w) {σ : St} {a : Act} {w : World} {Z : Nat → Prop} {G : Nat → Value}
    (hok : codeOk n code = true) (hl : loopsOf code 0 = []) (S : Sim C.P Θ n σ a w Z G) {k : Ex → St → Prop} (h : Holds (exec C code 0 σ k)) (hk : ∀ e σ' a' w' Z' G', k e σ' → Sim C.P Θ n σ' a' w' Z' G' → Exit.then (rest.wp C.P Q) Q (toExit e) a' w') : (snoc code rest).wp C.P Q a w :=
  exec_cut hC hkb hka hN hp hQ code 0 hok (loopsOk_of fun p hp => by rw [hl] at hp; cases hp) S h.out hk
theorem region_letsH {C : Ctx} {Θ : Anc} {n : Nat} (hC : C.Ok) {Q : Exit → Act → World → Prop} (hp : Pans C Θ n Q) {code : Code} (hreg : ∃ id ops, code = .region id ops false ∧ (ops.toList.all fun o => Θ.lets C o) = true) {k : St → Prop} (hk : ∀ σ' a' w' Z' G', k σ' → Sim C.P Θ n σ' a' w' Z' G' → Q .normal a' w')
    {σ : St} {a : Act} {w : World} {Z : Nat → Prop} {G : Nat → Value} (hok : codeOk n code = true) (S : Sim C.P Θ n σ a w Z G) (h : Holds (exec C code 0 σ (fun e σ' => e = .normal → k σ'))) : code.wp C.P Q a w := region_lets hC hp hreg hk hok S h.out
def Ends (P : Program) (fn : Func) (rs : List (List U)) (w : World) (Z : Nat → Prop) : Ending → World → Prop := fun e w' =>
  ∃ v Z', e = .returned v ∧ Fut (fun _ => False) w w' ∧ (∀ b, Z b → Z' b) ∧ (∀ b, Z' b → Z b ∨ (w.heap.size ≤ b ∧ Plain w' b)) ∧ (∀ b, Z' b → b < w'.heap.size) ∧
      ∃ svs, unflats P fn.resultTypes.toList rs = some svs ∧ RepRes w' Z' svs v
theorem fn_walk {P : Program} {f : FuncId} {fn : Func} {code : Code} {us rs : List (List U)} (hf : P.funcs[f]? = some fn) (hbody : fn.body = some code) (hname : (fn.name == "runtime.NumGoroutine") = false) (hparams : fn.params.size ≤ fn.ntmps)
    (h : okArgs P fn.params.toList us → ∃ env, args P 0 fn.params.toList us = some env ∧ ∀ a w Z, (∀ b, Z b → b < w.heap.size) → Sim P ⟨w, fun _ => False, fun _ => False, Z, false, false, fun _ => .pointer none, []⟩ fn.ntmps ⟨env, []⟩ a w Z (fun _ => .pointer none) →
      code.wp P (bodyPost P fn (Ends P fn rs w Z)) a w) : FnOk P f fn us rs where
  body := by rw [hbody]; rfl
  name := hname
  calls := by
    intro w Z vs hZ hsh ⟨svs, hsvs, hrep⟩
    obtain ⟨env, henv, h⟩ := h ⟨hsh, fun svs' h => by rw [hsvs] at h; cases h; exact hrep.ok⟩
    obtain ⟨hl, hargs⟩ := args_rep (G := fun _ => .pointer none) hsvs henv hrep
    have hlen : vs.toArray.size = fn.params.size := by simpa using hl
    refine calls_of_wp hf hbody (h _ w Z hZ ?_)
    exact
      { size := by simp only [Array.size_append, Array.size_replicate, hlen]; omega
        calm := rfl
        slot := fun t => by
          rcases hargs t with h | ⟨v, _, h2, h3⟩
          · show RepSV w Z _ (get env t) _
            rw [h]; trivial
          · show RepSV w Z _ (get env t) _
            have ht : t < vs.length := by
              have := (List.getElem?_eq_some_iff.1 h2).1; omega
            have hv : (vs.toArray ++ Array.replicate (fn.ntmps - vs.toArray.size) undef).getD t undef = v := by
              rw [Array.getD_eq_getD_getElem?, Array.getElem?_append_left (by simpa using ht)]
              simp only [Nat.sub_zero] at h2
              simp [h2]
            rw [hv]
            exact h3
        obj := fun id o h => by cases h
        sep := fun id id' o o' b h => by cases h
        free := fun id o b h => by cases h
        keep := fun id o b h => by cases h
        nlt := fun _ h => h.elim
        lt := hZ
        fut := Fut.refl _ w
        new := fun b hb => .inl hb
        sub := fun b hb => hb
        flat := fun _ => rfl
        odd := fun _ _ => rfl
        row := fun _ hb => .inl hb }
theorem ends_bool {P : Program} {fn : Func} {t : Nat} {u : Bool} {w w' : World} {Z : Nat → Prop} {a : Act} (hr : ∀ a : Act, (results fn a.tmps).run P w' = .ok (a.tmps.getD t undef) w') (hty : unflats P fn.resultTypes.toList [[.b u]] = some [.val .bool (.b u)])
    (hd : a.defers = []) (hv : a.tmps.getD t undef = .bool u) (hf : Fut (fun _ => False) w w') (hZ : ∀ b, Z b → b < w.heap.size) : bodyPost P fn (Ends P fn [[.b u]] w Z) .ret a w' :=
  ⟨hd, _, hr a, by
    rw [hv]
    exact ⟨_, Z, rfl, hf, fun _ h => h, fun _ h => .inl h, fun b h => Nat.lt_of_lt_of_le (hZ b h) hf.size, _, hty, rfl⟩⟩
theorem wp_for {P : Program} {id t : Nat} {C B S : Code} {c : Operand} {Q : Exit → Act → World → Prop} {a : Act} {w : World} (I : Nat → Act → World → Prop) (N : Nat) (hI : ∀ j a w, I j a w → a.eval (.tmp t) = .int .i64 j) {j0 : Nat} (hj0 : j0 ≤ N) (h0 : I j0 a w)
    (hC : ∀ j a w, j ≤ N → I j a w → C.wp P (fun e a w => e = .normal ∧ a.eval c = .bool (decide (j < N)) ∧ I j a w) a w)
    (hB : ∀ j a w, j < N → I j a w → B.wp P (fun e a w => e = .normal ∧ I j a w) a w)
    (hS : ∀ j a w, j < N → I j a w → S.wp P (fun e a w => e = .normal ∧ I (j + 1) a w) a w)
    (hQ : ∀ j a w, I j a w → Q .normal a w) : (Code.block id (.loop (.seq (.seq C (.cond c .skip (.exit id))) (.seq B S)))).wp P Q a w := by
  refine wp_block (wp_loop (fun a w => ∃ j, j ≤ N ∧ I j a w) (fun a _ => N - (match a.eval (.tmp t) with | .int _ i => i.toNat | _ => 0)) ⟨j0, hj0, h0⟩ ?_)
  rintro a w ⟨j, hj, hIj⟩
  refine wp_seq (wp_seq (wp_mono (hC j a w hj hIj) ?_))
  rintro e a1 w1 ⟨rfl, hc, h1⟩
  refine wp_cond_split hc (fun hlt => wp_skip ?_) (fun hlt => wp_exit ?_)
  · have hlt : j < N := of_decide_eq_true hlt
    refine wp_seq (wp_mono (hB j a1 w1 hlt h1) ?_)
    rintro e a2 w2 ⟨rfl, h2⟩
    refine wp_mono (hS j a2 w2 hlt h2) ?_
    rintro e a3 w3 ⟨rfl, h3⟩
    refine ⟨⟨j + 1, hlt, h3⟩, ?_⟩
    show N - _ < N - _
    rw [hI _ _ _ h3, hI _ _ _ hIj]
    show N - ((j + 1 : Nat) : Int).toNat < N - (j : Int).toNat
    omega
  · show if id = id then Q .normal a1 w1 else Q (.exit id) a1 w1
    rw [if_pos rfl]
    exact hQ j a1 w1 h1
def IntRow (w : World) (J : Nat → Prop) (sz : Nat) (n : Nat) (v : Value) : Prop := ∃ A c, v = .slice A n c ∧ n ≤ maxLen ∧ ∀ k, k < n → ∃ b o, A = some ⟨b, o, none⟩ ∧ J b ∧ Plain w b ∧ ∃ i, w.cell? ⟨b, o + k * sz, none⟩ = some (.int .i64 i)
def IntRows (w : World) (J : Nat → Prop) (sz : Nat) (n : Nat) (v : Value) : Prop := ∃ A c, v = .slice A n c ∧ n ≤ maxLen ∧ ∀ k, k < n → ∃ b o, A = some ⟨b, o, none⟩ ∧ ∃ m u, w.cell? ⟨b, o + k * 1, none⟩ = some u ∧ IntRow w J sz m u
theorem IntRow.spoil {J : Nat → Prop} {w w' : World} (s : Spoil J w w') {sz n : Nat} {v : Value} (h : IntRow w J sz n v) : IntRow w' J sz n v := by
  obtain ⟨A, c, h1, h2, h3⟩ := h
  refine ⟨A, c, h1, h2, fun k hk => ?_⟩
  obtain ⟨b, o, g1, g2, g3, i, g4⟩ := h3 k hk
  exact ⟨b, o, g1, g2, s.row b g3, s.int g4⟩
theorem IntRow.ne {J : Nat → Prop} {w : World} {sz n : Nat} {v : Value} (h : IntRow w J sz n v) : ∀ i, v ≠ .int .i64 i := by
  obtain ⟨A, c, rfl, _⟩ := h
  intro i e
  cases e
theorem IntRows.spoil {J : Nat → Prop} {w w' : World} (s : Spoil J w w') {sz n : Nat} {v : Value} (h : IntRows w J sz n v) : IntRows w' J sz n v := by
  obtain ⟨A, c, h1, h2, h3⟩ := h
  refine ⟨A, c, h1, h2, fun k hk => ?_⟩
  obtain ⟨b, o, g1, m, u, g2, g3⟩ := h3 k hk
  exact ⟨b, o, g1, m, u, s.same g2 g3.ne, g3.spoil s⟩
theorem intRow_of {w : World} {J : Nat → Prop} {m : Bool} {cs : List Ct} {v : Value} {u : U} (hJ : ∀ b, J b → Plain w b) (h : RepC w J (.sl m (.int .i64 :: cs)) v u) : IntRow w J (cs.length + 1) u.list.length v := by
  obtain ⟨A, c, h1, h2, h3, h4⟩ := h
  refine ⟨A, c, h1, by omega, fun k hk => ?_⟩
  obtain ⟨b, o, g1, g2, ⟨x, g3, g4⟩, _⟩ := h4 k hk
  exact ⟨b, o, g1, g2, hJ b g2, _, by rw [← g4.1]; exact g3⟩
theorem intRows_of {w : World} {J : Nat → Prop} {m m2 : Bool} {cs : List Ct} {v : Value} {u : U} (hJ : ∀ b, J b → Plain w b) (h : RepC w J (.sl m [.sl m2 (.int .i64 :: cs)]) v u) : IntRows w J (cs.length + 1) u.list.length v := by
  obtain ⟨A, c, h1, h2, h3, h4⟩ := h
  refine ⟨A, c, h1, by omega, fun k hk => ?_⟩
  obtain ⟨b, o, g1, g2, ⟨x, g3, g4⟩, _⟩ := h4 k hk
  exact ⟨b, o, g1, _, x, g3, intRow_of hJ g4⟩
theorem bytes_spoil {w w' : World} {J Z : Nat → Prop} (s : Spoil J w w') {v : Value} {u : U} (h : RepC w Z (.sl false [.int .u8]) v u) : RepC w' Z (.sl false [.int .u8]) v u := by
  obtain ⟨A, c, h1, h2, h3, h4⟩ := h
  refine ⟨A, c, h1, h2, h3, fun k hk => ?_⟩
  obtain ⟨b, o, g1, g2, ⟨x, g3, g4⟩, g5⟩ := h4 k hk
  refine ⟨b, o, g1, g2, ⟨x, s.same g3 (fun i e => ?_), g4⟩, g5⟩
  rw [g4.1] at e
  cases e
end Go.Den

namespace Go.Mat
open Go Go.Den
def byteAt (v k : Int) : Int := v / 2 ^ (8 * k).toNat % 256
def putFrom (g : Bool) (m v : Int) : Int → Nat → List U
  | _, 0 => []
  | i, n + 1 => .i (byteAt v (if g then m - 1 - i else i)) :: putFrom g m v (i + 1) n
def putErr (n v : Int) : Int := if n < 1 ∨ 8 < n then 1 else if n < 8 ∧ v / 2 ^ (8 * n).toNat ≠ 0 then 6 else 0
def putX (b : List U) (n : Int) (g : Bool) (v : Int) : List U := if putErr n v = 0 then b ++ putFrom g n v 0 n.toNat else []
theorem i64_in {x : Int} (h : -9223372036854775808 ≤ x) (h' : x ≤ 9223372036854775807) : IntKind.wrap .i64 x = x := by
  simp only [IntKind.wrap, IntKind.bits, IntKind.signed]; simp; split <;> omega
theorem u64_in {x : Int} (h : 0 ≤ x) (h' : x < 18446744073709551616) : IntKind.wrap .u64 x = x := by
  simp only [IntKind.wrap, IntKind.bits, IntKind.signed]; simp; omega
theorem u8_wrap (x : Int) : IntKind.wrap .u8 x = x % 256 := by
  simp only [IntKind.wrap, IntKind.bits, IntKind.signed]; simp
theorem byte_go {v k : Int} (h : 0 ≤ k) (h' : k ≤ 8) : IntKind.wrap .u8 (Int.fdiv v (2 ^ min (Int.toNat (IntKind.wrap .i64 (8 * k))) (IntKind.bits .u64))) = byteAt v k := by
  rw [u8_wrap, i64_in (by omega) (by omega), Nat.min_eq_left (by simp [IntKind.bits]; omega), Int.fdiv_eq_ediv_of_nonneg _ (by exact Int.le_of_lt (Int.pow_pos (by omega)))]
  rfl
end Go.Mat

namespace Go.Mat
open Go Go.Den
abbrev e0 (s : U) : U := nth (.i 0) s.list 0
abbrev e1 (s : U) : U := nth (.i 0) s.list 1
abbrev e2 (s : U) : U := nth (.i 0) s.list 2
abbrev e3 (s : U) : U := nth (.i 0) s.list 3
abbrev e4 (s : U) : U := nth (.i 0) s.list 4
def spanMay (a b : Int) : Bool := decide (0 ≤ a) && decide (a < b) && decide (b ≤ 1073741824)
def spansR : Int → List U → Bool
  | _, [] => true
  | last, s :: r => spanMay (e0 s).int (e1 s).int && decide (last < (e0 s).int) && spansR (e1 s).int r
def spansAt (L : List U) : Nat → Nat → Bool
  | _, 0 => true
  | i, n + 1 => spanMay (e0 (U.at L i)).int (e1 (U.at L i)).int && (decide (i = 0) || decide ((e1 (U.at L (i - 1))).int < (e0 (U.at L i)).int)) && spansAt L (i + 1) n
def letterR (c : Int) : Bool := (decide (97 ≤ c) && decide (c ≤ 122)) || (decide (48 ≤ c) && decide (c ≤ 57)) || decide (c = 45) || decide (c = 95) || decide (c = 46)
def lettersR (l : List UInt8) : Bool := l.all fun c => letterR c.toNat
def nameR (s : ByteArray) : Bool := !(s.data.toList == []) && decide (s.data.toList.length ≤ 16) && lettersR s.data.toList
def placeR (st ct : Int) : Bool := decide (2 ≤ st) && decide (st ≤ 65536) && decide (0 ≤ ct) && decide (ct ≤ 65536 - st)
def mayR (k st ct sz sm c : Int) : Bool :=
  if c < 0 ∨ 6 < c then false
  else if k = 0 ∨ k = 1 then decide (st = 0 ∧ ct = 0 ∧ sz = 0 ∧ sm = 0)
  else if k = 2 then decide (ct = 2 ^ c.toNat ∧ sz = 0) && placeR st ct
  else if k = 3 then decide (1 ≤ ct ∧ ct < 2 ^ c.toNat ∧ 1 ≤ sz ∧ (ct - 1) * 16 < sz ∧ sz ≤ ct * 16) && placeR st ct
  else false
def noneR (k st ct sz sm : Int) : Bool := decide (k = 0 ∧ st = 0 ∧ ct = 0 ∧ sz = 0 ∧ sm = 0)
def sizeR (n c : Int) : Bool := decide (0 ≤ n) && decide (n ≤ 4096) && decide (n % 2 ^ c.toNat = 0)
theorem drop_at : ∀ {L : List U} {i : Nat}, i < L.length → L.drop i = U.at L i :: L.drop (i + 1)
  | _ :: _, 0, _ => rfl
  | _ :: L, i + 1, h => drop_at (L := L) (i := i) (by simpa using h)
theorem spansAt_eq : ∀ (n : Nat) (L : List U) (i : Nat), L.length = i + n → spansAt L i n = spansR (if i = 0 then -1 else (e1 (U.at L (i - 1))).int) (L.drop i)
  | 0, L, i, h => by rw [List.drop_of_length_le (by omega)]; rfl
  | n + 1, L, i, h => by
    rw [drop_at (by omega), spansAt, spansR, spansAt_eq n L (i + 1) (by omega)]
    simp only [Nat.add_one_ne_zero, if_false, Nat.add_sub_cancel]
    congr 1
    by_cases hi : i = 0
    · subst hi
      simp only [decide_true, Bool.true_or, Bool.and_true, if_true]
      unfold spanMay
      by_cases h0 : 0 ≤ (e0 (U.at L 0)).int
      · simp [h0, show (-1 : Int) < (e0 (U.at L 0)).int by omega]
      · simp [h0]
    · simp [hi]
theorem shl_one {c : Int} (h : 0 ≤ c) (h' : c ≤ 6) : IntKind.wrap .i64 (1 * 2 ^ min c.toNat (IntKind.bits .i64)) = 2 ^ c.toNat := by
  have : c = 0 ∨ c = 1 ∨ c = 2 ∨ c = 3 ∨ c = 4 ∨ c = 5 ∨ c = 6 := by omega
  rcases this with rfl | rfl | rfl | rfl | rfl | rfl | rfl <;> rfl
theorem pow_le {c : Int} (h : 0 ≤ c) (h' : c ≤ 6) : (1 : Int) ≤ 2 ^ c.toNat ∧ (2 : Int) ^ c.toNat ≤ 64 := by
  have : c = 0 ∨ c = 1 ∨ c = 2 ∨ c = 3 ∨ c = 4 ∨ c = 5 ∨ c = 6 := by omega
  rcases this with rfl | rfl | rfl | rfl | rfl | rfl | rfl <;> decide
end Go.Mat

namespace Go.Mat
open Go Go.Den
def entOk (n c i k : Int) (e : U) : Bool :=
  mayR (e0 e).int (e1 e).int (e2 e).int (e3 e).int (e4 e).int c && (noneR (e0 e).int (e1 e).int (e2 e).int (e3 e).int (e4 e).int || decide (IntKind.wrap .i64 (IntKind.wrap .i64 (i * 8) + k) < n))
def entsR (n c i : Int) : Int → List U → Bool
  | _, [] => true
  | k, e :: r => entOk n c i k e && entsR n c i (k + 1) r
def someR (l : List U) : Bool := l.any fun e => !noneR (e0 e).int (e1 e).int (e2 e).int (e3 e).int (e4 e).int
def leafR (n c i : Int) (l : List U) : Bool := decide (l.length = 8) && entsR n c i 0 l && someR l
def leavesR (n c : Int) : Int → List U → Bool
  | _, [] => true
  | i, l :: r => if l.list = [] ∧ r ≠ [] then leavesR n c (i + 1) r else leafR n c i l.list && leavesR n c (i + 1) r
def tableR (L : List U) (n c : Int) : Bool := if n < 0 ∨ 4096 < n ∨ c < 0 ∨ 6 < c then false else leavesR n c 0 L
def rentOk (n c i k : Int) (e : U) : Bool :=
  mayR (e0 e).int (e1 e).int (e2 e).int (e3 e).int (e4 e).int c && (decide ((e0 e).int = 0) || decide (IntKind.wrap .i64 (IntKind.wrap .i64 (i * 8) + k) < n))
def rentsR (n c i : Int) : Int → List U → Bool
  | _, [] => true
  | k, e :: r => rentOk n c i k e && rentsR n c i (k + 1) r
def rsomeR (l : List U) : Bool := l.any fun e => decide ((e0 e).int ≠ 0)
def rleafR (n c i : Int) (l : List U) : Bool := decide (l.length = 8) && rentsR n c i 0 l && rsomeR l
def rleavesR (n c : Int) : Int → List U → Bool
  | _, [] => true
  | i, l :: r => if l.list = [] then rleavesR n c (i + 1) r else rleafR n c i l.list && rleavesR n c (i + 1) r
theorem may_none {k st ct sz sm c : Int} (h : mayR k st ct sz sm c = true) : noneR k st ct sz sm = decide (k = 0) := by
  unfold mayR at h
  unfold noneR
  rw [Bool.eq_iff_iff]
  simp only [decide_eq_true_eq]
  constructor
  · exact fun h => h.1
  · intro hk
    split at h
    · cases h
    · rw [if_pos (.inl hk)] at h
      exact ⟨hk, of_decide_eq_true h⟩
theorem entOk_eq (n c i k : Int) (e : U) : entOk n c i k e = rentOk n c i k e := by
  unfold entOk rentOk
  cases hm : mayR (e0 e).int (e1 e).int (e2 e).int (e3 e).int (e4 e).int c with
  | false => rfl
  | true => rw [may_none hm]
theorem entsR_eq (n c i : Int) : ∀ (l : List U) (k : Int), entsR n c i k l = rentsR n c i k l
  | [], _ => rfl
  | e :: r, k => by rw [entsR, rentsR, entOk_eq, entsR_eq n c i r]
theorem someR_eq {n c i : Int} : ∀ (l : List U) (k : Int), entsR n c i k l = true → someR l = rsomeR l
  | [], _, _ => rfl
  | e :: r, k, h => by
    rw [entsR, Bool.and_eq_true] at h
    have ih := someR_eq r (k + 1) h.2
    unfold someR rsomeR at ih ⊢
    rw [List.any_cons, List.any_cons, ih]
    congr 1
    have hm := h.1
    unfold entOk at hm
    rw [Bool.and_eq_true] at hm
    rw [may_none hm.1]
    simp
theorem leafR_eq (n c i : Int) (l : List U) : leafR n c i l = rleafR n c i l := by
  unfold leafR rleafR
  rw [← entsR_eq]
  cases h : entsR n c i 0 l with
  | false => simp
  | true => rw [someR_eq l 0 h]
theorem leafR_nil (n c i : Int) : leafR n c i [] = false := rfl
def lastOk (L : List U) : Bool := decide (L = []) || !decide ((nth (.i 0) L (L.length - 1)).list = [])
theorem lastOk_cons {l : U} {r : List U} (h : r ≠ []) : lastOk (l :: r) = lastOk r := by
  unfold lastOk
  cases r with
  | nil => exact absurd rfl h
  | cons x s =>
    simp
    rfl
theorem leavesR_eq (n c : Int) : ∀ (L : List U) (i : Int), leavesR n c i L = (lastOk L && rleavesR n c i L)
  | [], _ => rfl
  | l :: r, i => by
    rw [leavesR, rleavesR, leavesR_eq n c r, leafR_eq]
    by_cases hr : r = []
    · subst hr
      by_cases hl : l.list = []
      · simp [hl, lastOk, ← leafR_eq, leafR_nil]
      · simp [hl, lastOk, rleavesR]
    · rw [lastOk_cons hr]
      by_cases hl : l.list = []
      · simp [hl, hr]
      · simp [hl]
        cases rleafR n c i l.list <;> cases lastOk r <;> simp
def rtableR (L : List U) (n c : Int) : Bool := if n < 0 ∨ 4096 < n ∨ c < 0 ∨ 6 < c then false else lastOk L && decide (L.length ≤ 512) && rleavesR n c 0 L
theorem ents_some {n c i : Int} (hi : 0 ≤ i) (hi' : i ≤ 1099511627776) (hn : n ≤ 4096) : ∀ (l : List U) (k : Int), 0 ≤ k → k + l.length ≤ 1099511627776 → entsR n c i k l = true → someR l = true → i < 512
  | [], _, _, _, _, h => by cases h
  | e :: r, k, hk, hl, h1, h2 => by
    rw [entsR, Bool.and_eq_true] at h1
    have h2 : (!noneR (e0 e).int (e1 e).int (e2 e).int (e3 e).int (e4 e).int || someR r) = true := h2
    simp only [List.length_cons] at hl
    rw [Bool.or_eq_true] at h2
    rcases h2 with h2 | h2
    · have h3 := h1.1
      unfold entOk at h3
      rw [Bool.and_eq_true, Bool.or_eq_true] at h3
      rcases h3.2 with h4 | h4
      · rw [h4] at h2; cases h2
      · have h5 := of_decide_eq_true h4
        rw [i64_in (x := i * 8) (by omega) (by omega), i64_in (by omega) (by omega)] at h5
        omega
    · exact ents_some hi hi' hn r (k + 1) (by omega) (by omega) h1.2 h2
theorem leaf_low {n c i : Int} {l : List U} (hi : 0 ≤ i) (hi' : i ≤ 1099511627776) (hn : n ≤ 4096) (h : leafR n c i l = true) : i < 512 := by
  unfold leafR at h
  simp only [Bool.and_eq_true, decide_eq_true_eq] at h
  exact ents_some hi hi' hn l 0 (by omega) (by omega) h.1.2 h.2
theorem leaves_low {n c : Int} (hn : n ≤ 4096) : ∀ (L : List U) (i : Int), 0 ≤ i → i + L.length ≤ 1099511627776 → leavesR n c i L = true → L ≠ [] → i + L.length ≤ 512
  | [], _, _, _, _, h => absurd rfl h
  | l :: r, i, hi, hl, h, _ => by
    simp only [List.length_cons] at hl ⊢
    rw [leavesR] at h
    by_cases hr : r = []
    · subst hr
      rw [if_neg (fun h => h.2 rfl), Bool.and_eq_true] at h
      have := leaf_low hi (by omega) hn h.1
      simp
      omega
    · have key : leavesR n c (i + 1) r = true := by
        split at h
        · exact h
        · rw [Bool.and_eq_true] at h; exact h.2
      have := leaves_low hn r (i + 1) (by omega) (by omega) key hr
      omega
theorem rtableR_eq {L : List U} {n c : Int} (h : L.length ≤ 1099511627776) : tableR L n c = rtableR L n c := by
  unfold tableR rtableR
  split
  · rfl
  · rename_i hc
    rw [leavesR_eq]
    by_cases h5 : L.length ≤ 512
    · simp [h5]
    · rw [decide_eq_false h5, Bool.and_false, Bool.false_and]
      by_cases hx : (lastOk L && rleavesR n c 0 L) = true
      · rw [← leavesR_eq] at hx
        have := leaves_low (by omega) L 0 (by omega) (by omega) hx (fun h0 => by rw [h0] at h5; simp at h5)
        omega
      · simpa using hx
end Go.Mat

namespace Go.Mat
open Go Go.Den Go.Proofs
noncomputable abbrev PR : Program := Try.prog
noncomputable def eqs0 (t : TypeId) : Option (List IntKind) := bif Nat.beq t 54 then some [.i64, .i64, .i64, .i64, .u32] else none
abbrev vi (n : U) : SV := .val (.int .i64) n
abbrev vu (n : U) : SV := .val (.int .u64) n
abbrev vb (n : U) : SV := .val .bool n
abbrev vs (n : U) : SV := .val .str n
abbrev vl (c : Ct) (n : U) : SV := .val (.sl false [c]) n
abbrev vt (cs : List Ct) (n : U) : SV := .val (.sl true cs) n
abbrev u8T : TypeId := 5
noncomputable def putLoop : LoopF := fun _ svs l k => match svs, l with
  | [.val (.int .i64) i, .val (.int .i64) m, .own o, .val (.int .i64) n, .val .bool g, .val (.int .u64) v], [.arr e xs] =>
    (o = 4478 ∧ e = u8T ∧ n = m ∧ 0 ≤ i.int ∧ i.int ≤ m.int ∧ m.int ≤ 8 ∧ xs.length ≤ 536870912 + i.int.toNat) ∧
    k (.exit 1) ⟨[(10, .own 4478)], [(4478, .arr u8T (xs ++ putFrom g.bool m.int v.int i.int (m.int - i.int).toNat))]⟩
  | _, _ => False
noncomputable def putC : Ctx := mkC PR eqs0 fnsNil trsNil (loopCons 1 [38, 37, 10, 1, 2, 3] [4478] putLoop noLoops) (outCons 1 [10] [4478] noOut) noOut
theorem put_round (pan : KP) (μ : Mu) (N : Nat) (k : KE) (i m n g v : U) (xs : List U) : (exec (putC.panics pan) (loopBody Try.f49 0) 1 ⟨[(38, vi i), (37, vi m), (10, .own 4478), (1, vi n), (2, vb g), (3, vu v)], [(4478, .arr 5 xs)]⟩ (again PR (some ([10], [4478])) none pan [38, 37, 10, 1, 2, 3] [4478] putLoop μ N k)) = (bif decide (i.int < m.int) then bif g.bool then bif decide (IntKind.wrap .i64 ((8 : Int) * IntKind.wrap .i64 (IntKind.wrap .i64 (n.int - (1 : Int)) - i.int)) < (0 : Int)) then False else bif decide (List.length xs + ((0 : Nat) + (1 : Nat)) ≤ room) && !oddB (4478 : Nat) then bif Nat.blt (μ [.val (.int IntKind.i64) (U.i (IntKind.wrap .i64 (i.int + (1 : Int)))), .val (.int IntKind.i64) m, .own (nat_lit 4478), .val (.int IntKind.i64) n, .val .bool g, .val (.int IntKind.u64) v] [.arr (nat_lit 5) (xs ++ [U.i (IntKind.wrap .u8 (Int.fdiv v.int ((2 : Int) ^ min (Int.toNat (IntKind.wrap .i64 ((8 : Int) * IntKind.wrap .i64 (IntKind.wrap .i64 (n.int - (1 : Int)) - i.int)))) (IntKind.bits IntKind.u64))))])]) N then (nat_lit 4478 = nat_lit 4478 ∧ nat_lit 5 = nat_lit 5 ∧ n = m ∧ (0 : Int) ≤ IntKind.wrap .i64 (i.int + (1 : Int)) ∧ IntKind.wrap .i64 (i.int + (1 : Int)) ≤ m.int ∧ m.int ≤ (8 : Int) ∧ List.length (xs ++ [U.i (IntKind.wrap .u8 (Int.fdiv v.int ((2 : Int) ^ min (Int.toNat (IntKind.wrap .i64 ((8 : Int) * IntKind.wrap .i64 (IntKind.wrap .i64 (n.int - (1 : Int)) - i.int)))) (IntKind.bits IntKind.u64))))]) ≤ (536870912 : Nat) + Int.toNat (IntKind.wrap .i64 (i.int + (1 : Int)))) ∧ k (Ex.exit (nat_lit 1)) (St.mk [(nat_lit 10, .own (nat_lit 4478))] [(nat_lit 4478, .arr (nat_lit 5) (xs ++ [U.i (IntKind.wrap .u8 (Int.fdiv v.int ((2 : Int) ^ min (Int.toNat (IntKind.wrap .i64 ((8 : Int) * IntKind.wrap .i64 (IntKind.wrap .i64 (n.int - (1 : Int)) - i.int)))) (IntKind.bits IntKind.u64))))] ++ putFrom g.bool m.int v.int (IntKind.wrap .i64 (i.int + (1 : Int))) (Int.toNat (m.int - IntKind.wrap .i64 (i.int + (1 : Int))))))]) else False else False else bif decide (IntKind.wrap .i64 ((8 : Int) * i.int) < (0 : Int)) then False else bif decide (List.length xs + ((0 : Nat) + (1 : Nat)) ≤ room) && !oddB (4478 : Nat) then bif Nat.blt (μ [.val (.int IntKind.i64) (U.i (IntKind.wrap .i64 (i.int + (1 : Int)))), .val (.int IntKind.i64) m, .own (nat_lit 4478), .val (.int IntKind.i64) n, .val .bool g, .val (.int IntKind.u64) v] [.arr (nat_lit 5) (xs ++ [U.i (IntKind.wrap .u8 (Int.fdiv v.int ((2 : Int) ^ min (Int.toNat (IntKind.wrap .i64 ((8 : Int) * i.int))) (IntKind.bits IntKind.u64))))])]) N then (nat_lit 4478 = nat_lit 4478 ∧ nat_lit 5 = nat_lit 5 ∧ n = m ∧ (0 : Int) ≤ IntKind.wrap .i64 (i.int + (1 : Int)) ∧ IntKind.wrap .i64 (i.int + (1 : Int)) ≤ m.int ∧ m.int ≤ (8 : Int) ∧ List.length (xs ++ [U.i (IntKind.wrap .u8 (Int.fdiv v.int ((2 : Int) ^ min (Int.toNat (IntKind.wrap .i64 ((8 : Int) * i.int))) (IntKind.bits IntKind.u64))))]) ≤ (536870912 : Nat) + Int.toNat (IntKind.wrap .i64 (i.int + (1 : Int)))) ∧ k (Ex.exit (nat_lit 1)) (St.mk [(nat_lit 10, .own (nat_lit 4478))] [(nat_lit 4478, .arr (nat_lit 5) (xs ++ [U.i (IntKind.wrap .u8 (Int.fdiv v.int ((2 : Int) ^ min (Int.toNat (IntKind.wrap .i64 ((8 : Int) * i.int))) (IntKind.bits IntKind.u64))))] ++ putFrom g.bool m.int v.int (IntKind.wrap .i64 (i.int + (1 : Int))) (Int.toNat (m.int - IntKind.wrap .i64 (i.int + (1 : Int))))))]) else False else False else k (Ex.exit (nat_lit 1)) (St.mk [(nat_lit 10, .own (nat_lit 4478))] [(nat_lit 4478, .arr (nat_lit 5) xs)])) := by kernel_rfl
theorem put_tree (R : RT) (b n g v : U) : (runD putC Try.f49 [.val (.sl false [.int .u8]) b, vi n, vb g, vu v] [] R) = (bif decide (n.int < (1 : Int)) then R (Out.ret [.own (nat_lit 2097152), .val (.int IntKind.i64) (U.i (1 : Int))]) [(nat_lit 2097152, .arr (nat_lit 5) [])] else bif decide (n.int > (8 : Int)) then R (Out.ret [.own (nat_lit 2097152), .val (.int IntKind.i64) (U.i (1 : Int))]) [(nat_lit 2097152, .arr (nat_lit 5) [])] else bif decide (n.int < (8 : Int)) then bif decide (IntKind.wrap .i64 ((8 : Int) * n.int) < (0 : Int)) then False else bif Int.fdiv v.int ((2 : Int) ^ min (Int.toNat (IntKind.wrap .i64 ((8 : Int) * n.int))) (IntKind.bits IntKind.u64)) != (0 : Int) then R (Out.ret [.own (nat_lit 2097152), .val (.int IntKind.i64) (U.i (6 : Int))]) [(nat_lit 2097152, .arr (nat_lit 5) [])] else bif decide ((0 : Int) ≤ (0 : Int) ∧ (0 : Int) ≤ IntKind.wrap .i64 ((b.list.length : Int) + n.int) ∧ IntKind.wrap .i64 ((b.list.length : Int) + n.int) ≤ (↑room : Int)) then bif decide (List.length (List.replicate (Int.toNat (0 : Int)) (U.i (0 : Int))) + b.list.length ≤ room) && !oddB ((2 : Nat) * ((34 : Nat) * (64 : Nat) + (63 : Nat))) then (nat_lit 4478 = nat_lit 4478 ∧ nat_lit 5 = nat_lit 5 ∧ n = n ∧ (0 : Int) ≤ (0 : Int) ∧ (0 : Int) ≤ n.int ∧ n.int ≤ (8 : Int) ∧ List.length (List.replicate (Int.toNat (0 : Int)) (U.i (0 : Int)) ++ b.list) ≤ (536870912 : Nat) + Int.toNat (0 : Int)) ∧ R (Out.ret [.own (nat_lit 2097152), .val (.int IntKind.i64) (U.i (0 : Int))]) [(nat_lit 2097152, .arr (nat_lit 5) (List.replicate (Int.toNat (0 : Int)) (U.i (0 : Int)) ++ b.list ++ putFrom g.bool n.int v.int (0 : Int) (Int.toNat (n.int - (0 : Int)))))] else False else False else bif decide ((0 : Int) ≤ (0 : Int) ∧ (0 : Int) ≤ IntKind.wrap .i64 ((b.list.length : Int) + n.int) ∧ IntKind.wrap .i64 ((b.list.length : Int) + n.int) ≤ (↑room : Int)) then bif decide (List.length (List.replicate (Int.toNat (0 : Int)) (U.i (0 : Int))) + b.list.length ≤ room) && !oddB ((2 : Nat) * ((34 : Nat) * (64 : Nat) + (63 : Nat))) then (nat_lit 4478 = nat_lit 4478 ∧ nat_lit 5 = nat_lit 5 ∧ n = n ∧ (0 : Int) ≤ (0 : Int) ∧ (0 : Int) ≤ n.int ∧ n.int ≤ (8 : Int) ∧ List.length (List.replicate (Int.toNat (0 : Int)) (U.i (0 : Int)) ++ b.list) ≤ (536870912 : Nat) + Int.toNat (0 : Int)) ∧ R (Out.ret [.own (nat_lit 2097152), .val (.int IntKind.i64) (U.i (0 : Int))]) [(nat_lit 2097152, .arr (nat_lit 5) (List.replicate (Int.toNat (0 : Int)) (U.i (0 : Int)) ++ b.list ++ putFrom g.bool n.int v.int (0 : Int) (Int.toNat (n.int - (0 : Int)))))] else False else False) := by kernel_rfl
end Go.Mat

namespace Go.Mat
open Go Go.Den Go.Proofs
noncomputable abbrev K0 : Ctx := mkC PR eqs0 fnsNil trsNil noLoops noOut noOut
def spanMayS : List (List U) → List (List U) := fun us => [[.b (spanMay (nth (.i 0) (nth [] us 0) 0).int (nth (.i 0) (nth [] us 0) 1).int)]]
def nameS : List (List U) → List (List U) := fun us => [[.b (nameR (nth (.i 0) (nth [] us 0) 0).str)]]
def placeS : List (List U) → List (List U) := fun us => [[.b (placeR (nth (.i 0) (nth [] us 0) 1).int (nth (.i 0) (nth [] us 0) 2).int)]]
def mayS : List (List U) → List (List U) := fun us => [[.b (mayR (nth (.i 0) (nth [] us 0) 0).int (nth (.i 0) (nth [] us 0) 1).int (nth (.i 0) (nth [] us 0) 2).int (nth (.i 0) (nth [] us 0) 3).int (nth (.i 0) (nth [] us 0) 4).int (nth (.i 0) (nth [] us 1) 0).int)]]
def noneS : List (List U) → List (List U) := fun us => [[.b (noneR (nth (.i 0) (nth [] us 0) 0).int (nth (.i 0) (nth [] us 0) 1).int (nth (.i 0) (nth [] us 0) 2).int (nth (.i 0) (nth [] us 0) 3).int (nth (.i 0) (nth [] us 0) 4).int)]]
def spansS : List (List U) → List (List U) := fun us => [[.b (spansR (-1) (nth (.i 0) (nth [] us 0) 0).list)]]
noncomputable def mayC : Ctx := mkC PR eqs0 (fnsCons 77 placeS fnsNil) trsNil noLoops noOut noOut
theorem spanMay_tree (R : RF) (a b : U) : (run K0 Try.f67 [[a, b]] R) = (bif decide (U.int a ≥ (0 : Int)) then bif decide (U.int a < U.int b) then R [[U.b (decide (U.int b ≤ (1073741824 : Int)))]] else R [[U.b false]] else R [[U.b false]]) := by kernel_rfl
theorem rspanMay_tree (R : RF) (a b : U) : (run K0 Try.f55 [[a, b]] R) = (bif decide (U.int a ≥ (0 : Int)) then bif decide (U.int a < U.int b) then R [[U.b (decide (U.int b ≤ (1073741824 : Int)))]] else R [[U.b false]] else R [[U.b false]]) := by kernel_rfl
theorem place_tree (R : RF) (a b c d e : U) : (run K0 Try.f77 [[a, b, c, d, e]] R) = (bif decide (U.int b ≥ (2 : Int)) then bif decide (U.int b ≤ (65536 : Int)) then bif decide (U.int c ≥ (0 : Int)) then R [[U.b (decide (U.int c ≤ IntKind.wrap IntKind.i64 ((65536 : Int) - U.int b)))]] else
  R [[U.b false]] else R [[U.b false]] else R [[U.b false]]) := by kernel_rfl
theorem none_tree (R : RF) (a b c d e : U) : (run K0 Try.f66 [[a, b, c, d, e]] R) = (R [[U.b (U.int a == (0 : Int) && (U.int b == (0 : Int) && (U.int c == (0 : Int) && (U.int d == (0 : Int) && (U.int e == (0 : Int) && true)))))]]) := by kernel_rfl
theorem may_tree (R : RF) (a b c d e k : U) : (run mayC Try.f65 [[a, b, c, d, e], [k]] R) = (bif decide (k.int < (0 : Int)) then R [[U.b false]] else bif decide (k.int > (6 : Int)) then R [[U.b false]] else bif decide (k.int < (0 : Int)) then False else bif a.int == (0 : Int) then R [[U.b (a.int == a.int && (b.int == (0 : Int) && (c.int == (0 : Int) && (d.int == (0 : Int) && (e.int == (0 : Int) && true)))))]] else bif a.int == (1 : Int) then R [[U.b (a.int == a.int && (b.int == (0 : Int) && (c.int == (0 : Int) && (d.int == (0 : Int) && (e.int == (0 : Int) && true)))))]] else bif a.int == (2 : Int) then bif c.int == IntKind.wrap .i64 ((1 : Int) * (2 : Int) ^ min (Int.toNat k.int) (IntKind.bits IntKind.i64)) then bif d.int == (0 : Int) then R [[U.b (placeR b.int c.int)]] else R [[U.b false]] else R [[U.b false]] else bif a.int == (3 : Int) then bif decide (c.int ≥ (1 : Int)) then bif decide (c.int < IntKind.wrap .i64 ((1 : Int) * (2 : Int) ^ min (Int.toNat k.int) (IntKind.bits IntKind.i64))) then bif decide (d.int ≥ (1 : Int)) then bif decide (d.int > IntKind.wrap .i64 (IntKind.wrap .i64 (c.int - (1 : Int)) * (16 : Int))) then bif decide (d.int ≤ IntKind.wrap .i64 (c.int * (16 : Int))) then R [[U.b (placeR b.int c.int)]] else R [[U.b false]] else R [[U.b false]] else R [[U.b false]] else R [[U.b false]] else R [[U.b false]] else R [[U.b false]]) := by kernel_rfl
theorem rmay_tree (R : RF) (a b c d e k : U) : (run K0 Try.f54 [[a, b, c, d, e], [k]] R) = (bif decide (k.int < (0 : Int)) then R [[U.b false]] else bif decide (k.int > (6 : Int)) then R [[U.b false]] else bif a.int == (0 : Int) then bif a.int == (0 : Int) then bif b.int == (0 : Int) then bif c.int == (0 : Int) then bif d.int == (0 : Int) then R [[U.b (e.int == (0 : Int))]] else R [[U.b false]] else R [[U.b false]] else R [[U.b false]] else bif a.int == (2 : Int) then bif decide (b.int ≥ (2 : Int)) then bif decide (IntKind.wrap .u64 k.int < (0 : Int)) then False else bif c.int == IntKind.wrap .i64 ((1 : Int) * (2 : Int) ^ min (Int.toNat (IntKind.wrap .u64 k.int)) (IntKind.bits IntKind.i64)) then bif decide (b.int ≤ IntKind.wrap .i64 ((65536 : Int) - c.int)) then R [[U.b (d.int == (0 : Int))]] else R [[U.b false]] else R [[U.b false]] else R [[U.b false]] else bif a.int == (3 : Int) then bif decide (b.int ≥ (2 : Int)) then bif decide (c.int ≥ (1 : Int)) then bif decide (IntKind.wrap .u64 k.int < (0 : Int)) then False else bif decide (c.int < IntKind.wrap .i64 ((1 : Int) * (2 : Int) ^ min (Int.toNat (IntKind.wrap .u64 k.int)) (IntKind.bits IntKind.i64))) then bif decide (b.int ≤ IntKind.wrap .i64 ((65536 : Int) - c.int)) then bif decide (d.int ≥ (1 : Int)) then bif decide (d.int ≤ IntKind.wrap .i64 (c.int * (16 : Int))) then R [[U.b (decide (d.int > IntKind.wrap .i64 (IntKind.wrap .i64 (c.int - (1 : Int)) * (16 : Int))))]] else R [[U.b false]] else R [[U.b false]] else R [[U.b false]] else R [[U.b false]] else R [[U.b false]] else R [[U.b false]] else R [[U.b false]] else bif a.int == (1 : Int) then bif b.int == (0 : Int) then bif c.int == (0 : Int) then bif d.int == (0 : Int) then R [[U.b (e.int == (0 : Int))]] else R [[U.b false]] else R [[U.b false]] else R [[U.b false]] else bif a.int == (2 : Int) then bif decide (b.int ≥ (2 : Int)) then bif decide (IntKind.wrap .u64 k.int < (0 : Int)) then False else bif c.int == IntKind.wrap .i64 ((1 : Int) * (2 : Int) ^ min (Int.toNat (IntKind.wrap .u64 k.int)) (IntKind.bits IntKind.i64)) then bif decide (b.int ≤ IntKind.wrap .i64 ((65536 : Int) - c.int)) then R [[U.b (d.int == (0 : Int))]] else R [[U.b false]] else R [[U.b false]] else R [[U.b false]] else bif a.int == (3 : Int) then bif decide (b.int ≥ (2 : Int)) then bif decide (c.int ≥ (1 : Int)) then bif decide (IntKind.wrap .u64 k.int < (0 : Int)) then False else bif decide (c.int < IntKind.wrap .i64 ((1 : Int) * (2 : Int) ^ min (Int.toNat (IntKind.wrap .u64 k.int)) (IntKind.bits IntKind.i64))) then bif decide (b.int ≤ IntKind.wrap .i64 ((65536 : Int) - c.int)) then bif decide (d.int ≥ (1 : Int)) then bif decide (d.int ≤ IntKind.wrap .i64 (c.int * (16 : Int))) then R [[U.b (decide (d.int > IntKind.wrap .i64 (IntKind.wrap .i64 (c.int - (1 : Int)) * (16 : Int))))]] else R [[U.b false]] else R [[U.b false]] else R [[U.b false]] else R [[U.b false]] else R [[U.b false]] else R [[U.b false]] else R [[U.b false]]) := by kernel_rfl
theorem size_tree (R : RF) (a b : U) : (run K0 Try.f44 [[a], [b]] R) = (bif decide (U.int a ≥ (0 : Int)) then bif decide (U.int a ≤ (4096 : Int)) then bif decide (U.int b < (0 : Int)) then False else bif decide (IntKind.wrap IntKind.i64 ((1 : Int) * (2 : Int) ^ min (Int.toNat
  (U.int b)) (IntKind.bits IntKind.i64)) = (0 : Int)) then False else R [[U.b (Int.tmod (U.int a) (IntKind.wrap IntKind.i64 ((1 : Int) * (2 : Int) ^ min (Int.toNat (U.int b)) (IntKind.bits IntKind.i64)))
  == (0 : Int))]] else R [[U.b false]] else R [[U.b false]]) := by kernel_rfl
theorem sized_tree (R : RF) (a b : U) : (run K0 Try.f30 [[a], [b]] R) = (bif decide (U.int a ≥ (0 : Int)) then bif decide (U.int a ≤ (4096 : Int)) then bif decide (IntKind.wrap IntKind.u64 (U.int b) < (0 : Int)) then False else bif decide (IntKind.wrap IntKind.u64 (U.int b)
  < (0 : Int)) then False else R [[U.b (IntKind.wrap IntKind.i64 (Int.fdiv (U.int a) ((2 : Int) ^ min (Int.toNat (IntKind.wrap IntKind.u64 (U.int b))) (IntKind.bits IntKind.i64)) * (2 : Int) ^ min (Int.toNat
  (IntKind.wrap IntKind.u64 (U.int b))) (IntKind.bits IntKind.i64)) == U.int a)]] else R [[U.b false]] else R [[U.b false]]) := by kernel_rfl
noncomputable def spansLoop : LoopF := fun _ svs _ k => match svs with
  | [.val (.int .i64) i, .val (.int .i64) m, .val (.sl true [.int .i64, .int .i64]) L, .val (.int .i64) last] =>
    (m.int = (L.list.length : Int) ∧ 0 ≤ i.int ∧ i.int ≤ m.int) ∧
    (bif spansR last.int (L.list.drop i.int.toNat) then k (.exit 0) ⟨[(2, .unk)], []⟩ else k .ret ⟨[(2, vb (.b false))], []⟩)
  | _ => False
noncomputable def spansC : Ctx := mkC PR eqs0 (fnsCons 67 spanMayS fnsNil) trsNil (loopCons 0 [8, 7, 6, 3] [] spansLoop noLoops) (outCons 0 [2] [] noOut) noOut
theorem spans_round (pan : KP) (μ : Mu) (N : Nat) (k : KE) (i m L last : U) : (exec (spansC.panics pan) (loopBody Try.f47 0) 0 ⟨[(8, vi i), (7, vi m), (6, vt [.int .i64, .int .i64] L), (3, vi last)], []⟩ (again PR (some ([2], [])) none pan [8, 7, 6, 3] [] spansLoop μ N k)) = (bif decide (i.int < m.int) then bif decide ((0 : Int) ≤ i.int ∧ i.int < (L.list.length : Int)) then bif !spanMay (U.int (nth (U.i (0 : Int)) (U.list (nth (U.i (0 : Int)) L.list (Int.toNat i.int))) (0 : Nat))) (U.int (nth (U.i (0 : Int)) (List.tail (U.list (nth (U.i (0 : Int)) L.list (Int.toNat i.int)))) (0 : Nat))) then k Ex.ret (St.mk [(nat_lit 2, .val .bool (U.b false))] []) else bif decide (U.int (nth (U.i (0 : Int)) (U.list (nth (U.i (0 : Int)) L.list (Int.toNat i.int))) (0 : Nat)) ≤ last.int) then k Ex.ret (St.mk [(nat_lit 2, .val .bool (U.b false))] []) else bif Nat.blt (μ [.val (.int IntKind.i64) (U.i (IntKind.wrap .i64 (i.int + (1 : Int)))), .val (.int IntKind.i64) m, .val (.sl true [.int .i64, .int .i64]) L, .val (.int IntKind.i64) (nth (U.i (0 : Int)) (List.tail (U.list (nth (U.i (0 : Int)) L.list (Int.toNat i.int)))) (0 : Nat))] []) N then (m.int = (L.list.length : Int) ∧ (0 : Int) ≤ IntKind.wrap .i64 (i.int + (1 : Int)) ∧ IntKind.wrap .i64 (i.int + (1 : Int)) ≤ m.int) ∧ bif spansR (U.int (nth (U.i (0 : Int)) (List.tail (U.list (nth (U.i (0 : Int)) L.list (Int.toNat i.int)))) (0 : Nat))) (List.drop (Int.toNat (IntKind.wrap .i64 (i.int + (1 : Int)))) L.list) then k (Ex.exit (nat_lit 0)) (St.mk [(nat_lit 2, .unk)] []) else k Ex.ret (St.mk [(nat_lit 2, .val .bool (U.b false))] []) else False else False else k (Ex.exit (nat_lit 0)) (St.mk [(nat_lit 2, .unk)] [])) := by kernel_rfl
theorem spans_tree (R : RF) (L : U) : (run spansC Try.f47 [[L]] R) = (((↑(List.length (U.list L)) : Int) = (↑(List.length (U.list L)) : Int) ∧ (0 : Int) ≤ (0 : Int) ∧ (0 : Int) ≤ (↑(List.length (U.list L)) : Int)) ∧ bif spansR (-1 : Int) (List.drop (Int.toNat (0 : Int))
  (U.list L)) then R [[U.b true]] else R [[U.b false]]) := by kernel_rfl
noncomputable def rspansLoop : LoopF := fun _ svs _ k => match svs with
  | [.val (.int .i64) i, .val (.sl true [.int .i64, .int .i64]) L] =>
    (0 ≤ i.int ∧ i.int ≤ (L.list.length : Int)) ∧
    (bif spansAt L.list i.int.toNat (L.list.length - i.int.toNat) then k (.exit 0) ⟨[(2, .unk)], []⟩ else k .ret ⟨[(2, vb (.b false))], []⟩)
  | _ => False
noncomputable def rspansC : Ctx := mkC PR eqs0 (fnsCons 55 spanMayS fnsNil) trsNil (loopCons 0 [3, 0] [] rspansLoop noLoops) (outCons 0 [2] [] noOut) noOut
theorem rspans_round (pan : KP) (μ : Mu) (N : Nat) (k : KE) (i L : U) : (exec (rspansC.panics pan) (loopBody Try.f35 0) 0 ⟨[(3, vi i), (0, vt [.int .i64, .int .i64] L)], []⟩ (again PR (some ([2], [])) none pan [3, 0] [] rspansLoop μ N k)) = (bif decide (i.int < (L.list.length : Int)) then bif decide ((0 : Int) ≤ i.int ∧ i.int < (L.list.length : Int)) then bif !spanMay (U.int (nth (U.i (0 : Int)) (U.list (nth (U.i (0 : Int)) L.list (Int.toNat i.int))) (0 : Nat))) (U.int (nth (U.i (0 : Int)) (List.tail (U.list (nth (U.i (0 : Int)) L.list (Int.toNat i.int)))) (0 : Nat))) then k Ex.ret (St.mk [(nat_lit 2, .val .bool (U.b false))] []) else bif decide (i.int > (0 : Int)) then bif decide ((0 : Int) ≤ i.int ∧ i.int < (L.list.length : Int)) then bif decide ((0 : Int) ≤ IntKind.wrap .i64 (i.int - (1 : Int)) ∧ IntKind.wrap .i64 (i.int - (1 : Int)) < (L.list.length : Int)) then bif decide (U.int (nth (U.i (0 : Int)) (List.drop (0 : Nat) (U.list (nth (U.i (0 : Int)) L.list (Int.toNat i.int)))) (0 : Nat)) ≤ U.int (nth (U.i (0 : Int)) (List.drop (1 : Nat) (U.list (nth (U.i (0 : Int)) L.list (Int.toNat (IntKind.wrap .i64 (i.int - (1 : Int))))))) (0 : Nat))) then k Ex.ret (St.mk [(nat_lit 2, .val .bool (U.b false))] []) else bif Nat.blt (μ [.val (.int IntKind.i64) (U.i (IntKind.wrap .i64 (i.int + (1 : Int)))), .val (.sl true [.int .i64, .int .i64]) L] []) N then ((0 : Int) ≤ IntKind.wrap .i64 (i.int + (1 : Int)) ∧ IntKind.wrap .i64 (i.int + (1 : Int)) ≤ (L.list.length : Int)) ∧ bif spansAt L.list (Int.toNat (IntKind.wrap .i64 (i.int + (1 : Int)))) (L.list.length - Int.toNat (IntKind.wrap .i64 (i.int + (1 : Int)))) then k (Ex.exit (nat_lit 0)) (St.mk [(nat_lit 2, .unk)] []) else k Ex.ret (St.mk [(nat_lit 2, .val .bool (U.b false))] []) else False else False else False else bif Nat.blt (μ [.val (.int IntKind.i64) (U.i (IntKind.wrap .i64 (i.int + (1 : Int)))), .val (.sl true [.int .i64, .int .i64]) L] []) N then ((0 : Int) ≤ IntKind.wrap .i64 (i.int + (1 : Int)) ∧ IntKind.wrap .i64 (i.int + (1 : Int)) ≤ (L.list.length : Int)) ∧ bif spansAt L.list (Int.toNat (IntKind.wrap .i64 (i.int + (1 : Int)))) (L.list.length - Int.toNat (IntKind.wrap .i64 (i.int + (1 : Int)))) then k (Ex.exit (nat_lit 0)) (St.mk [(nat_lit 2, .unk)] []) else k Ex.ret (St.mk [(nat_lit 2, .val .bool (U.b false))] []) else False else False else k (Ex.exit (nat_lit 0)) (St.mk [(nat_lit 2, .unk)] [])) := by kernel_rfl
theorem rspans_tree (R : RF) (L : U) : (run rspansC Try.f35 [[L]] R) = (((0 : Int) ≤ (0 : Int) ∧ (0 : Int) ≤ (↑(List.length (U.list L)) : Int)) ∧ bif spansAt (U.list L) (Int.toNat (0 : Int)) (List.length (U.list L) - Int.toNat (0 : Int)) then R [[U.b true]] else R [[U.b false]]) := by kernel_rfl
noncomputable def nameLoop : LoopF := fun _ svs _ k => match svs with
  | [.val (.int .i64) i, .val (.int .i64) m, .val .str s] =>
    (m.int = (s.str.size : Int) ∧ 0 ≤ i.int ∧ i.int ≤ m.int) ∧
    (bif lettersR (s.str.data.toList.drop i.int.toNat) then k (.exit 0) ⟨[(2, .unk)], []⟩ else k .ret ⟨[(2, vb (.b false))], []⟩)
  | _ => False
noncomputable def nameC : Ctx := mkC PR eqs0 fnsNil trsNil (loopCons 0 [14, 13, 0] [] nameLoop noLoops) (outCons 0 [2] [] noOut) noOut
theorem name_round (pan : KP) (μ : Mu) (N : Nat) (k : KE) (i m s : U) : (exec (nameC.panics pan) (loopBody Try.f45 0) 0 ⟨[(14, vi i), (13, vi m), (0, vs s)], []⟩ (again PR (some ([2], [])) none pan [14, 13, 0] [] nameLoop μ N k)) = (bif decide (i.int < m.int) then bif decide ((0 : Int) ≤ i.int ∧ i.int < (↑(ByteArray.size s.str) : Int)) then bif decide ((↑(UInt8.toNat (List.getD (Array.toList (ByteArray.data s.str)) (Int.toNat i.int) (0 : UInt8))) : Int) < (97 : Int)) then bif decide ((↑(UInt8.toNat (List.getD (Array.toList (ByteArray.data s.str)) (Int.toNat i.int) (0 : UInt8))) : Int) < (48 : Int)) then bif (↑(UInt8.toNat (List.getD (Array.toList (ByteArray.data s.str)) (Int.toNat i.int) (0 : UInt8))) : Int) != (45 : Int) then bif (↑(UInt8.toNat (List.getD (Array.toList (ByteArray.data s.str)) (Int.toNat i.int) (0 : UInt8))) : Int) != (95 : Int) then bif (↑(UInt8.toNat (List.getD (Array.toList (ByteArray.data s.str)) (Int.toNat i.int) (0 : UInt8))) : Int) != (46 : Int) then k Ex.ret (St.mk [(nat_lit 2, .val .bool (U.b false))] []) else bif Nat.blt (μ [.val (.int IntKind.i64) (U.i (IntKind.wrap .i64 (i.int + (1 : Int)))), .val (.int IntKind.i64) m, .val .str s] []) N then (m.int = (↑(ByteArray.size s.str) : Int) ∧ (0 : Int) ≤ IntKind.wrap .i64 (i.int + (1 : Int)) ∧ IntKind.wrap .i64 (i.int + (1 : Int)) ≤ m.int) ∧ bif lettersR (List.drop (Int.toNat (IntKind.wrap .i64 (i.int + (1 : Int)))) (Array.toList (ByteArray.data s.str))) then k (Ex.exit (nat_lit 0)) (St.mk [(nat_lit 2, .unk)] []) else k Ex.ret (St.mk [(nat_lit 2, .val .bool (U.b false))] []) else False else bif Nat.blt (μ [.val (.int IntKind.i64) (U.i (IntKind.wrap .i64 (i.int + (1 : Int)))), .val (.int IntKind.i64) m, .val .str s] []) N then (m.int = (↑(ByteArray.size s.str) : Int) ∧ (0 : Int) ≤ IntKind.wrap .i64 (i.int + (1 : Int)) ∧ IntKind.wrap .i64 (i.int + (1 : Int)) ≤ m.int) ∧ bif lettersR (List.drop (Int.toNat (IntKind.wrap .i64 (i.int + (1 : Int)))) (Array.toList (ByteArray.data s.str))) then k (Ex.exit (nat_lit 0)) (St.mk [(nat_lit 2, .unk)] []) else k Ex.ret (St.mk [(nat_lit 2, .val .bool (U.b false))] []) else False else bif Nat.blt (μ [.val (.int IntKind.i64) (U.i (IntKind.wrap .i64 (i.int + (1 : Int)))), .val (.int IntKind.i64) m, .val .str s] []) N then (m.int = (↑(ByteArray.size s.str) : Int) ∧ (0 : Int) ≤ IntKind.wrap .i64 (i.int + (1 : Int)) ∧ IntKind.wrap .i64 (i.int + (1 : Int)) ≤ m.int) ∧ bif lettersR (List.drop (Int.toNat (IntKind.wrap .i64 (i.int + (1 : Int)))) (Array.toList (ByteArray.data s.str))) then k (Ex.exit (nat_lit 0)) (St.mk [(nat_lit 2, .unk)] []) else k Ex.ret (St.mk [(nat_lit 2, .val .bool (U.b false))] []) else False else bif decide ((↑(UInt8.toNat (List.getD (Array.toList (ByteArray.data s.str)) (Int.toNat i.int) (0 : UInt8))) : Int) > (57 : Int)) then bif (↑(UInt8.toNat (List.getD (Array.toList (ByteArray.data s.str)) (Int.toNat i.int) (0 : UInt8))) : Int) != (45 : Int) then bif (↑(UInt8.toNat (List.getD (Array.toList (ByteArray.data s.str)) (Int.toNat i.int) (0 : UInt8))) : Int) != (95 : Int) then bif (↑(UInt8.toNat (List.getD (Array.toList (ByteArray.data s.str)) (Int.toNat i.int) (0 : UInt8))) : Int) != (46 : Int) then k Ex.ret (St.mk [(nat_lit 2, .val .bool (U.b false))] []) else bif Nat.blt (μ [.val (.int IntKind.i64) (U.i (IntKind.wrap .i64 (i.int + (1 : Int)))), .val (.int IntKind.i64) m, .val .str s] []) N then (m.int = (↑(ByteArray.size s.str) : Int) ∧ (0 : Int) ≤ IntKind.wrap .i64 (i.int + (1 : Int)) ∧ IntKind.wrap .i64 (i.int + (1 : Int)) ≤ m.int) ∧ bif lettersR (List.drop (Int.toNat (IntKind.wrap .i64 (i.int + (1 : Int)))) (Array.toList (ByteArray.data s.str))) then k (Ex.exit (nat_lit 0)) (St.mk [(nat_lit 2, .unk)] []) else k Ex.ret (St.mk [(nat_lit 2, .val .bool (U.b false))] []) else False else bif Nat.blt (μ [.val (.int IntKind.i64) (U.i (IntKind.wrap .i64 (i.int + (1 : Int)))), .val (.int IntKind.i64) m, .val .str s] []) N then (m.int = (↑(ByteArray.size s.str) : Int) ∧ (0 : Int) ≤ IntKind.wrap .i64 (i.int + (1 : Int)) ∧ IntKind.wrap .i64 (i.int + (1 : Int)) ≤ m.int) ∧ bif lettersR (List.drop (Int.toNat (IntKind.wrap .i64 (i.int + (1 : Int)))) (Array.toList (ByteArray.data s.str))) then k (Ex.exit (nat_lit 0)) (St.mk [(nat_lit 2, .unk)] []) else k Ex.ret (St.mk [(nat_lit 2, .val .bool (U.b false))] []) else False else bif Nat.blt (μ [.val (.int IntKind.i64) (U.i (IntKind.wrap .i64 (i.int + (1 : Int)))), .val (.int IntKind.i64) m, .val .str s] []) N then (m.int = (↑(ByteArray.size s.str) : Int) ∧ (0 : Int) ≤ IntKind.wrap .i64 (i.int + (1 : Int)) ∧ IntKind.wrap .i64 (i.int + (1 : Int)) ≤ m.int) ∧ bif lettersR (List.drop (Int.toNat (IntKind.wrap .i64 (i.int + (1 : Int)))) (Array.toList (ByteArray.data s.str))) then k (Ex.exit (nat_lit 0)) (St.mk [(nat_lit 2, .unk)] []) else k Ex.ret (St.mk [(nat_lit 2, .val .bool (U.b false))] []) else False else bif Nat.blt (μ [.val (.int IntKind.i64) (U.i (IntKind.wrap .i64 (i.int + (1 : Int)))), .val (.int IntKind.i64) m, .val .str s] []) N then (m.int = (↑(ByteArray.size s.str) : Int) ∧ (0 : Int) ≤ IntKind.wrap .i64 (i.int + (1 : Int)) ∧ IntKind.wrap .i64 (i.int + (1 : Int)) ≤ m.int) ∧ bif lettersR (List.drop (Int.toNat (IntKind.wrap .i64 (i.int + (1 : Int)))) (Array.toList (ByteArray.data s.str))) then k (Ex.exit (nat_lit 0)) (St.mk [(nat_lit 2, .unk)] []) else k Ex.ret (St.mk [(nat_lit 2, .val .bool (U.b false))] []) else False else bif decide ((↑(UInt8.toNat (List.getD (Array.toList (ByteArray.data s.str)) (Int.toNat i.int) (0 : UInt8))) : Int) > (122 : Int)) then bif decide ((↑(UInt8.toNat (List.getD (Array.toList (ByteArray.data s.str)) (Int.toNat i.int) (0 : UInt8))) : Int) < (48 : Int)) then bif (↑(UInt8.toNat (List.getD (Array.toList (ByteArray.data s.str)) (Int.toNat i.int) (0 : UInt8))) : Int) != (45 : Int) then bif (↑(UInt8.toNat (List.getD (Array.toList (ByteArray.data s.str)) (Int.toNat i.int) (0 : UInt8))) : Int) != (95 : Int) then bif (↑(UInt8.toNat (List.getD (Array.toList (ByteArray.data s.str)) (Int.toNat i.int) (0 : UInt8))) : Int) != (46 : Int) then k Ex.ret (St.mk [(nat_lit 2, .val .bool (U.b false))] []) else bif Nat.blt (μ [.val (.int IntKind.i64) (U.i (IntKind.wrap .i64 (i.int + (1 : Int)))), .val (.int IntKind.i64) m, .val .str s] []) N then (m.int = (↑(ByteArray.size s.str) : Int) ∧ (0 : Int) ≤ IntKind.wrap .i64 (i.int + (1 : Int)) ∧ IntKind.wrap .i64 (i.int + (1 : Int)) ≤ m.int) ∧ bif lettersR (List.drop (Int.toNat (IntKind.wrap .i64 (i.int + (1 : Int)))) (Array.toList (ByteArray.data s.str))) then k (Ex.exit (nat_lit 0)) (St.mk [(nat_lit 2, .unk)] []) else k Ex.ret (St.mk [(nat_lit 2, .val .bool (U.b false))] []) else False else bif Nat.blt (μ [.val (.int IntKind.i64) (U.i (IntKind.wrap .i64 (i.int + (1 : Int)))), .val (.int IntKind.i64) m, .val .str s] []) N then (m.int = (↑(ByteArray.size s.str) : Int) ∧ (0 : Int) ≤ IntKind.wrap .i64 (i.int + (1 : Int)) ∧ IntKind.wrap .i64 (i.int + (1 : Int)) ≤ m.int) ∧ bif lettersR (List.drop (Int.toNat (IntKind.wrap .i64 (i.int + (1 : Int)))) (Array.toList (ByteArray.data s.str))) then k (Ex.exit (nat_lit 0)) (St.mk [(nat_lit 2, .unk)] []) else k Ex.ret (St.mk [(nat_lit 2, .val .bool (U.b false))] []) else False else bif Nat.blt (μ [.val (.int IntKind.i64) (U.i (IntKind.wrap .i64 (i.int + (1 : Int)))), .val (.int IntKind.i64) m, .val .str s] []) N then (m.int = (↑(ByteArray.size s.str) : Int) ∧ (0 : Int) ≤ IntKind.wrap .i64 (i.int + (1 : Int)) ∧ IntKind.wrap .i64 (i.int + (1 : Int)) ≤ m.int) ∧ bif lettersR (List.drop (Int.toNat (IntKind.wrap .i64 (i.int + (1 : Int)))) (Array.toList (ByteArray.data s.str))) then k (Ex.exit (nat_lit 0)) (St.mk [(nat_lit 2, .unk)] []) else k Ex.ret (St.mk [(nat_lit 2, .val .bool (U.b false))] []) else False else bif decide ((↑(UInt8.toNat (List.getD (Array.toList (ByteArray.data s.str)) (Int.toNat i.int) (0 : UInt8))) : Int) > (57 : Int)) then bif (↑(UInt8.toNat (List.getD (Array.toList (ByteArray.data s.str)) (Int.toNat i.int) (0 : UInt8))) : Int) != (45 : Int) then bif (↑(UInt8.toNat (List.getD (Array.toList (ByteArray.data s.str)) (Int.toNat i.int) (0 : UInt8))) : Int) != (95 : Int) then bif (↑(UInt8.toNat (List.getD (Array.toList (ByteArray.data s.str)) (Int.toNat i.int) (0 : UInt8))) : Int) != (46 : Int) then k Ex.ret (St.mk [(nat_lit 2, .val .bool (U.b false))] []) else bif Nat.blt (μ [.val (.int IntKind.i64) (U.i (IntKind.wrap .i64 (i.int + (1 : Int)))), .val (.int IntKind.i64) m, .val .str s] []) N then (m.int = (↑(ByteArray.size s.str) : Int) ∧ (0 : Int) ≤ IntKind.wrap .i64 (i.int + (1 : Int)) ∧ IntKind.wrap .i64 (i.int + (1 : Int)) ≤ m.int) ∧ bif lettersR (List.drop (Int.toNat (IntKind.wrap .i64 (i.int + (1 : Int)))) (Array.toList (ByteArray.data s.str))) then k (Ex.exit (nat_lit 0)) (St.mk [(nat_lit 2, .unk)] []) else k Ex.ret (St.mk [(nat_lit 2, .val .bool (U.b false))] []) else False else bif Nat.blt (μ [.val (.int IntKind.i64) (U.i (IntKind.wrap .i64 (i.int + (1 : Int)))), .val (.int IntKind.i64) m, .val .str s] []) N then (m.int = (↑(ByteArray.size s.str) : Int) ∧ (0 : Int) ≤ IntKind.wrap .i64 (i.int + (1 : Int)) ∧ IntKind.wrap .i64 (i.int + (1 : Int)) ≤ m.int) ∧ bif lettersR (List.drop (Int.toNat (IntKind.wrap .i64 (i.int + (1 : Int)))) (Array.toList (ByteArray.data s.str))) then k (Ex.exit (nat_lit 0)) (St.mk [(nat_lit 2, .unk)] []) else k Ex.ret (St.mk [(nat_lit 2, .val .bool (U.b false))] []) else False else bif Nat.blt (μ [.val (.int IntKind.i64) (U.i (IntKind.wrap .i64 (i.int + (1 : Int)))), .val (.int IntKind.i64) m, .val .str s] []) N then (m.int = (↑(ByteArray.size s.str) : Int) ∧ (0 : Int) ≤ IntKind.wrap .i64 (i.int + (1 : Int)) ∧ IntKind.wrap .i64 (i.int + (1 : Int)) ≤ m.int) ∧ bif lettersR (List.drop (Int.toNat (IntKind.wrap .i64 (i.int + (1 : Int)))) (Array.toList (ByteArray.data s.str))) then k (Ex.exit (nat_lit 0)) (St.mk [(nat_lit 2, .unk)] []) else k Ex.ret (St.mk [(nat_lit 2, .val .bool (U.b false))] []) else False else bif Nat.blt (μ [.val (.int IntKind.i64) (U.i (IntKind.wrap .i64 (i.int + (1 : Int)))), .val (.int IntKind.i64) m, .val .str s] []) N then (m.int = (↑(ByteArray.size s.str) : Int) ∧ (0 : Int) ≤ IntKind.wrap .i64 (i.int + (1 : Int)) ∧ IntKind.wrap .i64 (i.int + (1 : Int)) ≤ m.int) ∧ bif lettersR (List.drop (Int.toNat (IntKind.wrap .i64 (i.int + (1 : Int)))) (Array.toList (ByteArray.data s.str))) then k (Ex.exit (nat_lit 0)) (St.mk [(nat_lit 2, .unk)] []) else k Ex.ret (St.mk [(nat_lit 2, .val .bool (U.b false))] []) else False else bif Nat.blt (μ [.val (.int IntKind.i64) (U.i (IntKind.wrap .i64 (i.int + (1 : Int)))), .val (.int IntKind.i64) m, .val .str s] []) N then (m.int = (↑(ByteArray.size s.str) : Int) ∧ (0 : Int) ≤ IntKind.wrap .i64 (i.int + (1 : Int)) ∧ IntKind.wrap .i64 (i.int + (1 : Int)) ≤ m.int) ∧ bif lettersR (List.drop (Int.toNat (IntKind.wrap .i64 (i.int + (1 : Int)))) (Array.toList (ByteArray.data s.str))) then k (Ex.exit (nat_lit 0)) (St.mk [(nat_lit 2, .unk)] []) else k Ex.ret (St.mk [(nat_lit 2, .val .bool (U.b false))] []) else False else False else k (Ex.exit (nat_lit 0)) (St.mk [(nat_lit 2, .unk)] [])) := by kernel_rfl
theorem name_tree (R : RF) (s : U) : (run nameC Try.f45 [[s]] R) = (bif ByteArray.toList (U.str s) == ByteArray.toList (ByteArray.mk #[]) then R [[U.b false]] else bif decide ((↑(ByteArray.size (U.str s)) : Int) > (16 : Int)) then R [[U.b false]] else ((↑(ByteArray.size
  (U.str s)) : Int) = (↑(ByteArray.size (U.str s)) : Int) ∧ (0 : Int) ≤ (0 : Int) ∧ (0 : Int) ≤ (↑(ByteArray.size (U.str s)) : Int)) ∧ bif lettersR (List.drop (Int.toNat (0 : Int)) (Array.toList (ByteArray.data
  (U.str s)))) then R [[U.b true]] else R [[U.b false]]) := by kernel_rfl
noncomputable def rnameLoop : LoopF := fun _ svs _ k => match svs with
  | [.val (.int .i64) i, .val .str s] =>
    (0 ≤ i.int ∧ i.int ≤ (s.str.size : Int)) ∧
    (bif lettersR (s.str.data.toList.drop i.int.toNat) then k (.exit 0) ⟨[(2, .unk)], []⟩ else k .ret ⟨[(2, vb (.b false))], []⟩)
  | _ => False
noncomputable def rnameC : Ctx := mkC PR eqs0 fnsNil trsNil (loopCons 0 [3, 0] [] rnameLoop noLoops) (outCons 0 [2] [] noOut) noOut
theorem rname_round (pan : KP) (μ : Mu) (N : Nat) (k : KE) (i s : U) : (exec (rnameC.panics pan) (loopBody Try.f31 0) 0 ⟨[(3, vi i), (0, vs s)], []⟩ (again PR (some ([2], [])) none pan [3, 0] [] rnameLoop μ N k)) = (bif decide (i.int < (↑(ByteArray.size s.str) : Int)) then bif decide ((0 : Int) ≤ i.int ∧ i.int < (↑(ByteArray.size s.str) : Int)) then bif decide ((↑(UInt8.toNat (List.getD (Array.toList (ByteArray.data s.str)) (Int.toNat i.int) (0 : UInt8))) : Int) ≥ (97 : Int)) then bif decide ((↑(UInt8.toNat (List.getD (Array.toList (ByteArray.data s.str)) (Int.toNat i.int) (0 : UInt8))) : Int) ≤ (122 : Int)) then bif Nat.blt (μ [.val (.int IntKind.i64) (U.i (IntKind.wrap .i64 (i.int + (1 : Int)))), .val .str s] []) N then ((0 : Int) ≤ IntKind.wrap .i64 (i.int + (1 : Int)) ∧ IntKind.wrap .i64 (i.int + (1 : Int)) ≤ (↑(ByteArray.size s.str) : Int)) ∧ bif lettersR (List.drop (Int.toNat (IntKind.wrap .i64 (i.int + (1 : Int)))) (Array.toList (ByteArray.data s.str))) then k (Ex.exit (nat_lit 0)) (St.mk [(nat_lit 2, .unk)] []) else k Ex.ret (St.mk [(nat_lit 2, .val .bool (U.b false))] []) else False else bif decide ((↑(UInt8.toNat (List.getD (Array.toList (ByteArray.data s.str)) (Int.toNat i.int) (0 : UInt8))) : Int) ≥ (48 : Int)) then bif decide ((↑(UInt8.toNat (List.getD (Array.toList (ByteArray.data s.str)) (Int.toNat i.int) (0 : UInt8))) : Int) ≤ (57 : Int)) then bif Nat.blt (μ [.val (.int IntKind.i64) (U.i (IntKind.wrap .i64 (i.int + (1 : Int)))), .val .str s] []) N then ((0 : Int) ≤ IntKind.wrap .i64 (i.int + (1 : Int)) ∧ IntKind.wrap .i64 (i.int + (1 : Int)) ≤ (↑(ByteArray.size s.str) : Int)) ∧ bif lettersR (List.drop (Int.toNat (IntKind.wrap .i64 (i.int + (1 : Int)))) (Array.toList (ByteArray.data s.str))) then k (Ex.exit (nat_lit 0)) (St.mk [(nat_lit 2, .unk)] []) else k Ex.ret (St.mk [(nat_lit 2, .val .bool (U.b false))] []) else False else bif (↑(UInt8.toNat (List.getD (Array.toList (ByteArray.data s.str)) (Int.toNat i.int) (0 : UInt8))) : Int) == (45 : Int) then bif Nat.blt (μ [.val (.int IntKind.i64) (U.i (IntKind.wrap .i64 (i.int + (1 : Int)))), .val .str s] []) N then ((0 : Int) ≤ IntKind.wrap .i64 (i.int + (1 : Int)) ∧ IntKind.wrap .i64 (i.int + (1 : Int)) ≤ (↑(ByteArray.size s.str) : Int)) ∧ bif lettersR (List.drop (Int.toNat (IntKind.wrap .i64 (i.int + (1 : Int)))) (Array.toList (ByteArray.data s.str))) then k (Ex.exit (nat_lit 0)) (St.mk [(nat_lit 2, .unk)] []) else k Ex.ret (St.mk [(nat_lit 2, .val .bool (U.b false))] []) else False else bif (↑(UInt8.toNat (List.getD (Array.toList (ByteArray.data s.str)) (Int.toNat i.int) (0 : UInt8))) : Int) == (95 : Int) then bif Nat.blt (μ [.val (.int IntKind.i64) (U.i (IntKind.wrap .i64 (i.int + (1 : Int)))), .val .str s] []) N then ((0 : Int) ≤ IntKind.wrap .i64 (i.int + (1 : Int)) ∧ IntKind.wrap .i64 (i.int + (1 : Int)) ≤ (↑(ByteArray.size s.str) : Int)) ∧ bif lettersR (List.drop (Int.toNat (IntKind.wrap .i64 (i.int + (1 : Int)))) (Array.toList (ByteArray.data s.str))) then k (Ex.exit (nat_lit 0)) (St.mk [(nat_lit 2, .unk)] []) else k Ex.ret (St.mk [(nat_lit 2, .val .bool (U.b false))] []) else False else bif !(↑(UInt8.toNat (List.getD (Array.toList (ByteArray.data s.str)) (Int.toNat i.int) (0 : UInt8))) : Int) == (46 : Int) then k Ex.ret (St.mk [(nat_lit 2, .val .bool (U.b false))] []) else bif Nat.blt (μ [.val (.int IntKind.i64) (U.i (IntKind.wrap .i64 (i.int + (1 : Int)))), .val .str s] []) N then ((0 : Int) ≤ IntKind.wrap .i64 (i.int + (1 : Int)) ∧ IntKind.wrap .i64 (i.int + (1 : Int)) ≤ (↑(ByteArray.size s.str) : Int)) ∧ bif lettersR (List.drop (Int.toNat (IntKind.wrap .i64 (i.int + (1 : Int)))) (Array.toList (ByteArray.data s.str))) then k (Ex.exit (nat_lit 0)) (St.mk [(nat_lit 2, .unk)] []) else k Ex.ret (St.mk [(nat_lit 2, .val .bool (U.b false))] []) else False else bif (↑(UInt8.toNat (List.getD (Array.toList (ByteArray.data s.str)) (Int.toNat i.int) (0 : UInt8))) : Int) == (45 : Int) then bif Nat.blt (μ [.val (.int IntKind.i64) (U.i (IntKind.wrap .i64 (i.int + (1 : Int)))), .val .str s] []) N then ((0 : Int) ≤ IntKind.wrap .i64 (i.int + (1 : Int)) ∧ IntKind.wrap .i64 (i.int + (1 : Int)) ≤ (↑(ByteArray.size s.str) : Int)) ∧ bif lettersR (List.drop (Int.toNat (IntKind.wrap .i64 (i.int + (1 : Int)))) (Array.toList (ByteArray.data s.str))) then k (Ex.exit (nat_lit 0)) (St.mk [(nat_lit 2, .unk)] []) else k Ex.ret (St.mk [(nat_lit 2, .val .bool (U.b false))] []) else False else bif (↑(UInt8.toNat (List.getD (Array.toList (ByteArray.data s.str)) (Int.toNat i.int) (0 : UInt8))) : Int) == (95 : Int) then bif Nat.blt (μ [.val (.int IntKind.i64) (U.i (IntKind.wrap .i64 (i.int + (1 : Int)))), .val .str s] []) N then ((0 : Int) ≤ IntKind.wrap .i64 (i.int + (1 : Int)) ∧ IntKind.wrap .i64 (i.int + (1 : Int)) ≤ (↑(ByteArray.size s.str) : Int)) ∧ bif lettersR (List.drop (Int.toNat (IntKind.wrap .i64 (i.int + (1 : Int)))) (Array.toList (ByteArray.data s.str))) then k (Ex.exit (nat_lit 0)) (St.mk [(nat_lit 2, .unk)] []) else k Ex.ret (St.mk [(nat_lit 2, .val .bool (U.b false))] []) else False else bif !(↑(UInt8.toNat (List.getD (Array.toList (ByteArray.data s.str)) (Int.toNat i.int) (0 : UInt8))) : Int) == (46 : Int) then k Ex.ret (St.mk [(nat_lit 2, .val .bool (U.b false))] []) else bif Nat.blt (μ [.val (.int IntKind.i64) (U.i (IntKind.wrap .i64 (i.int + (1 : Int)))), .val .str s] []) N then ((0 : Int) ≤ IntKind.wrap .i64 (i.int + (1 : Int)) ∧ IntKind.wrap .i64 (i.int + (1 : Int)) ≤ (↑(ByteArray.size s.str) : Int)) ∧ bif lettersR (List.drop (Int.toNat (IntKind.wrap .i64 (i.int + (1 : Int)))) (Array.toList (ByteArray.data s.str))) then k (Ex.exit (nat_lit 0)) (St.mk [(nat_lit 2, .unk)] []) else k Ex.ret (St.mk [(nat_lit 2, .val .bool (U.b false))] []) else False else bif decide ((↑(UInt8.toNat (List.getD (Array.toList (ByteArray.data s.str)) (Int.toNat i.int) (0 : UInt8))) : Int) ≥ (48 : Int)) then bif decide ((↑(UInt8.toNat (List.getD (Array.toList (ByteArray.data s.str)) (Int.toNat i.int) (0 : UInt8))) : Int) ≤ (57 : Int)) then bif Nat.blt (μ [.val (.int IntKind.i64) (U.i (IntKind.wrap .i64 (i.int + (1 : Int)))), .val .str s] []) N then ((0 : Int) ≤ IntKind.wrap .i64 (i.int + (1 : Int)) ∧ IntKind.wrap .i64 (i.int + (1 : Int)) ≤ (↑(ByteArray.size s.str) : Int)) ∧ bif lettersR (List.drop (Int.toNat (IntKind.wrap .i64 (i.int + (1 : Int)))) (Array.toList (ByteArray.data s.str))) then k (Ex.exit (nat_lit 0)) (St.mk [(nat_lit 2, .unk)] []) else k Ex.ret (St.mk [(nat_lit 2, .val .bool (U.b false))] []) else False else bif (↑(UInt8.toNat (List.getD (Array.toList (ByteArray.data s.str)) (Int.toNat i.int) (0 : UInt8))) : Int) == (45 : Int) then bif Nat.blt (μ [.val (.int IntKind.i64) (U.i (IntKind.wrap .i64 (i.int + (1 : Int)))), .val .str s] []) N then ((0 : Int) ≤ IntKind.wrap .i64 (i.int + (1 : Int)) ∧ IntKind.wrap .i64 (i.int + (1 : Int)) ≤ (↑(ByteArray.size s.str) : Int)) ∧ bif lettersR (List.drop (Int.toNat (IntKind.wrap .i64 (i.int + (1 : Int)))) (Array.toList (ByteArray.data s.str))) then k (Ex.exit (nat_lit 0)) (St.mk [(nat_lit 2, .unk)] []) else k Ex.ret (St.mk [(nat_lit 2, .val .bool (U.b false))] []) else False else bif (↑(UInt8.toNat (List.getD (Array.toList (ByteArray.data s.str)) (Int.toNat i.int) (0 : UInt8))) : Int) == (95 : Int) then bif Nat.blt (μ [.val (.int IntKind.i64) (U.i (IntKind.wrap .i64 (i.int + (1 : Int)))), .val .str s] []) N then ((0 : Int) ≤ IntKind.wrap .i64 (i.int + (1 : Int)) ∧ IntKind.wrap .i64 (i.int + (1 : Int)) ≤ (↑(ByteArray.size s.str) : Int)) ∧ bif lettersR (List.drop (Int.toNat (IntKind.wrap .i64 (i.int + (1 : Int)))) (Array.toList (ByteArray.data s.str))) then k (Ex.exit (nat_lit 0)) (St.mk [(nat_lit 2, .unk)] []) else k Ex.ret (St.mk [(nat_lit 2, .val .bool (U.b false))] []) else False else bif !(↑(UInt8.toNat (List.getD (Array.toList (ByteArray.data s.str)) (Int.toNat i.int) (0 : UInt8))) : Int) == (46 : Int) then k Ex.ret (St.mk [(nat_lit 2, .val .bool (U.b false))] []) else bif Nat.blt (μ [.val (.int IntKind.i64) (U.i (IntKind.wrap .i64 (i.int + (1 : Int)))), .val .str s] []) N then ((0 : Int) ≤ IntKind.wrap .i64 (i.int + (1 : Int)) ∧ IntKind.wrap .i64 (i.int + (1 : Int)) ≤ (↑(ByteArray.size s.str) : Int)) ∧ bif lettersR (List.drop (Int.toNat (IntKind.wrap .i64 (i.int + (1 : Int)))) (Array.toList (ByteArray.data s.str))) then k (Ex.exit (nat_lit 0)) (St.mk [(nat_lit 2, .unk)] []) else k Ex.ret (St.mk [(nat_lit 2, .val .bool (U.b false))] []) else False else bif (↑(UInt8.toNat (List.getD (Array.toList (ByteArray.data s.str)) (Int.toNat i.int) (0 : UInt8))) : Int) == (45 : Int) then bif Nat.blt (μ [.val (.int IntKind.i64) (U.i (IntKind.wrap .i64 (i.int + (1 : Int)))), .val .str s] []) N then ((0 : Int) ≤ IntKind.wrap .i64 (i.int + (1 : Int)) ∧ IntKind.wrap .i64 (i.int + (1 : Int)) ≤ (↑(ByteArray.size s.str) : Int)) ∧ bif lettersR (List.drop (Int.toNat (IntKind.wrap .i64 (i.int + (1 : Int)))) (Array.toList (ByteArray.data s.str))) then k (Ex.exit (nat_lit 0)) (St.mk [(nat_lit 2, .unk)] []) else k Ex.ret (St.mk [(nat_lit 2, .val .bool (U.b false))] []) else False else bif (↑(UInt8.toNat (List.getD (Array.toList (ByteArray.data s.str)) (Int.toNat i.int) (0 : UInt8))) : Int) == (95 : Int) then bif Nat.blt (μ [.val (.int IntKind.i64) (U.i (IntKind.wrap .i64 (i.int + (1 : Int)))), .val .str s] []) N then ((0 : Int) ≤ IntKind.wrap .i64 (i.int + (1 : Int)) ∧ IntKind.wrap .i64 (i.int + (1 : Int)) ≤ (↑(ByteArray.size s.str) : Int)) ∧ bif lettersR (List.drop (Int.toNat (IntKind.wrap .i64 (i.int + (1 : Int)))) (Array.toList (ByteArray.data s.str))) then k (Ex.exit (nat_lit 0)) (St.mk [(nat_lit 2, .unk)] []) else k Ex.ret (St.mk [(nat_lit 2, .val .bool (U.b false))] []) else False else bif !(↑(UInt8.toNat (List.getD (Array.toList (ByteArray.data s.str)) (Int.toNat i.int) (0 : UInt8))) : Int) == (46 : Int) then k Ex.ret (St.mk [(nat_lit 2, .val .bool (U.b false))] []) else bif Nat.blt (μ [.val (.int IntKind.i64) (U.i (IntKind.wrap .i64 (i.int + (1 : Int)))), .val .str s] []) N then ((0 : Int) ≤ IntKind.wrap .i64 (i.int + (1 : Int)) ∧ IntKind.wrap .i64 (i.int + (1 : Int)) ≤ (↑(ByteArray.size s.str) : Int)) ∧ bif lettersR (List.drop (Int.toNat (IntKind.wrap .i64 (i.int + (1 : Int)))) (Array.toList (ByteArray.data s.str))) then k (Ex.exit (nat_lit 0)) (St.mk [(nat_lit 2, .unk)] []) else k Ex.ret (St.mk [(nat_lit 2, .val .bool (U.b false))] []) else False else False else k (Ex.exit (nat_lit 0)) (St.mk [(nat_lit 2, .unk)] [])) := by kernel_rfl
theorem rname_tree (R : RF) (s : U) : (run rnameC Try.f31 [[s]] R) = (bif ByteArray.toList (U.str s) == ByteArray.toList (ByteArray.mk #[]) then R [[U.b false]] else bif decide ((↑(ByteArray.size (U.str s)) : Int) > (16 : Int)) then R [[U.b false]] else ((0 : Int) ≤ (0 :
  Int) ∧ (0 : Int) ≤ (↑(ByteArray.size (U.str s)) : Int)) ∧ bif lettersR (List.drop (Int.toNat (0 : Int)) (Array.toList (ByteArray.data (U.str s)))) then R [[U.b true]] else R [[U.b false]]) := by kernel_rfl
end Go.Mat
