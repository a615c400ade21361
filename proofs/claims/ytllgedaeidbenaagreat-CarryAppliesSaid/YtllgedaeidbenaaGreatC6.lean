/- A part of the proof of this: the law CarryApplies. Conditions: none. Joined of DenM, DenT, DenU, DenV, DenAm, P1, P2, P70, B1, B70, F70, B71, F71, B72, F72, B73, F73. -/
import Derived.Test.YtllgedaeidbenaaGreatC5
import Derived.LoopN
import Derived.Laws.StructEq
import Derived.ProofKit
import Derived.Deep.Slices
import Derived.Below
import Derived.ShutString
import Derived.Carry
import Derived.OpenShut
import Derived.Test.YtllgedaeidbenaaGreatProg
import Derived.KernelRfl
namespace Go.Den
open Go Go.RowKit
def codeOk (n : Nat) : Code → Bool
  | .region _ ops draw => match draw with | true => opersOk n ops.toList && Region.noSelect ops | false => opersOk n ops.toList
  | .seq a b => match codeOk n a with | true => codeOk n b | false => false
  | .cond _ a b => match codeOk n a with | true => codeOk n b | false => false
  | .block _ a => codeOk n a
  | .loop a => codeOk n a
  | _ => true
def LoopOk (C : Ctx) (c : Nat) (body : Code) : Prop := ∀ ts os F, C.loops c = some (ts, os, F) → ∃ μ : List SV → List Obj → Nat, ∀ (pan : SV → St → Prop) (svs : List SV) (l : List Obj) (k : Ex → St → Prop),
  svs.length = ts.length → l.length = os.length → okS.okSs svs → okOs C.P l → F pan svs l k → exec (C.panics pan) body c ⟨ts.zip svs, os.zip l⟩ (again C.P (C.lout c) (C.lout (c + 1048576)) pan ts os F μ (μ svs l) k)
def LoopsOk (C : Ctx) : Code → Nat → Prop
  | .seq a b, c => LoopsOk C a c ∧ LoopsOk C b c
  | .cond _ a b, c => LoopsOk C a c ∧ LoopsOk C b c
  | .block id a, _ => LoopsOk C a id
  | .loop a, c => LoopsOk C a c ∧ LoopOk C c a
  | _, _ => True
theorem get_keepE (env : List (Nat × SV)) : ∀ (ts : List Nat) (t : Nat), get (keepE env ts) t = get env t ∨ get (keepE env ts) t = .unk
  | [], _ => .inr rfl
  | s :: ts, t => by
    have e : get (keepE env (s :: ts)) t = if s = t then get env s else get (keepE env ts) t := get_cons s t _ _
    rw [e]
    by_cases h : s = t
    · rw [if_pos h, h]; exact .inl rfl
    · rw [if_neg h]; exact get_keepE env ts t
theorem getO_keepO (objs : List (Nat × Obj)) : ∀ (ts : List Nat) (t : Nat) (o : Obj), getO (keepO objs ts) t = some o → getO objs t = some o
  | [], _, _, h => by cases h
  | s :: ts, t, o, h => by
    unfold keepO at h
    split at h
    · rename_i o' ho
      rw [getO_cons] at h
      by_cases hs : s = t
      · rw [if_pos hs] at h; rw [← hs, ho]; exact h
      · rw [if_neg hs] at h; exact getO_keepO objs ts t o h
    · exact getO_keepO objs ts t o h
theorem get_zip (env : List (Nat × SV)) : ∀ (ts : List Nat) (t : Nat), get (ts.zip (gets env ts)) t = get env t ∨ get (ts.zip (gets env ts)) t = .unk
  | [], _ => .inr rfl
  | s :: ts, t => by
    have e : get ((s :: ts).zip (gets env (s :: ts))) t = if s = t then get env s else get (ts.zip (gets env ts)) t := get_cons s t _ _
    rw [e]
    by_cases h : s = t
    · rw [if_pos h, h]; exact .inl rfl
    · rw [if_neg h]; exact get_zip env ts t
theorem getO_zip (objs : List (Nat × Obj)) : ∀ (ts : List Nat) (l : List Obj), getOs objs ts = some l → ∀ (t : Nat) (o : Obj), getO (ts.zip l) t = some o → getO objs t = some o
  | [], l, _, _, _, h => by cases l <;> cases h
  | s :: ts, l, hl, t, o, h => by
    unfold getOs at hl
    split at hl
    · rename_i o' os ho hos
      injection hl with hl
      subst hl
      have h : getO ((s, o') :: ts.zip os) t = some o := h
      rw [getO_cons] at h
      by_cases hs : s = t
      · rw [if_pos hs] at h; rw [← hs, ho]; exact h
      · rw [if_neg hs] at h; exact getO_zip objs ts os hos t o h
    · cases hl
theorem gets_length (env : List (Nat × SV)) : ∀ ts : List Nat, (gets env ts).length = ts.length
  | [] => rfl
  | _ :: ts => by simp [gets, gets_length env ts]
theorem getOs_length (objs : List (Nat × Obj)) : ∀ (ts : List Nat) (l : List Obj), getOs objs ts = some l → l.length = ts.length
  | [], l, h => by simp only [getOs, Option.some.injEq] at h; subst h; rfl
  | s :: ts, l, h => by
    unfold getOs at h
    split at h
    · rename_i o os ho hos
      injection h with h
      subst h
      simp [getOs_length objs ts os hos]
    · cases h
section
variable {C : Ctx} {Θ : Anc} {n : Nat} {Q : Exit → Act → World → Prop}
theorem mask_sim {P : Program} {σ : St} {a : Act} {w : World} {Z : Nat → Prop} {G : Nat → Value} {x : Option (List Nat × List Nat)} (S : Sim P Θ n σ a w Z G) : Sim P Θ n (mask σ x) a w Z G := by
  unfold mask
  split
  · exact S
  · rename_i ts os
    exact S.less (get_keepE _ ts) (getO_keepO _ os)
theorem gets_ok {P : Program} {σ : St} {a : Act} {w : World} {Z : Nat → Prop} {G : Nat → Value} (S : Sim P Θ n σ a w Z G) : ∀ ts : List Nat, okS.okSs (gets σ.env ts)
  | [] => trivial
  | t :: ts => ⟨RepSV.ok (S.slot t), gets_ok S ts⟩
theorem getOs_ok {P : Program} {σ : St} {a : Act} {w : World} {Z : Nat → Prop} {G : Nat → Value} (S : Sim P Θ n σ a w Z G) : ∀ (os : List Nat) (l : List Obj), getOs σ.objs os = some l → okOs P l
  | [], l, h => by simp only [getOs, Option.some.injEq] at h; subst h; trivial
  | o :: os, l, h => by
    unfold getOs at h
    split at h
    · rename_i x xs h1 h2
      injection h with h
      subst h
      exact ⟨RepO.ok (S.obj _ _ h1), getOs_ok S os _ h2⟩
    · cases h
def Pans (C : Ctx) (Θ : Anc) (n : Nat) (Q : Exit → Act → World → Prop) : Prop := ∀ s σ' a' w' Z' G' v, C.pan s σ' → Sim C.P Θ n σ' a' w' Z' G' → RepSV w' Z' G' s v → Q (.panic [{ v := v, recovered := false }]) a' w'
theorem execOps_sound (hC : C.Ok) (hp : Pans C Θ n Q) (hkb : Θ.kb = false) (hka : Θ.ka = false) {ops : Array Oper} {k : St → Prop} (hk : ∀ σ' a' w' Z' G', k σ' → Sim C.P Θ n σ' a' w' Z' G' → Q .normal a' w') :
    ∀ (l : List Oper) (i : Nat) {σ : St} {a : Act} {w : World} {Z : Nat → Prop} {G : Nat → Value}, ops.toList.drop i = l → opersOk n l = true → Sim C.P Θ n σ a w Z G → execOps C ops.toList l σ k →
      wpOps C.P ops Q (List.range' i l.length) a w
  | [], i, σ, a, w, Z, G, _, _, S, h => hk _ _ _ _ _ h S
  | o :: l, i, σ, a, w, Z, G, hl, hok, S, h => by
    unfold opersOk at hok
    split at hok
    · rename_i hoo
      have hi : ops[i]? = some o := by
        rw [← Array.getElem?_toList]
        have := List.getElem?_drop (xs := ops.toList) (i := i) (j := 0)
        rw [hl] at this
        simpa using this.symm
      rw [List.length_cons, List.range'_succ, wpOps_cons]
      refine one_sound hC hi hoo (by simp [Anc.lets, hkb, hka]) S h (fun σ' a' w' Z' G' h' S' => execOps_sound hC hp hkb hka hk l (i + 1) ?_ hok S' h') (fun s σ' w' Z' G' v h' S' hr => hp s σ' _ w' Z' G' v h' S' hr)
      rw [← List.tail_drop, hl]
      rfl
    · cases hok
def toExit : Ex → Exit
  | .normal => .normal
  | .ret => .ret
  | .exit n => .exit n
def hasDraw : Code → Bool
  | .region _ _ draw => draw
  | .seq a b => hasDraw a || hasDraw b
  | .cond _ a b => hasDraw a || hasDraw b
  | .block _ a => hasDraw a
  | .loop a => hasDraw a
  | _ => false
theorem exec_sound (hC : C.Ok) (hkb : Θ.kb = false) (hka : Θ.ka = false) (hN : ∀ b, ¬ Θ.N b) : ∀ (code : Code) (c : Nat) {Q : Exit → Act → World → Prop} {σ : St} {a : Act} {w : World} {Z : Nat → Prop} {G : Nat → Value} {k : Ex → St → Prop}, codeOk n code = true → LoopsOk C code c → Sim C.P Θ n σ a w Z G →
    exec C code c σ k → (∀ e σ' a' w' Z' G', k e σ' → Sim C.P Θ n σ' a' w' Z' G' → Q (toExit e) a' w') → Pans C Θ n Q → (hasDraw code = true → ∀ c a w d v, Q (.panic c) (a.put d v) w → Q (.panic c) a w) → code.wp C.P Q a w
  | .skip, c, Q, σ, a, w, Z, G, k, _, _, S, h, hk, _, _ => wp_skip (hk .normal _ _ _ _ _ h S)
  | .ret, c, Q, σ, a, w, Z, G, k, _, _, S, h, hk, _, _ => wp_ret (hk .ret _ _ _ _ _ h S)
  | .exit m, c, Q, σ, a, w, Z, G, k, _, _, S, h, hk, _, _ => wp_exit (hk (.exit m) _ _ _ _ _ h S)
  | .seq x y, c, Q, σ, a, w, Z, G, k, hok, hl, S, h, hk, hp, hQ => by
    unfold codeOk at hok
    split at hok
    · rename_i hx
      refine wp_seq (exec_sound hC hkb hka hN x c hx hl.1 S h ?_ hp (fun h => hQ (by simp [hasDraw, h])))
      intro e σ' a' w' Z' G' he S'
      cases e with
      | normal => exact exec_sound hC hkb hka hN y c hok hl.2 S' he hk hp (fun h => hQ (by simp [hasDraw, h]))
      | ret => exact hk .ret _ _ _ _ _ he S'
      | exit m => exact hk (.exit m) _ _ _ _ _ he S'
    · cases hok
  | .cond x y z, c, Q, σ, a, w, Z, G, k, hok, hl, S, h, hk, hp, hQ => by
    unfold codeOk at hok
    split at hok
    · rename_i hx
      unfold exec at h
      split at h
      · rename_i u hu
        have hv : a.eval x = .bool u.bool := by have := S.ev x; rw [hu] at this; exact this
        refine wp_cond hv ?_
        rcases cond_some h with ⟨hb, h⟩ | ⟨hb, h⟩
        · rw [hb]; exact exec_sound hC hkb hka hN y c hx hl.1 S h hk hp (fun h => hQ (by simp [hasDraw, h]))
        · rw [hb]; exact exec_sound hC hkb hka hN z c hok hl.2 S h hk hp (fun h => hQ (by simp [hasDraw, h]))
      · cases h
    · cases hok
  | .block id x, c, Q, σ, a, w, Z, G, k, hok, hl, S, h, hk, hp, hQ => by
    refine wp_block (exec_sound hC hkb hka hN x id hok hl S h ?_ hp hQ)
    have hmask : ∀ σ' a' w' Z' G', Sim C.P Θ n σ' a' w' Z' G' → Sim C.P Θ n (mask σ' (C.kout id)) a' w' Z' G' := fun _ _ _ _ _ S' => mask_sim S'
    intro e σ' a' w' Z' G' he S'
    cases e with
    | normal => exact hk .normal _ _ _ _ _ he (hmask _ _ _ _ _ S')
    | ret => exact hk .ret _ _ _ _ _ he S'
    | exit m =>
      show (if m = id then Q .normal a' w' else Q (.exit m) a' w')
      unfold outOf at he
      rcases cond_some he with ⟨hb, he⟩ | ⟨hb, he⟩
      · rw [if_pos (Nat.eq_of_beq_eq_true hb)]
        exact hk .normal _ _ _ _ _ he (hmask _ _ _ _ _ S')
      · rw [if_neg (Nat.ne_of_beq_eq_false hb)]
        exact hk (.exit m) _ _ _ _ _ he S'
  | .loop x, c, Q, σ, a, w, Z, G, k, hok, hl, S, h, hk, hp, hQ => by
    unfold exec at h
    split at h
    · rename_i ts os F hF
      split at h
      · rename_i σ1 hfr
        obtain ⟨Z1, S1⟩ := freezes_sim S hfr
        split at h
        case h_2 => cases h
        rename_i l hos
        obtain ⟨μ, hμ⟩ := hl.2 ts os F hF
        have key : ∀ (N : Nat) (svs : List SV) (l : List Obj) (a : Act) (w : World) (Z : Nat → Prop) (G : Nat → Value), μ svs l < N → svs.length = ts.length → l.length = os.length → okS.okSs svs → okOs C.P l → F C.pan svs l k →
            Sim C.P Θ n ⟨ts.zip svs, os.zip l⟩ a w Z G → Code.rounds C.P x Q N a w := by
          intro N
          induction N with
          | zero => intro svs l a w Z G hlt; omega
          | succ N ih =>
            intro svs l a w Z G hlt h1 h2 ho1 ho2 hFk S1
            rw [rounds_succ]
            refine exec_sound hC hkb hka hN x c hok hl.1 S1 (hμ C.pan svs l k h1 h2 ho1 ho2 hFk) ?_ hp hQ
            intro e σ' a' w' Z' G' he S'
            cases e with
            | normal =>
              simp only [again] at he
              split at he
              · rename_i σ2 hfr2
                obtain ⟨Z2, S2⟩ := freezes_sim S' hfr2
                split at he
                · rename_i l' hl'
                  obtain ⟨hb, he⟩ := cond_only he
                  have hb : μ (gets σ2.env ts) l' < μ svs l := by simpa [Nat.blt_eq] using hb
                  exact ih _ _ _ _ _ _ (by omega) (gets_length _ _) (getOs_length _ _ _ hl') (gets_ok S2 ts) (getOs_ok S2 os l' hl') he (S2.less (get_zip _ ts) (getO_zip _ os l' hl'))
                · cases he
              · cases he
            | ret => exact hk .ret _ _ _ _ _ he (mask_sim S')
            | exit m => exact hk (.exit m) _ _ _ _ _ he (mask_sim S')
        exact wp_loop_rounds (μ (gets σ1.env ts) l + 1) (key _ _ _ _ _ _ _ (Nat.lt_succ_self _) (gets_length _ _) (getOs_length _ _ _ hos) (gets_ok S1 ts) (getOs_ok S1 os l hos) h (S1.less (get_zip _ ts) (getO_zip _ os l hos)))
      · cases h
    · cases h
  | .region id ops draw, c, Q, σ, a, w, Z, G, k, hok, _, S, h, hk, hp, hQ => by
    unfold codeOk at hok
    unfold exec at h
    cases draw with
    | true =>
      simp only [Bool.and_eq_true] at hok
      have I : Inv C.P Θ (noneB C ops.toList) (noneA C ops.toList) n σ a { w with drawn := w.drawn + 1 } Z G (fun _ => False) := ⟨S.drew _, fun _ h => h.elim, fun _ h => h.elim, fun _ _ _ _ _ h => h.elim⟩
      have := draw_sound (Q := Q) hC rfl rfl hok.2 hok.1 hN (hQ rfl) (fun s σ' a' w' Z' G' v h' S' hr => hp s σ' a' w' Z' G' v h' S' hr) (k := fun σ' => k .normal σ') (fun σ' a' w' Z' G' h' S' => hk .normal _ _ _ _ _ h' S') _ _ I h
      exact wp_region_R hC.mixed this
    | false =>
      refine wp_region ?_
      have := execOps_sound (Q := Q) hC hp hkb hka (k := fun σ' => k .normal σ') (fun σ' a' w' Z' G' h' S' => hk .normal _ _ _ _ _ h' S') ops.toList 0 rfl hok S h
      rw [List.range_eq_range']
      simpa using this
end
theorem Ctx.Ok.panics {C : Ctx} (h : C.Ok) (pan : SV → St → Prop) : (C.panics pan).Ok := ⟨h.fns, h.trs, h.eqs, h.mixed, h.exts⟩
theorem LoopsOk.panics {C : Ctx} (pan : SV → St → Prop) : ∀ {code : Code} {c : Nat}, LoopsOk C code c → LoopsOk (C.panics pan) code c
  | .seq _ _, _, h => ⟨LoopsOk.panics pan h.1, LoopsOk.panics pan h.2⟩
  | .cond _ _ _, _, h => ⟨LoopsOk.panics pan h.1, LoopsOk.panics pan h.2⟩
  | .block _ x, c, h => LoopsOk.panics (code := x) pan h
  | .loop _, _, h => ⟨LoopsOk.panics pan h.1, h.2⟩
  | .skip, _, _ => trivial
  | .region _ _ _, _, _ => trivial
  | .rangeFunc _ _ _ _, _, _ => trivial
  | .exit _, _, _ => trivial
  | .scope _, _, _ => trivial
  | .label _, _, _ => trivial
  | .goto _, _, _ => trivial
  | .ret, _, _ => trivial
  | .refuse _, _, _ => trivial
theorem args_rep {P : Program} {w : World} {Z : Nat → Prop} {G : Nat → Value} : ∀ {ts : List TypeId} {us : List (List U)} {svs : List SV} {vs : List Value} {env : List (Nat × SV)} {i : Nat}, unflats P ts us = some svs → args P i ts us = some env → RepSVs w Z none_ svs vs →
    vs.length = ts.length ∧ ∀ t, (get env t = .unk ∨ ∃ v, i ≤ t ∧ vs[t - i]? = some v ∧ RepSV w Z G (get env t) v)
  | [], [], svs, vs, env, i, h, he, hr => by
    simp only [unflats, Option.some.injEq] at h
    subst h
    have hr : vs = [] := hr
    subst hr
    simp only [args, Option.some.injEq] at he
    subst he
    exact ⟨rfl, fun t => .inl rfl⟩
  | [], _ :: _, svs, vs, env, i, h, he, hr => by simp [unflats] at h
  | _ :: _, [], svs, vs, env, i, h, he, hr => by simp [unflats] at h
  | t :: ts, u :: us, svs, vs, env, i, h, he, hr => by
    unfold unflats at h
    unfold args at he
    split at h
    · rename_i s l h1 h2
      injection h with h
      subst h
      rw [h1] at he
      split at he
      · rename_i s' env' hs' henv
        injection he with he
        subst he
        injection hs' with hs'
        subst hs'
        obtain ⟨v, r, rfl, hv, hr⟩ := hr
        obtain ⟨hl, ih⟩ := args_rep h2 henv hr
        refine ⟨by simp [hl], fun t' => ?_⟩
        rw [get_cons]
        by_cases ht : i = t'
        · subst ht
          rw [if_pos rfl]
          exact .inr ⟨v, Nat.le_refl _, by simp, unflat_any h1 hv⟩
        · rw [if_neg ht]
          rcases ih t' with h3 | ⟨v', h3, h4, h5⟩
          · exact .inl h3
          · refine .inr ⟨v', by omega, ?_, h5⟩
            rw [show t' - i = (t' - (i + 1)) + 1 by omega]
            simpa using h4
      · cases he
    · cases h
def resOf (tmps : Array Value) : ResultVar → Sem Value
  | .tmp t => pure (tmps.getD t undef)
  | .cell x t => do loadVar t (← asAddr (tmps.getD x undef))
theorem results_of (fn : Func) (tmps : Array Value) : results fn tmps = (do let vs ← fn.results.mapM (resOf tmps); pure (if h : vs.size = 1 then vs[0] else .tuple vs)) := by
  unfold results
  congr 1
theorem resVals_rep {P : Program} {Θ : Anc} {n : Nat} {σ : St} {a : Act} {w : World} {Z : Nat → Prop} {G : Nat → Value} (S : Sim P Θ n σ a w Z G) : ∀ {l : List ResultVar} {svs : List SV}, resVals P σ l = some svs →
    ∃ vs : List Value, (l.mapM (resOf a.tmps)).run P w = .ok vs w ∧ RepSVs w Z G svs vs
  | [], svs, h => by
    simp only [resVals, Option.some.injEq] at h
    subst h
    exact ⟨[], rfl, rfl⟩
  | .tmp t :: l, svs, h => by
    unfold resVals at h
    split at h
    · rename_i r hr
      injection h with h
      subst h
      obtain ⟨vs, h1, h2⟩ := resVals_rep S hr
      have h0 : (resOf a.tmps (.tmp t)).run P w = .ok (a.tmps.getD t undef) w := rfl
      refine ⟨a.tmps.getD t undef :: vs, ?_, ⟨_, _, rfl, S.slot t, h2⟩⟩
      simp only [List.mapM_cons, Sem.run_bind, h0, h1, Result.andThen, Sem.run_pure]
    · cases h
  | .cell x t :: l, svs, h => by
    unfold resVals at h
    split at h
    · rename_i id off r hp hr
      split at h
      · rename_i cells hob
        split at h
        · rename_i s hs
          injection h with h
          subst h
          obtain ⟨vs, h1, h2⟩ := resVals_rep S hr
          have hx := S.slot x
          rw [hp] at hx
          obtain ⟨b, hG, hv⟩ := hx
          obtain ⟨b', ty, c, g1, g2, g3⟩ := S.obj id _ hob
          rw [hG] at g1
          cases g1
          obtain ⟨v, hl, hrep⟩ := run_load_part (P := P) (o := 0) (b := b) g3 (fun j v hj => by rw [Nat.zero_add, cell_of_row w b j c ty (0, 0) g2]; simpa using hj) hs
          rw [Nat.zero_add] at hl
          have h0 : (resOf a.tmps (.cell x t)).run P w = .ok v w := by
            simp only [resOf, Sem.run_bind, hv, asAddr, Sem.run_pure, Result.andThen, hl]
          refine ⟨v :: vs, ?_, ⟨_, _, rfl, hrep, h2⟩⟩
          simp only [List.mapM_cons, Sem.run_bind, h0, h1, Result.andThen, Sem.run_pure]
        · cases h
      · cases h
    · cases h
def okArgs (P : Program) (ts : List TypeId) (us : List (List U)) : Prop := shapeOk P ts us ∧ ∀ svs, unflats P ts us = some svs → okS.okSs svs
theorem run_sound {C : Ctx} (hC : C.Ok) {f : FuncId} {fn : Func} {code : Code} {us rs : List (List U)} (hf : C.P.funcs[f]? = some fn) (hbody : fn.body = some code) (hname : (fn.name == "runtime.NumGoroutine") = false)
    (hparams : fn.params.size ≤ fn.ntmps) (hok : codeOk fn.ntmps code = true) (hloops : LoopsOk C code 0) (hrun : okArgs C.P fn.params.toList us → run C fn us (· = rs)) : FnOk C.P f fn us rs where
  body := by rw [hbody]; rfl
  name := hname
  calls := by
    intro w Z vs hZ hsh ⟨svs, hsvs, hrep⟩
    have hrun := hrun ⟨hsh, fun svs' h => by rw [hsvs] at h; cases h; exact hrep.ok⟩
    unfold run at hrun
    split at hrun
    · rename_i env henv
      obtain ⟨hl, hargs⟩ := args_rep (G := fun _ => .pointer none) hsvs henv hrep
      have hbd : bodyOf fn = code := by unfold bodyOf; rw [hbody]
      rw [hbd] at hrun
      have hlen : vs.toArray.size = fn.params.size := by simpa using hl
      have S : Sim C.P ⟨w, fun _ => False, fun _ => False, Z, false, false, fun _ => .pointer none, []⟩ fn.ntmps ⟨env, []⟩ { tmps := vs.toArray ++ Array.replicate (fn.ntmps - vs.toArray.size) undef, defers := [] } w Z (fun _ => .pointer none) :=
        { size := by simp only [Array.size_append, Array.size_replicate, hlen]; omega
          calm := rfl
          slot := fun t => by
            rcases hargs t with h | ⟨v, _, h2, h3⟩
            · show RepSV w Z _ (get env t) _
              rw [h]; trivial
            · show RepSV w Z _ (get env t) _
              have ht : t < vs.length := by
                have := (List.getElem?_eq_some_iff.1 h2).1; omega
              have hv : (vs.toArray ++ Array.replicate (fn.ntmps - vs.toArray.size) undef).getD t undef = v := by
                rw [Array.getD_eq_getD_getElem?, Array.getElem?_append_left (by simpa using ht)]
                simp only [Nat.sub_zero] at h2
                simp [h2]
              rw [hv]
              exact h3
          obj := fun id o h => by cases h
          sep := fun id id' o o' b h => by cases h
          free := fun id o b h => by cases h
          keep := fun id o b h => by cases h
          nlt := fun _ h => h.elim
          lt := hZ
          fut := Fut.refl _ w
          new := fun b hb => .inl hb
          sub := fun b hb => hb
          flat := fun _ => rfl
          odd := fun _ _ => rfl
          row := fun _ hb => .inl hb }
      refine calls_of_wp hf hbody (exec_sound (hC.panics fun _ _ => False) rfl rfl (fun _ h => h) code 0 hok (hloops.panics _) S hrun ?_ (fun _ _ _ _ _ _ _ h _ _ => False.elim h) (fun _ c a w d v h => by cases d <;> exact h))
      intro e σ' a' w' Z' G' he S'
      have S' : Sim C.P _ _ _ _ _ _ _ := S'
      have hfin : (match resVals C.P σ' fn.results.toList with | some vs => flats C.P (toU C.P σ'.objs) fn.resultTypes.toList vs | none => none) = some rs ∧ (toExit e = .normal ∨ toExit e = .ret) := by
        unfold finK at he
        split at he
        · rename_i rs' hrs'
          have he : rs' = rs := he
          subst he
          cases e with
          | normal => exact ⟨hrs', .inl rfl⟩
          | ret => exact ⟨hrs', .inr rfl⟩
          | exit m => cases hrs'
        · exact he.elim
      obtain ⟨hfin, hexit⟩ := hfin
      have hpost : ∀ R, (∃ v, (results fn a'.tmps).run C.P w' = .ok v w' ∧ R (Ending.returned v) w') → bodyPost C.P fn R (toExit e) a' w' := by
        intro R ⟨v, h1, h2⟩
        rcases hexit with h | h <;> (rw [h]; exact ⟨S'.calm, v, h1, h2⟩)
      refine hpost _ ?_
      split at hfin
      · rename_i rvs hrv
        obtain ⟨rv, hrun', hrr⟩ := resVals_rep S' hrv
        obtain ⟨svs', hu, hreps⟩ := flats_rep (Zc := fun b => Z' b ∨ Live σ' G' b) (fun c s u v hu hs => toU_rep S' hu hs) hfin hrr
        have hres : (results fn a'.tmps).run C.P w' = .ok (if h : rv.toArray.size = 1 then rv.toArray[0] else .tuple rv.toArray) w' := by
          rw [results_of, Array.mapM_eq_mapM_toList]
          simp [hrun']
        refine ⟨_, hres, _, fun b => Z' b ∨ Live σ' G' b, rfl, S'.fut, fun b hb => .inl (S'.sub b hb), ?_, ?_, svs', hu, ?_⟩
        · rintro b (hb | ⟨id, e, xs, h1, h2⟩)
          · rcases S'.new b hb with h | h | h | h
            · exact .inl h
            · exact h.elim
            · exact h.elim
            · exact (S'.row b hb).imp (fun h => h) fun h2 => ⟨h, h2⟩
          · rcases (S'.free id _ b h1 h2).2 with h3 | h3
            · exact h3.elim
            · exact .inr ⟨h3.elim False.elim (fun h => h), arr_plain (S'.obj id _ h1) h2⟩
        · rintro b (hb | ⟨id, e, xs, h1, h2⟩)
          · exact S'.lt b hb
          · exact RepO.lt S' h1 h2
        · unfold RepRes
          split
          · rename_i s
            obtain ⟨v, t, rfl, hv, ht⟩ := hreps
            have ht : t = [] := ht
            subst ht
            exact hv
          · rename_i hne
            have hl2 := hreps.length
            have h1 : ¬ rv.toArray.size = 1 := by
              intro h
              have h : rv.length = 1 := by simpa using h
              rw [h] at hl2
              obtain ⟨s, hs⟩ := List.length_eq_one_iff.1 hl2
              exact hne s hs
            rw [dif_neg h1]
            exact ⟨_, rfl, by simpa using hreps⟩
      · cases hfin
    · cases hrun
theorem loopsOk_of {C : Ctx} : ∀ {code : Code} {c : Nat}, (∀ p ∈ loopsOf code c, LoopOk C p.1 p.2) → LoopsOk C code c
  | .seq _ _, _, h => ⟨loopsOk_of fun p hp => h p (List.mem_append.2 (.inl hp)), loopsOk_of fun p hp => h p (List.mem_append.2 (.inr hp))⟩
  | .cond _ _ _, _, h => ⟨loopsOk_of fun p hp => h p (List.mem_append.2 (.inl hp)), loopsOk_of fun p hp => h p (List.mem_append.2 (.inr hp))⟩
  | .block id a, _, h => loopsOk_of (code := a) (c := id) h
  | .loop a, c, h => ⟨loopsOk_of (code := a) (c := c) fun p hp => h p (List.mem_cons_of_mem _ hp), h (c, a) (List.mem_cons_self ..)⟩
  | .skip, _, _ => trivial
  | .region _ _ _, _, _ => trivial
  | .rangeFunc _ _ _ _, _, _ => trivial
  | .exit _, _, _ => trivial
  | .scope _, _, _ => trivial
  | .label _, _, _ => trivial
  | .goto _, _, _ => trivial
  | .ret, _, _ => trivial
  | .refuse _, _, _ => trivial
def fnCk (fn : Func) : Bool := fn.body.isSome && !(fn.name == "runtime.NumGoroutine") && Nat.ble fn.params.size fn.ntmps && codeOk fn.ntmps (bodyOf fn)
theorem fn_ok {C : Ctx} (hC : C.Ok) {f : FuncId} {fn : Func} {us rs : List (List U)} (hf : C.P.funcs[f]? = some fn) (hck : fnCk fn = true) (hl : ∀ p ∈ loopsOf (bodyOf fn) 0, LoopOk C p.1 p.2) (hrun : okArgs C.P fn.params.toList us → run C fn us (· = rs)) : FnOk C.P f fn us rs := by
  unfold fnCk at hck
  simp only [Bool.and_eq_true] at hck
  obtain ⟨⟨⟨h1, h2⟩, h3⟩, h4⟩ := hck
  cases hb : fn.body with
  | none => rw [hb] at h1; cases h1
  | some code =>
    have hbd : bodyOf fn = code := by unfold bodyOf; rw [hb]
    rw [hbd] at h4 hl
    exact run_sound hC hf hb (by simpa using h2) (Nat.le_of_ble_eq_true h3) h4 (loopsOk_of hl) hrun
def SpecF (P : Program) (f : FuncId) (S : List (List U) → List (List U)) : Prop := ∀ fn us, P.funcs[f]? = some fn → FnOk P f fn us (S us)
def SpecT (P : Program) (f : FuncId) (F : Tr) : Prop := ∀ fn, P.funcs[f]? = some fn → FnTr P f fn F
abbrev FnTab : Type := FuncId → List (List U) → Option (Option Prop × List (List U))
def fnsNil : FnTab := fun _ _ => none
def fnsCons (g : FuncId) (S : List (List U) → List (List U)) (r : FnTab) : FnTab := fun f us => bif Nat.beq f g then some (none, S us) else r f us
def fnsConsP (g : FuncId) (p : List (List U) → Prop) (S : List (List U) → List (List U)) (r : FnTab) : FnTab := fun f us => bif Nat.beq f g then some (some (p us), S us) else r f us
def SpecFP (P : Program) (f : FuncId) (p : List (List U) → Prop) (S : List (List U) → List (List U)) : Prop := ∀ fn us, P.funcs[f]? = some fn → p us → FnOk P f fn us (S us)
def trsNil : FuncId → Option (List Bool × Tr) := fun _ => none
def trsCons (g : FuncId) (fs : List Bool) (F : Tr) (r : FuncId → Option (List Bool × Tr)) : FuncId → Option (List Bool × Tr) := fun f => bif Nat.beq f g then some (fs, F) else r f
def OkF (P : Program) (T : FnTab) : Prop := ∀ f fn us p rs, P.funcs[f]? = some fn → T f us = some (p, rs) → withP p True → FnOk P f fn us rs
def OkT (P : Program) (T : FuncId → Option (List Bool × Tr)) : Prop := ∀ f fn fs F, P.funcs[f]? = some fn → T f = some (fs, F) → FnTr P f fn F
theorem OkF.nil {P : Program} : OkF P fnsNil := fun _ _ _ _ _ _ h => by cases h
theorem OkT.nil {P : Program} : OkT P trsNil := fun _ _ _ _ _ h => by cases h
theorem OkF.cons {P : Program} {g : FuncId} {S : List (List U) → List (List U)} {r : FnTab} (h : SpecF P g S) (hr : OkF P r) : OkF P (fnsCons g S r) := fun f fn us p rs hf h' hp => by
  unfold fnsCons at h'
  cases hb : Nat.beq f g with
  | true =>
    rw [hb] at h'
    have := Nat.eq_of_beq_eq_true hb
    subst this
    injection h' with h'
    cases h'
    exact h fn us hf
  | false => rw [hb] at h'; exact hr f fn us p rs hf h' hp
theorem OkF.consP {P : Program} {g : FuncId} {pre : List (List U) → Prop} {S : List (List U) → List (List U)} {r : FnTab} (h : SpecFP P g pre S) (hr : OkF P r) : OkF P (fnsConsP g pre S r) := fun f fn us p rs hf h' hp => by
  unfold fnsConsP at h'
  cases hb : Nat.beq f g with
  | true =>
    rw [hb] at h'
    have := Nat.eq_of_beq_eq_true hb
    subst this
    injection h' with h'
    cases h'
    exact h fn us hf hp.1
  | false => rw [hb] at h'; exact hr f fn us p rs hf h' hp
theorem OkT.cons {P : Program} {g : FuncId} {fs : List Bool} {F : Tr} {r : FuncId → Option (List Bool × Tr)} (h : SpecT P g F) (hr : OkT P r) : OkT P (trsCons g fs F r) := fun f fn fs' F' hf h' => by
  unfold trsCons at h'
  cases hb : Nat.beq f g with
  | true =>
    rw [hb] at h'
    have := Nat.eq_of_beq_eq_true hb
    subst this
    injection h' with h'
    cases h'
    exact h fn hf
  | false => rw [hb] at h'; exact hr f fn fs' F' hf h'
def mkC (P : Program) (eqs : TypeId → Option (List IntKind)) (fns : FnTab) (trs : FuncId → Option (List Bool × Tr)) (loops : Nat → Option (List Nat × List Nat × LoopF)) (lout kout : Nat → Option (List Nat × List Nat)) : Ctx :=
  { P := P, eqs := eqs, fns := fns, trs := trs, pan := fun _ _ => False, loops := loops, kout := kout, lout := lout }
theorem mkC_ok {P : Program} {eqs : TypeId → Option (List IntKind)} {fns : FnTab} {trs : FuncId → Option (List Bool × Tr)} {loops : Nat → Option (List Nat × List Nat × LoopF)} {lout kout : Nat → Option (List Nat × List Nat)}
    (he : ∀ t ks, eqs t = some ks → EqOk P t ks) (hm : P.follows .mixedOrders = true) (hf : OkF P fns) (ht : OkT P trs) : (mkC P eqs fns trs loops lout kout).Ok := ⟨hf, ht, he, hm, fun _ _ h => by cases h⟩
def SV.u : SV → U
  | .val _ u => u
  | _ => .i 0
def Obj.xs : Obj → List U
  | .arr _ xs => xs
  | _ => []
@[simp] theorem SV.u_val (c : Ct) (u : U) : (SV.val c u).u = u := rfl
@[simp] theorem Obj.xs_arr (e : TypeId) (xs : List U) : (Obj.arr e xs).xs = xs := rfl
abbrev Mu : Type := List SV → List Obj → Nat
abbrev KE : Type := Ex → St → Prop
abbrev KP : Type := SV → St → Prop
abbrev RF : Type := List (List U) → Prop
def noLoops : Nat → Option (List Nat × List Nat × LoopF) := fun _ => none
def noOut : Nat → Option (List Nat × List Nat) := fun _ => none
def loopCons (c : Nat) (ts os : List Nat) (F : LoopF) (r : Nat → Option (List Nat × List Nat × LoopF)) : Nat → Option (List Nat × List Nat × LoopF) := fun d => bif Nat.beq d c then some (ts, os, F) else r d
def outCons (c : Nat) (ts os : List Nat) (r : Nat → Option (List Nat × List Nat)) : Nat → Option (List Nat × List Nat) := fun d => bif Nat.beq d c then some (ts, os) else r d
end Go.Den

namespace Go.Den
open Go Go.RowKit
def fieldsInt (P : Program) : Nat → List Field → List IntKind → Bool
  | _, [], [] => true
  | n, f :: fs, k :: ks => match P.underlying f.type with
    | some (.int k') => (f.name != "_") && Nat.beq f.offset n && IntKind.same k k' && fieldsInt P (n + 1) fs ks
    | _ => false
  | _, _, _ => false
theorem run_part_int {P : Program} {w : World} {t : TypeId} {k : IntKind} {vs : Array Value} {off : Nat} {v : Value} (hu : P.underlying t = some (.int k)) (hv : vs[off]? = some v) : (_root_.Go.part t vs off).run P w = .ok v w := by
  have hl : off < vs.size := (Array.getElem?_eq_some_iff.1 hv).1
  have hv' : vs[off] = v := (Array.getElem?_eq_some_iff.1 hv).2
  simp only [_root_.Go.part, Sem.run_bind, run_isAgg hu, Result.andThen, aggD]
  simp [Array.getElem?_eq_getElem hl, hv']
theorem eqFields_ints {P : Program} {w : World} : ∀ (fs : List Field) (ks : List IntKind) (n : Nat) (is js : List Int) (xs ys : List Value), fieldsInt P n fs ks = true → is.length = ks.length → js.length = ks.length →
    xs.drop n = List.zipWith Value.int ks is → ys.drop n = List.zipWith Value.int ks js → (Op.eqFields 9999 xs.toArray ys.toArray fs).run P w = .ok (decide (is = js)) w
  | [], [], n, [], [], xs, ys, _, _, _, _, _ => by simp [Op.eqFields]
  | [], _ :: _, _, _, _, _, _, h, _, _, _, _ => by simp [fieldsInt] at h
  | _ :: _, [], _, _, _, _, _, h, _, _, _, _ => by simp [fieldsInt] at h
  | f :: fs, k :: ks, n, i :: is, j :: js, xs, ys, h, hi, hj, hx, hy => by
    unfold fieldsInt at h
    split at h
    · rename_i k' hu
      simp only [Bool.and_eq_true] at h
      obtain ⟨⟨⟨h1, h2⟩, h3⟩, h4⟩ := h
      have h1 : f.name ≠ "_" := by simpa using h1
      have h2 := Nat.eq_of_beq_eq_true h2
      have := same_eq h3
      subst this
      have hx0 : xs[n]? = some (.int k i) := by
        have := List.getElem?_drop (xs := xs) (i := n) (j := 0)
        rw [hx] at this
        simpa using this.symm
      have hy0 : ys[n]? = some (.int k j) := by
        have := List.getElem?_drop (xs := ys) (i := n) (j := 0)
        rw [hy] at this
        simpa using this.symm
      have hpx := run_part_int (w := w) hu (vs := xs.toArray) (off := f.offset) (v := .int k i) (by simpa [h2] using hx0)
      have hpy := run_part_int (w := w) hu (vs := ys.toArray) (off := f.offset) (v := .int k j) (by simpa [h2] using hy0)
      have heq := run_equalIn_int (P := P) w 9998 f.type k k i j hu
      have hx1 : xs.drop (n + 1) = List.zipWith Value.int ks is := by
        rw [← List.tail_drop, hx]; rfl
      have hy1 : ys.drop (n + 1) = List.zipWith Value.int ks js := by
        rw [← List.tail_drop, hy]; rfl
      have ih := eqFields_ints (w := w) fs ks (n + 1) is js xs ys h4 (by simpa using hi) (by simpa using hj) hx1 hy1
      simp only [Op.eqFields, h1, ne_eq, not_false_eq_true, if_true, Sem.run_bind, hpx, hpy, Result.andThen_ok]
      rw [show (9999 : Nat) = 9998 + 1 from rfl, heq]
      simp only [Result.andThen_ok]
      by_cases hij : i = j
      · subst hij
        simp only [BEq.rfl, Bool.not_true, Bool.false_eq_true, if_false]
        rw [ih]
        simp
      · have : (i == j) = false := by simpa using hij
        simp [this, hij]
    · cases h
  | _ :: _, _ :: _, _, [], _, _, _, _, hi, _, _, _ => by simp at hi
  | _ :: _, _ :: _, _, _ :: _, [], _, _, _, _, hj, _, _ => by simp at hj
  | [], [], _, _ :: _, _, _, _, _, hi, _, _, _ => by simp at hi
  | [], [], _, [], _ :: _, _, _, _, _, hj, _, _ => by simp at hj
def eqCk (P : Program) (t : TypeId) (ks : List IntKind) : Bool := match P.underlying t with
  | some (.struct fs) => !P.stoodInHeld t && !P.eqGuardType P.depth t && fieldsInt P 0 fs.toList ks
  | _ => false
theorem eq_ok {P : Program} {t : TypeId} {ks : List IntKind} (h : eqCk P t ks = true) : EqOk P t ks := by
  unfold eqCk at h
  split at h
  · rename_i fs hu
    simp only [Bool.and_eq_true, Bool.not_eq_true'] at h
    obtain ⟨⟨h1, h2⟩, h3⟩ := h
    intro x y is js w hi hj
    have hf : P.fieldsOf t = fs := by unfold Program.fieldsOf; rw [hu]
    have hrun := run_equalIn_struct (P := P) w 9999 t (List.zipWith Value.int ks is).toArray (List.zipWith Value.int ks js).toArray (by rw [hf]; exact hu) h1
    rw [hf, eqFields_ints fs.toList ks 0 is js _ _ h3 hi hj rfl rfl] at hrun
    unfold aggI
    constructor
    · simp only [Sem.run_bind, run_eqGuard_agg w _ t x y _ _ h2, Result.andThen_ok, run_eql_struct]
      rw [show (10000 : Nat) = 9999 + 1 from rfl, hrun]; rfl
    · simp only [Sem.run_bind, run_eqGuard_agg w _ t x y _ _ h2, Result.andThen_ok, run_neq_struct]
      rw [show (10000 : Nat) = 9999 + 1 from rfl, hrun]; rfl
  · cases h
theorem shape1 {P : Program} {t : TypeId} {us : List (List U)} {m : Bool} {cs : List Ct} (hc : Cs P t = some (m, cs)) (h : shapeOk P [t] us) : ∃ u, us = [u] ∧ u.length = cs.length := by
  obtain ⟨u, r, m', cs', rfl, hcs, hl, hr⟩ := h
  rw [hc] at hcs; cases hcs
  have hr : r = [] := hr
  subst hr
  exact ⟨u, rfl, hl⟩
theorem shape2 {P : Program} {t t2 : TypeId} {us : List (List U)} {m m2 : Bool} {cs cs2 : List Ct} (hc : Cs P t = some (m, cs)) (hc2 : Cs P t2 = some (m2, cs2)) (h : shapeOk P [t, t2] us) : ∃ u u2, us = [u, u2] ∧ u.length = cs.length ∧ u2.length = cs2.length := by
  obtain ⟨u, r, m', cs', rfl, hcs, hl, hr⟩ := h
  rw [hc] at hcs; cases hcs
  obtain ⟨u2, rfl, hl2⟩ := shape1 hc2 hr
  exact ⟨u, u2, rfl, hl, hl2⟩
theorem len1 {u : List U} (h : u.length = 1) : ∃ a, u = [a] := List.length_eq_one_iff.1 h
theorem len3 {u : List U} (h : u.length = 3) : ∃ a b c, u = [a, b, c] := match u, h with | [a, b, c], _ => ⟨a, b, c, rfl⟩
theorem bi {b : Bool} {x y : Prop} (h1 : b = true → x) (h2 : b = false → y) : (bif b then x else y) := by
  cases b
  · exact h2 rfl
  · exact h1 rfl
theorem bt {b : Bool} {x y : Prop} (h : b = true) (hx : x) : (bif b then x else y) := by rw [h]; exact hx
theorem bd {p : Prop} [Decidable p] {x y : Prop} (h1 : p → x) (h2 : ¬ p → y) : (bif decide p then x else y) := by
  by_cases h : p
  · rw [decide_eq_true h]; exact h1 h
  · rw [decide_eq_false h]; exact h2 h
theorem dt {p : Prop} [Decidable p] {x y : Prop} (h : p) (hx : x) : (bif decide p then x else y) := by rw [decide_eq_true h]; exact hx
theorem df {p : Prop} [Decidable p] {x y : Prop} (h : ¬ p) (hy : y) : (bif decide p then x else y) := by rw [decide_eq_false h]; exact hy
theorem blt {a b : Nat} {x y : Prop} (h : a < b) (hx : x) : (bif Nat.blt a b then x else y) := bt (by simpa [Nat.blt_eq] using h) hx
theorem loops_one {C : Ctx} {code : Code} {c : Nat} {b : Code} (h : loopsOf code 0 = [(c, b)]) (hl : LoopOk C c b) : ∀ p ∈ loopsOf code 0, LoopOk C p.1 p.2 := by
  rw [h]; intro p hp
  have : p = (c, b) := by simpa using hp
  subst this; exact hl
theorem loops_three {C : Ctx} {code : Code} {c c' c2 : Nat} {b b' b2 : Code} (h : loopsOf code 0 = [(c, b), (c', b'), (c2, b2)]) (hl : LoopOk C c b) (hl' : LoopOk C c' b') (hl2 : LoopOk C c2 b2) : ∀ p ∈ loopsOf code 0, LoopOk C p.1 p.2 := by
  rw [h]; intro p hp
  rcases List.mem_cons.1 hp with hp | hp
  · subst hp; exact hl
  rcases List.mem_cons.1 hp with hp | hp
  · subst hp; exact hl'
  · have : p = (c2, b2) := by simpa using hp
    subst this; exact hl2
theorem loops_none {C : Ctx} {code : Code} (h : loopsOf code 0 = []) : ∀ p ∈ loopsOf code 0, LoopOk C p.1 p.2 := by
  rw [h]; intro p hp; cases hp
structure Holds (p : Prop) : Prop where
  out : p
theorem Holds.eq {a b : Prop} (h : a = b) (hb : b) : Holds a := ⟨by rw [h]; exact hb⟩
theorem fn_okH {C : Ctx} (hC : C.Ok) {f : FuncId} {fn : Func} {us rs : List (List U)} (hf : C.P.funcs[f]? = some fn) (hck : fnCk fn = true) (hl : ∀ p ∈ loopsOf (bodyOf fn) 0, LoopOk C p.1 p.2) (hrun : okArgs C.P fn.params.toList us → Holds (run C fn us (· = rs))) : FnOk C.P f fn us rs :=
  fn_ok hC hf hck hl fun h => (hrun h).out
theorem nt {b : Bool} (h : (!b) = true) : b = false := by simpa using h
theorem nf {b : Bool} (h : (!b) = false) : b = true := by simpa using h
theorem loopOk_of {C : Ctx} {c : Nat} {b : Code} {ts os : List Nat} {F : LoopF} (hF : C.loops c = some (ts, os, F)) (μ : Mu)
    (h : ∀ (pan : KP) (svs : List SV) (l : List Obj) (k : KE), okS.okSs svs → okOs C.P l → F pan svs l k → Holds (exec (C.panics pan) b c ⟨ts.zip svs, os.zip l⟩ (again C.P (C.lout c) (C.lout (c + 1048576)) pan ts os F μ (μ svs l) k))) : LoopOk C c b := by
  intro ts' os' F' h'
  rw [hF] at h'
  cases h'
  exact ⟨μ, fun pan svs l k _ _ h1 h2 h3 => (h pan svs l k h1 h2 h3).out⟩
end Go.Den

namespace Go.Den
open Go Go.RowKit Go.ChangeShapes Go.WideShapes Go.Deep
def offOk (P : Program) (ok : TypeId → Bool) (n : Nat) : Nat → List Field → Bool
  | _, [] => true
  | off, f :: fs => match cts P n f.type with
    | some (_, cs) => Nat.beq f.offset off && Nat.beq (P.cellsOf f.type) cs.length && ok f.type && offOk P ok n (off + cs.length) fs
    | none => false
def readOk (P : Program) : Nat → TypeId → Bool
  | 0, _ => false
  | n + 1, t => match P.underlying t with
    | some (.int _) => true
    | some .bool => true
    | some .string => true
    | some (.slice e) => match cts P n e with
      | some (_, cs) => Nat.beq (P.cellsOf e) cs.length && Nat.blt 0 cs.length && readOk P n e
      | none => false
    | some (.struct fs) => match fldCts (cts P n) fs.toList with
      | some cs => Nat.beq (P.cellsOf t) cs.length && offOk P (readOk P n) n 0 fs.toList
      | none => false
    | _ => false
theorem cts_false {P : Program} : ∀ {n : Nat} {t : TypeId} {cs : List Ct}, cts P n t = some (false, cs) → ∃ c, cs = [c]
  | 0, t, cs, h => by cases h
  | n + 1, t, cs, h => by
    unfold cts at h
    repeat' split at h
    all_goals first | (cases h; exact ⟨_, rfl⟩) | cases h
section
variable {H : Type} {enc : TypeId × Value → H} {P : Program} {w : World} {base : Nat} {sp : Nat → Bool} {held : Bool}
theorem RepL.cat {w : World} {Z : Nat → Prop} : ∀ {cs ds : List Ct} {v x : List Value} {us ys : List U}, RepL w Z cs v us → us.length = cs.length → RepL w Z ds x ys → RepL w Z (cs ++ ds) (v ++ x) (us ++ ys)
  | [], ds, v, x, us, ys, hv, hu, hx => by
    have hv : v = [] := hv
    have hu : us = [] := List.eq_nil_of_length_eq_zero hu
    subst hv hu
    exact hx
  | c :: cs, ds, v, x, [], ys, hv, hu, hx => by simp at hu
  | c :: cs, ds, v, x, u :: us, ys, hv, hu, hx => by
    obtain ⟨a, t, rfl, hr, ht⟩ := hv
    exact ⟨a, t ++ x, rfl, hr, RepL.cat (us := us) ht (by simpa using hu) hx⟩
theorem cell_lt {a : Addr} {v : Value} (h : w.cell? a = some v) : a.block < w.heap.size ∧ a = ⟨a.block, a.off, none⟩ := by
  unfold World.cell? at h
  split at h
  · rename_i c e fr hb
    split at h
    · cases h
    · rename_i hs
      refine ⟨(Array.getElem?_eq_some_iff.1 hb).1, ?_⟩
      obtain ⟨b, o, s⟩ := a
      cases s with
      | none => rfl
      | some x => simp at hs
  · cases h
theorem listOf {p : Nat → U → Prop} : ∀ (n : Nat), (∀ i, i < n → ∃ u, p i u) → ∃ L : List U, L.length = n ∧ ∀ i, i < n → p i (U.at L i)
  | 0, _ => ⟨[], rfl, fun i hi => by omega⟩
  | n + 1, h => by
    obtain ⟨L, hl, hp⟩ := listOf n fun i hi => h i (by omega)
    obtain ⟨u, hu⟩ := h n (by omega)
    refine ⟨L ++ [u], by simp [hl], fun i hi => ?_⟩
    by_cases hin : i < n
    · have := hp i hin
      rw [at_getElem _ _ (by omega)] at this
      rw [at_getElem _ _ (by simp; omega), List.getElem_append_left (by omega)]
      exact this
    · have : i = n := by omega
      subst this
      rw [at_getElem _ _ (by simp; omega), List.getElem_append_right (by omega)]
      simpa [hl] using hu
theorem flds_rep {n : Nat} {ok : TypeId → Bool} {vals : List Value} {Z : Nat → Prop}
    (ih : ∀ t m cs vs, cts P n t = some (m, cs) → ok t = true → (∃ fuel x, DataW.trod enc P w base sp held fuel t vs = some x) → ∃ us, us.length = cs.length ∧ RepL w Z cs vs us) :
    ∀ (fs : List Field) (off : Nat) (cs : List Ct), fldCts (cts P n) fs = some cs → offOk P ok n off fs = true → (∀ f ∈ fs, ∃ fuel x, DataW.trod enc P w base sp held fuel f.type ((vals.drop f.offset).take (P.cellsOf f.type)) = some x) →
      vals.length = off + cs.length → ∃ us, us.length = cs.length ∧ RepL w Z cs (vals.drop off) us
  | [], off, cs, h, _, _, hl => by
    simp only [fldCts, Option.some.injEq] at h
    subst h
    refine ⟨[], rfl, ?_⟩
    show vals.drop off = []
    rw [List.drop_of_length_le (by simp at hl; omega)]
  | f :: fs, off, cs, h, ho, ht, hl => by
    unfold fldCts at h
    unfold offOk at ho
    split at h
    · rename_i m c1 c2 h1 h2
      injection h with h
      subst h
      rw [h1] at ho
      simp only [Bool.and_eq_true] at ho
      obtain ⟨⟨⟨ho1, ho2⟩, ho3⟩, ho4⟩ := ho
      have ho1 := Nat.eq_of_beq_eq_true ho1
      have ho2 := Nat.eq_of_beq_eq_true ho2
      simp only [List.length_append] at hl
      obtain ⟨u1, g1, g2⟩ := ih _ _ _ _ h1 ho3 (ht f (List.mem_cons_self ..))
      obtain ⟨u2, g3, g4⟩ := flds_rep ih fs (off + c1.length) c2 h2 ho4 (fun f' hf' => ht f' (List.mem_cons_of_mem _ hf')) (by omega)
      refine ⟨u1 ++ u2, by simp [g1, g3], ?_⟩
      rw [ho1, ho2] at g2
      have := RepL.cat g2 g1 g4
      have hsp : (vals.drop off).take c1.length ++ vals.drop (off + c1.length) = vals.drop off := by
        rw [← List.drop_drop, List.take_append_drop]
      rw [hsp] at this
      exact this
    · cases h
theorem trod_rep : ∀ (n : Nat) (t : TypeId) (m : Bool) (cs : List Ct) (vals : List Value), cts P n t = some (m, cs) → readOk P n t = true → (∃ fuel x, DataW.trod enc P w base sp held fuel t vals = some x) →
    ∃ us, us.length = cs.length ∧ RepL w (fun b => b < w.heap.size) cs vals us
  | 0, _, _, _, _, h, _, _ => by cases h
  | n + 1, t, m, cs, vals, h, hr, ⟨fuel, x, hx⟩ => by
    unfold cts at h
    unfold readOk at hr
    split at h
    · rename_i k hu
      cases h
      obtain ⟨i, rfl, _, hw⟩ := DataW.trod_int hu hx
      exact ⟨[.i i], rfl, _, [], rfl, ⟨rfl, by simpa [Lit.wf] using hw⟩, rfl⟩
    · rename_i hu
      cases h
      obtain ⟨b, rfl, _⟩ := DataW.trod_bool hu hx
      exact ⟨[.b b], rfl, _, [], rfl, rfl, rfl⟩
    · rename_i hu
      cases h
      obtain ⟨s, rfl, _, hs⟩ := DataW.trod_string hu hx
      exact ⟨[.s s], rfl, _, [], rfl, ⟨rfl, hs⟩, rfl⟩
    · rename_i e hu
      rw [hu] at hr
      simp only at hr
      split at h
      · rename_i m' cs' hc
        cases h
        rw [hc] at hr
        simp only [Bool.and_eq_true] at hr
        obtain ⟨⟨hr1, hr2⟩, hr3⟩ := hr
        have hr1 := Nat.eq_of_beq_eq_true hr1
        have hr2 : 0 < cs'.length := by simpa [Nat.blt_eq] using hr2
        rcases open_slice hu hx with ⟨rfl, _⟩ | ⟨a, len, cap, mm, n', D, Pl, rfl, hb, hl, hm, hmm, _, hi⟩
        · exact ⟨[.l []], rfl, _, [], rfl, ⟨none, 0, rfl, Nat.le_refl _, Nat.zero_le _, fun k hk => absurd hk (by simp)⟩, rfl⟩
        · have hle : len ≤ mm := by rw [hmm]; split <;> omega
          have hA : 0 < len → a.block < w.heap.size ∧ a = ⟨a.block, a.off, none⟩ := fun hp => by
            obtain ⟨vs, h1, _⟩ := hi 0 (by omega)
            rw [hr1] at h1
            obtain ⟨_, h3, h4⟩ := World.cells?_some h1
            have hv := h4 0 hr2
            rw [List.getElem?_eq_getElem (by omega)] at hv
            have h0 : (a.add (0 * cs'.length)).add 0 = a := by simp [Addr.add]
            rw [h0] at hv
            exact cell_lt hv
          have hel : ∀ i, i < len → ∃ u, a = ⟨a.block, a.off, none⟩ ∧ a.block < w.heap.size ∧ RepCs w (fun b => b < w.heap.size) cs' a.block (a.off + i * cs'.length) (elemU m' u) := fun i hil => by
            obtain ⟨vs, h1, h2⟩ := hi i (by omega)
            rw [hr1] at h1
            obtain ⟨_, h3, h4⟩ := World.cells?_some h1
            obtain ⟨us, g1, g2⟩ := trod_rep n e m' cs' vs hc hr3 ⟨_, _, h2⟩
            obtain ⟨q1, ha⟩ := hA (by omega)
            refine ⟨ofElem m' us, ha, q1, ?_⟩
            have hE := RepL.elem (m := m') (fun hm0 => by subst hm0; exact cts_false hc) g2
            refine RepL.cells hE fun j v hj => ?_
            have hjl : j < vs.length := (List.getElem?_eq_some_iff.1 hj).1
            rw [← hj, ← h4 j (by omega)]
            congr 1
            obtain ⟨b, o, s⟩ := a
            cases ha
            by_cases hi0 : i * cs'.length = 0 <;> by_cases hj0 : j = 0 <;> simp [Addr.add, hi0, hj0, Nat.add_assoc]
          obtain ⟨L, hL, hp⟩ := listOf len hel
          refine ⟨[.l L], rfl, _, [], rfl, ⟨some a, cap, by rw [U.at]; simp [hL], by rw [U.at]; simpa [hL] using hl, hm, fun k hk => ?_⟩, rfl⟩
          obtain ⟨q1, q2, q3⟩ := hp k (by simpa [U.at, hL] using hk)
          exact ⟨a.block, a.off, by rw [← q1], q2, q3⟩
      · cases h
    · rename_i fs hu
      rw [hu] at hr
      simp only at hr
      split at h
      · rename_i cs' hc
        cases h
        rw [hc] at hr
        simp only [Bool.and_eq_true] at hr
        have hr1 := Nat.eq_of_beq_eq_true hr.1
        obtain ⟨xs, n', rfl, _, hlen, hxs, hf⟩ := DataW.trod_struct hu hx
        have := flds_rep (enc := enc) (base := base) (sp := sp) (held := held) (vals := vals) (fun t m cs vs a b c => trod_rep n t m cs vs a b c) fs.toList 0 _ hc hr.2 (fun f hfm => by
          obtain ⟨i, hi, hfi⟩ := List.mem_iff_getElem.1 hfm
          have hfi' : fs[i]? = some f := by
            rw [← hfi, ← Array.getElem?_toList, List.getElem?_eq_getElem hi]
          have := hf i f hfi'
          rw [List.getElem?_eq_getElem (by simp at hi; omega)] at this
          exact ⟨_, _, this⟩) (by omega)
        simpa using this
      · cases h
    · rename_i hu
      rename_i d _ _ _ _ _
      rw [hu] at hr
      split at hr <;> first | (rename_i hh; cases hh; simp_all) | cases hr
    · cases h
end
end Go.Den

namespace Go.Den
open Go Go.RowKit Go.ChangeShapes Go.WideShapes Go.Deep
section
variable {H : Type} {enc : TypeId × Value → H} {P : Program} {w : World} {base : Nat} {sp : Nat → Bool} {held : Bool}
theorem arg_rep {t : TypeId} {m : Bool} {cs : List Ct} {v : Value} {d : DataW H} {ps : List MemPlace} {r : Reach} {b0 : Nat} (hc : Cs P t = some (m, cs)) (hr : readOk P 8 t = true) (hv : Value.okWide P w r b0 t v) (h : DataW.Trod enc P w base sp held t v d ps) :
    ∃ us s, us.length = cs.length ∧ unflat P t us = some s ∧ RepSV w (fun b => b < w.heap.size) none_ s v := by
  obtain ⟨fuel, hx⟩ := h
  obtain ⟨us, hl, hR⟩ := trod_rep 8 t m cs _ hc hr ⟨_, _, hx⟩
  have hc' := hc
  unfold unflat
  rw [hc]
  have hone : ∀ {c : Ct}, cs = [c] → v.cells = #[v] → ∃ s, (match some (false, cs) with | some (true, cs) => some (SV.agg (vals cs us)) | some (false, [c]) => some (.val c (U.at us 0)) | _ => none) = some s ∧ RepSV w (fun b => b < w.heap.size) none_ s v := fun {c} hcs hvc => by
    subst hcs
    rw [hvc] at hR
    obtain ⟨x, l, he, hC, _⟩ := hR
    have he : v = x := by simp at he; exact he.1
    subst he
    exact ⟨_, rfl, hC⟩
  unfold cts at hc'
  split at hc'
  · rename_i k hu
    cases hc'
    obtain ⟨n, rfl⟩ := okWide_int hu hv
    obtain ⟨s, h1, h2⟩ := hone rfl rfl
    exact ⟨us, s, hl, h1, h2⟩
  · rename_i hu
    cases hc'
    obtain ⟨n, rfl⟩ := okWide_bool hu hv
    obtain ⟨s, h1, h2⟩ := hone rfl rfl
    exact ⟨us, s, hl, h1, h2⟩
  · rename_i hu
    cases hc'
    obtain ⟨n, rfl⟩ := okWide_string hu hv
    obtain ⟨s, h1, h2⟩ := hone rfl rfl
    exact ⟨us, s, hl, h1, h2⟩
  · rename_i e hu
    split at hc'
    · cases hc'
      obtain ⟨a, l, c, rfl⟩ := okWide_slice hu hv
      obtain ⟨s, h1, h2⟩ := hone rfl rfl
      exact ⟨us, s, hl, h1, h2⟩
    · cases hc'
  · rename_i fs hu
    split at hc'
    · cases hc'
      obtain ⟨vs, rfl, _⟩ := okWide_struct hu hv
      exact ⟨us, _, hl, rfl, vs, rfl, hR.vals⟩
    · cases hc'
  · rename_i hu1 hu2 hu3 hu4 hu5 hu
    unfold readOk at hr
    rw [hu] at hr
    split at hr <;> first | (rename_i hh; cases hh; simp_all) | cases hr
  · cases hc'
def argCk (P : Program) (t : TypeId) : Bool := P.readableRec t && decide (t < P.types.size) && readOk P 8 t && (Cs P t).isSome
def argsCk (P : Program) : List TypeId → Bool
  | [] => true
  | t :: ts => argCk P t && argsCk P ts
theorem argsD_rep : ∀ {ts : List TypeId} {vs : List Value} {ds : List (DataW H)} {ps : List MemPlace} {r : Reach} {b0 : Nat}, argsCk P ts = true → (∀ (j : Nat) t v, ts[j]? = some t → vs[j]? = some v → Value.okWide P w r b0 t v) → DataW.TrodAll enc P w base sp held ts vs ds ps →
    ds.length = ts.length ∧ ∃ us, shapeOk P ts us ∧ ArgsRep P w (fun b => b < w.heap.size) ts us vs
  | [], vs, ds, ps, _, _, _, _, h => by
    obtain ⟨rfl, rfl, _⟩ := trodAll_nil h
    exact ⟨rfl, [], rfl, [], rfl, rfl⟩
  | t :: ts, vs, ds, ps, r, b0, hck, hv, h => by
    obtain ⟨v0, vs0, d0, ds0, p0, q0, rfl, rfl, rfl, h0, r0⟩ := trodAll_cons h
    unfold argsCk at hck
    rw [Bool.and_eq_true] at hck
    have hck1 := hck.1
    unfold argCk at hck1
    simp only [Bool.and_eq_true] at hck1
    obtain ⟨⟨_, hck2⟩, hck3⟩ := hck1
    obtain ⟨⟨m, cs⟩, hcs⟩ := Option.isSome_iff_exists.1 hck3
    obtain ⟨u, s, h1, h2, h3⟩ := arg_rep hcs hck2 (hv 0 t v0 rfl rfl) h0
    obtain ⟨h4, us, h5, svs, h6, h7⟩ := argsD_rep hck.2 (fun j t v ht hv' => hv (j + 1) t v (by simpa using ht) (by simpa using hv')) r0
    refine ⟨by simp [h4], u :: us, ⟨u, us, m, cs, rfl, hcs, h1, h5⟩, s :: svs, ?_, v0, vs0, rfl, h3, h7⟩
    unfold unflats
    rw [h2, h6]
theorem args_stay (hl : laidOutB P = true) {W W' : World} (hb : Below W.heap.size W W') {sp' : Nat → Bool} : ∀ {ts : List TypeId} {vs : List Value} {ds : List (DataW H)} {ps : List MemPlace}, argsCk P ts = true →
    DataW.TrodAll enc P W 0 (fun _ => true) true ts vs ds ps → (∀ p ∈ ps, p.block < W.heap.size) → (∀ p ∈ ps, sp' p.block = true) → DataW.TrodAll enc P W' 0 sp' true ts vs ds ps
  | [], vs, ds, ps, _, h, _, _ => by
    obtain ⟨rfl, rfl, rfl⟩ := trodAll_nil h
    exact trodAll_mk0
  | t :: ts, vs, ds, ps, hck, h, hlt, hsp => by
    obtain ⟨v0, vs0, d0, ds0, p0, q0, rfl, rfl, rfl, h0, r0⟩ := trodAll_cons h
    unfold argsCk at hck
    rw [Bool.and_eq_true] at hck
    have hck1 := hck.1
    unfold argCk at hck1
    simp only [Bool.and_eq_true, decide_eq_true_eq] at hck1
    obtain ⟨⟨⟨hk1, hk2⟩, _⟩, _⟩ := hck1
    refine trodAll_cons_mk (WideElems.Trod_stays hl hk1 hk2 h0 (fun x hx => hb.same (hlt x (List.mem_append.2 (.inl hx)))) (fun x hx => hsp x (List.mem_append.2 (.inl hx)))) ?_
    exact args_stay hl hb hck.2 r0 (fun x hx => hlt x (List.mem_append.2 (.inr hx))) (fun x hx => hsp x (List.mem_append.2 (.inr hx)))
end
theorem law_calls {H : Type} {enc : TypeId × Value → H} {P : Program} {f : FuncId} {fn : Func} {s : ChangeSpec} {tb : TypeId} {apart handsOn : Bool} (hf : P.funcs[f]? = some fn) (hS : SpecF P f fun _ => [[.b true]]) (hrt : fn.resultTypes = #[tb]) (htb : P.underlying tb = some .bool)
    (hl : laidOutB P = true) (hck : argsCk P fn.params.toList = true) (hsv : s.vars = []) (hs : ∀ ds : List (DataW H), ds.length = fn.params.size → s.fn H ds = { results := [.lit (.bool true)], args := ds })
    {W : World} {base : Nat} {args : Array Value} {ds gs : List (DataW H)} {before : List MemPlace} (hval : ∀ (j : Nat) t v, fn.params[j]? = some t → args[j]? = some v → Value.okWide P W .any base t v)
    (hW : DataW.Whole enc P fn.params.toList s.vars apart W args.toList ds gs before) :
    Calls P f args W fun e W' => ∃ v, e = .returned v ∧ s.post enc P fn apart true handsOn false W args v W' := by
  have hlt := hW.lt
  have hW' := hW
  obtain ⟨p, q, hA, hV, rfl, _, _⟩ := hW
  rw [hsv] at hV
  obtain ⟨rfl, rfl⟩ := trodVars_none hV
  rw [List.append_nil] at hlt hW'
  obtain ⟨hlen, us, hsh, hrep⟩ := argsD_rep (enc := enc) hck (fun j t v ht hv => hval j t v (by simpa using ht) (by simpa using hv)) hA
  have hfn := hS fn us hf
  have hc := hfn.calls W (fun b => b < W.heap.size) args.toList (fun b hb => hb) hsh hrep
  rw [show args.toList.toArray = args by simp] at hc
  refine hc.mono fun e W' ⟨v, Z', he, hfut, _, _, _, svs, hsvs, hres⟩ => ⟨v, he, ?_⟩
  have hb : Below W.heap.size W W' := ⟨hfut.os, hfut.tape, hfut.output, hfut.size, fun k hk => hfut.block k hk (fun h => h)⟩
  have hcb : Cs P tb = some (false, [.bool]) := by simp [Cs, cts, htb]
  have hv : v = .bool true := by
    rw [hrt] at hsvs
    have : unflats P [tb] [[U.b true]] = some [.val .bool (.b true)] := by
      unfold unflats unflat
      rw [hcb]
      rfl
    have h2 : unflats P (#[tb] : Array TypeId).toList [[U.b true]] = some [.val .bool (.b true)] := this
    rw [h2] at hsvs
    cases hsvs
    exact hres
  subst hv
  have hsfn : s.fn H (ds ++ []) = { results := [.lit (.bool true)], args := ds } := by
    rw [List.append_nil]; exact hs ds (by rw [hlen]; simp)
  refine ⟨ds, [], p, [], p, [], hW', ?_, ?_, ?_, hb.frame _, fun h => by cases h⟩
  · rw [hsfn, hrt]
    exact trodAll_cons_mk (shut_bool htb true) trodAll_mk0
  · rw [hsfn]
    exact args_stay hl hb hck hA hlt fun x hx => by simpa using hlt x hx
  · rw [hsfn, hsv]
    exact rfl
end Go.Den

namespace Go.Den
open Go
theorem fnOk_true {P : Program} {f : FuncId} {fn : Func} {tb : TypeId} (hb : fn.body.isNone = false) (hn : (fn.name == "runtime.NumGoroutine") = false) (hp : fn.params.toList = []) (hrt : fn.resultTypes.toList = [tb]) (htb : P.underlying tb = some .bool)
    (hc : ∀ w, Calls P f #[] w fun r w' => r = .returned (.bool true) ∧ w'.os = w.os ∧ w'.tape = w.tape ∧ w'.output = w.output ∧ w.heap.size ≤ w'.heap.size ∧ ∀ b, b < w.heap.size → w'.heap[b]? = w.heap[b]?) : FnOk P f fn [] [[.b true]] where
  body := hb
  name := hn
  calls := by
    intro w Z vs hZ _ ⟨svs, h1, h2⟩
    rw [hp] at h1
    have h1 : some [] = some svs := h1
    injection h1 with h1
    subst h1
    have h2 : vs = [] := h2
    subst h2
    have hcb : Cs P tb = some (false, [.bool]) := by simp [Cs, cts, htb]
    refine (hc w).mono fun e w' ⟨k1, k2, k3, k4, k5, k6⟩ => ⟨.bool true, Z, k1, ⟨k2, k3, k4, k5, fun k hk _ => k6 k hk⟩, fun _ h => h, fun _ h => .inl h, fun b hb => Nat.lt_of_lt_of_le (hZ b hb) k5, [.val .bool (.b true)], ?_, rfl⟩
    rw [hrt]
    unfold unflats unflat
    rw [hcb]
    rfl
end Go.Den

namespace Go.Mat
open Go Go.Den
theorem i64_in {x : Int} (h : -9223372036854775808 ≤ x) (h' : x ≤ 9223372036854775807) : IntKind.wrap .i64 x = x := by
  simp only [IntKind.wrap, IntKind.bits, IntKind.signed]; simp; split <;> omega
end Go.Mat

namespace Go.Mat
open Go Go.Den
abbrev e1 (s : U) : U := nth (.i 0) s.list 1
abbrev e2 (s : U) : U := nth (.i 0) s.list 2
abbrev e3 (s : U) : U := nth (.i 0) s.list 3
abbrev e4 (s : U) : U := nth (.i 0) s.list 4
theorem drop_at : ∀ {L : List U} {i : Nat}, i < L.length → L.drop i = U.at L i :: L.drop (i + 1)
  | _ :: _, 0, _ => rfl
  | _ :: L, i + 1, h => drop_at (L := L) (i := i) (by simpa using h)
end Go.Mat

namespace Go.Mat
open Go Go.Den
theorem overU_nil (xs : List U) (j : Nat) : overU xs j [] = xs := by simp [overU]
theorem overU_end {xs : List U} {j : Nat} (h : xs.length ≤ j) (ys : List U) : overU xs j ys = xs := by
  unfold overU
  rw [Nat.sub_eq_zero_of_le h, List.take_zero, List.take_of_length_le h, List.drop_of_length_le (by simpa using h)]
  simp
theorem overU_len {xs : List U} {j : Nat} (h : j ≤ xs.length) (ys : List U) : (overU xs j ys).length = xs.length := by
  simp only [overU, List.length_append, List.length_take, List.length_drop]
  omega
theorem overU_set {xs : List U} {j : Nat} (h : j < xs.length) (y : U) (ys : List U) : overU (xs.set j y) (j + 1) ys = overU xs j (y :: ys) := by
  unfold overU
  rw [List.length_set, show xs.length - j = (xs.length - (j + 1)) + 1 by omega, List.take_succ_cons]
  have t1 : (xs.set j y).take (j + 1) = xs.take j ++ [y] := by
    rw [List.take_succ_eq_append_getElem (by rw [List.length_set]; exact h), List.getElem_set_self, List.take_set_of_le (Nat.le_refl _)]
  have t2 : ∀ k, (xs.set j y).drop (j + 1 + k) = xs.drop (j + 1 + k) := fun k => List.drop_set_of_lt (by omega)
  rw [t1, t2, List.length_cons, show j + ((ys.take (xs.length - (j + 1))).length + 1) = j + 1 + (ys.take (xs.length - (j + 1))).length by omega]
  simp
end Go.Mat

namespace Go.Mat
open Go Go.Den Go.Proofs
noncomputable abbrev PR : Program := Tryz.prog
noncomputable def eqs0 (t : TypeId) : Option (List IntKind) := bif Nat.beq t 148 then some [.i64, .i64, .i64, .i64, .u32] else none
abbrev vi (n : U) : SV := .val (.int .i64) n
abbrev vb (n : U) : SV := .val .bool n
abbrev vs (n : U) : SV := .val .str n
abbrev vl (c : Ct) (n : U) : SV := .val (.sl false [c]) n
abbrev vt (cs : List Ct) (n : U) : SV := .val (.sl true cs) n
abbrev u8T : TypeId := 5
end Go.Mat

namespace Go.Mat
open Go Go.Den Go.Proofs
abbrev RC : List Ct := [.int .i64, .sl false [.int .u8]]
abbrev rcAt (r : U) : Int := (nth (.i 0) r.list 0).int
abbrev rcData (r : U) : List U := (nth (.i 0) r.list 1).list
abbrev rcN (r : U) : Int := (((rcData r).length : Nat) : Int).tdiv 16
def recsR (size : Int) : Int → List U → Bool
  | _, [] => true
  | last, r :: rs => bif decide (rcN r = 0) || decide (¬ (((rcData r).length : Nat) : Int).tmod 16 = 0) || decide (rcAt r < last) || decide (size < rcAt r) || decide (size - rcAt r < rcN r) then false else recsR size (rcAt r + rcN r) rs
def streamR (size : Int) (L : List U) : Bool := bif decide (size < 0) || decide (4096 < size) then false else recsR size 0 L
def streamS : List (List U) → List (List U) := fun us => [[.b (streamR (nth (.i 0) (nth [] us 0) 1).int (nth (.i 0) (nth [] us 0) 2).list)]]
noncomputable def srLoop : LoopF := fun _ svs os k => match svs, os with
  | [.val (.int .i64) i, .val (.int .i64) n, .val (.sl true rc) L, .val (.int .i64) last, .ptr pp po], [.box [.val .bool _, .val (.int .i64) size, .val (.sl true rc2) _]] =>
    (pp = 128 ∧ po = 0 ∧ rc = RC ∧ rc2 = RC ∧ n.int = (L.list.length : Int) ∧ 0 ≤ i.int ∧ i.int ≤ n.int ∧ 0 ≤ last.int ∧ last.int ≤ 4096 ∧ 0 ≤ size.int ∧ size.int ≤ 4096) ∧
    (bif recsR size.int last.int (L.list.drop i.int.toNat) then k (.exit 0) ⟨[], []⟩ else k .ret ⟨[(2, vb (.b false))], []⟩)
  | _, _ => False
noncomputable def srC : Ctx := mkC PR eqs0 fnsNil trsNil (loopCons 0 [18, 17, 16, 3, 1] [128] srLoop noLoops) (outCons 1048576 [2] [] (outCons 0 [] [] noOut)) noOut
theorem sr_round (pan : KP) (μ : Mu) (N : Nat) (k : KE) (i n L last fl size L2 : U) : (exec (srC.panics pan) (loopBody Tryz.f96 0) 0 ⟨[(18, vi i), (17, vi n), (16, vt RC L), (3, vi last), (1, .ptr 128 0)], [(128, .box [vb fl, vi size, vt RC L2])]⟩ (again PR (some ([], [])) (some ([2], [])) pan [18, 17, 16, 3, 1] [128] srLoop μ N k)) = (bif decide (i.int < n.int) then bif decide ((0:Int) ≤ i.int ∧ i.int < (L.list.length:Int)) then bif IntKind.wrap .i64 (Int.tdiv (↑(List.length (U.list (nth (U.i (0:Int)) (List.tail (U.list (nth (U.i (0:Int)) L.list (Int.toNat i.int)))) (0:Nat)))):Int) (16:Int)) == (0:Int) then k Ex.ret (St.mk [(nat_lit 2,.val .bool (U.b false))] []) else bif Int.tmod (↑(List.length (U.list (nth (U.i (0:Int)) (List.tail (U.list (nth (U.i (0:Int)) L.list (Int.toNat i.int)))) (0:Nat)))):Int) (16:Int) != (0:Int) then k Ex.ret (St.mk [(nat_lit 2,.val .bool (U.b false))] []) else bif decide (U.int (nth (U.i (0:Int)) (U.list (nth (U.i (0:Int)) L.list (Int.toNat i.int))) (0:Nat)) < last.int) then k Ex.ret (St.mk [(nat_lit 2,.val .bool (U.b false))] []) else bif decide (U.int (nth (U.i (0:Int)) (U.list (nth (U.i (0:Int)) L.list (Int.toNat i.int))) (0:Nat)) > size.int) then k Ex.ret (St.mk [(nat_lit 2,.val .bool (U.b false))] []) else bif decide (IntKind.wrap .i64 (Int.tdiv (↑(List.length (U.list (nth (U.i (0:Int)) (List.tail (U.list (nth (U.i (0:Int)) L.list (Int.toNat i.int)))) (0:Nat)))):Int) (16:Int)) > IntKind.wrap .i64 (size.int - U.int (nth (U.i (0:Int)) (U.list (nth (U.i (0:Int)) L.list (Int.toNat i.int))) (0:Nat)))) then k Ex.ret (St.mk [(nat_lit 2,.val .bool (U.b false))] []) else bif Nat.blt (μ [.val (.int IntKind.i64) (U.i (IntKind.wrap .i64 (i.int + (1:Int)))),.val (.int IntKind.i64) n,.val (.sl true [.int .i64,Ct.sl false [.int .u8]]) L,.val (.int IntKind.i64) (U.i (IntKind.wrap .i64 (U.int (nth (U.i (0:Int)) (U.list (nth (U.i (0:Int)) L.list (Int.toNat i.int))) (0:Nat)) + IntKind.wrap .i64 (Int.tdiv (↑(List.length (U.list (nth (U.i (0:Int)) (List.tail (U.list (nth (U.i (0:Int)) L.list (Int.toNat i.int)))) (0:Nat)))):Int) (16:Int))))),.ptr (nat_lit 128) (nat_lit 0)] [.box [.val .bool fl,.val (.int IntKind.i64) size,.val (.sl true [.int .i64,Ct.sl false [.int .u8]]) L2]]) N then (nat_lit 128 = nat_lit 128 ∧ nat_lit 0 = nat_lit 0 ∧ [Ct.int IntKind.i64,Ct.sl false [Ct.int IntKind.u8]] = [.int .i64,Ct.sl false [.int .u8]] ∧ [Ct.int IntKind.i64,Ct.sl false [Ct.int IntKind.u8]] = [.int .i64,Ct.sl false [.int .u8]] ∧ n.int = (L.list.length:Int) ∧ (0:Int) ≤ IntKind.wrap .i64 (i.int + (1:Int)) ∧ IntKind.wrap .i64 (i.int + (1:Int)) ≤ n.int ∧ (0:Int) ≤ IntKind.wrap .i64 (U.int (nth (U.i (0:Int)) (U.list (nth (U.i (0:Int)) L.list (Int.toNat i.int))) (0:Nat)) + IntKind.wrap .i64 (Int.tdiv (↑(List.length (U.list (nth (U.i (0:Int)) (List.tail (U.list (nth (U.i (0:Int)) L.list (Int.toNat i.int)))) (0:Nat)))):Int) (16:Int))) ∧ IntKind.wrap .i64 (U.int (nth (U.i (0:Int)) (U.list (nth (U.i (0:Int)) L.list (Int.toNat i.int))) (0:Nat)) + IntKind.wrap .i64 (Int.tdiv (↑(List.length (U.list (nth (U.i (0:Int)) (List.tail (U.list (nth (U.i (0:Int)) L.list (Int.toNat i.int)))) (0:Nat)))):Int) (16:Int))) ≤ (4096:Int) ∧ (0:Int) ≤ size.int ∧ size.int ≤ (4096:Int)) ∧ bif recsR size.int (IntKind.wrap .i64 (U.int (nth (U.i (0:Int)) (U.list (nth (U.i (0:Int)) L.list (Int.toNat i.int))) (0:Nat)) + IntKind.wrap .i64 (Int.tdiv (↑(List.length (U.list (nth (U.i (0:Int)) (List.tail (U.list (nth (U.i (0:Int)) L.list (Int.toNat i.int)))) (0:Nat)))):Int) (16:Int)))) (List.drop (Int.toNat (IntKind.wrap .i64 (i.int + (1:Int)))) L.list) then k (Ex.exit (nat_lit 0)) (St.mk [] []) else k Ex.ret (St.mk [(nat_lit 2,.val .bool (U.b false))] []) else False else False else k (Ex.exit (nat_lit 0)) (St.mk [] [])) := by kernel_rfl
theorem sr_tree (R : RF) (fl size L : U) : (run srC Tryz.f96 [[fl, size, L]] R) = (bif decide (U.int size < (0 : Int)) then R [[U.b false]] else bif decide (U.int size > (4096 : Int)) then R [[U.b false]] else (nat_lit 128 = nat_lit 128 ∧ nat_lit 0 = nat_lit 0 ∧ [Ct.int IntKind.i64,
  Ct.sl false [Ct.int IntKind.u8]] = [Ct.int IntKind.i64, Ct.sl false [Ct.int IntKind.u8]] ∧ [Ct.int IntKind.i64, Ct.sl false [Ct.int IntKind.u8]] = [Ct.int IntKind.i64, Ct.sl false [Ct.int IntKind.u8]]
  ∧ (↑(List.length (U.list L)) : Int) = (↑(List.length (U.list L)) : Int) ∧ (0 : Int) ≤ (0 : Int) ∧ (0 : Int) ≤ (↑(List.length (U.list L)) : Int) ∧ (0 : Int) ≤ (0 : Int) ∧ (0 : Int) ≤ (4096 : Int) ∧ (0 :
  Int) ≤ U.int size ∧ U.int size ≤ (4096 : Int)) ∧ bif recsR (U.int size) (0 : Int) (List.drop (Int.toNat (0 : Int)) (U.list L)) then R [[U.b true]] else R [[U.b false]]) := by kernel_rfl
noncomputable def rsrLoop : LoopF := fun _ svs os k => match svs, os with
  | [.val (.int .i64) i, .val (.int .i64) last, .ptr pp po], [.box [.val .bool _, .val (.int .i64) size, .val (.sl true rc) L]] =>
    (pp = 128 ∧ po = 0 ∧ rc = RC ∧ 0 ≤ i.int ∧ i.int ≤ (L.list.length : Int) ∧ 0 ≤ last.int ∧ last.int ≤ 4096 ∧ 0 ≤ size.int ∧ size.int ≤ 4096) ∧
    (bif recsR size.int last.int (L.list.drop i.int.toNat) then k (.exit 0) ⟨[], []⟩ else k .ret ⟨[(2, vb (.b false))], []⟩)
  | _, _ => False
noncomputable def rsrC : Ctx := mkC PR eqs0 fnsNil trsNil (loopCons 0 [4, 3, 1] [128] rsrLoop noLoops) (outCons 1048576 [2] [] (outCons 0 [] [] noOut)) noOut
theorem rsr_round (pan : KP) (μ : Mu) (N : Nat) (k : KE) (i last fl size L : U) : (exec (rsrC.panics pan) (loopBody Tryz.f98 0) 0 ⟨[(4, vi i), (3, vi last), (1, .ptr 128 0)], [(128, .box [vb fl, vi size, vt RC L])]⟩ (again PR (some ([], [])) (some ([2], [])) pan [4, 3, 1] [128] rsrLoop μ N k)) = (bif decide (i.int < (L.list.length:Int)) then bif decide ((0:Int) ≤ i.int ∧ i.int < (L.list.length:Int)) then bif decide (IntKind.wrap .i64 (Int.tdiv (↑(List.length (U.list (nth (U.i (0:Int)) (List.tail (U.list (nth (U.i (0:Int)) L.list (Int.toNat i.int)))) (0:Nat)))):Int) (16:Int)) < (1:Int)) then k Ex.ret (St.mk [(nat_lit 2,.val .bool (U.b false))] []) else bif Int.tmod (↑(List.length (U.list (nth (U.i (0:Int)) (List.tail (U.list (nth (U.i (0:Int)) L.list (Int.toNat i.int)))) (0:Nat)))):Int) (16:Int) != (0:Int) then k Ex.ret (St.mk [(nat_lit 2,.val .bool (U.b false))] []) else bif decide (U.int (nth (U.i (0:Int)) (U.list (nth (U.i (0:Int)) L.list (Int.toNat i.int))) (0:Nat)) < last.int) then k Ex.ret (St.mk [(nat_lit 2,.val .bool (U.b false))] []) else bif decide (U.int (nth (U.i (0:Int)) (U.list (nth (U.i (0:Int)) L.list (Int.toNat i.int))) (0:Nat)) > size.int) then k Ex.ret (St.mk [(nat_lit 2,.val .bool (U.b false))] []) else bif decide (IntKind.wrap .i64 (Int.tdiv (↑(List.length (U.list (nth (U.i (0:Int)) (List.tail (U.list (nth (U.i (0:Int)) L.list (Int.toNat i.int)))) (0:Nat)))):Int) (16:Int)) > IntKind.wrap .i64 (size.int - U.int (nth (U.i (0:Int)) (U.list (nth (U.i (0:Int)) L.list (Int.toNat i.int))) (0:Nat)))) then k Ex.ret (St.mk [(nat_lit 2,.val .bool (U.b false))] []) else bif Nat.blt (μ [.val (.int IntKind.i64) (U.i (IntKind.wrap .i64 (i.int + (1:Int)))),.val (.int IntKind.i64) (U.i (IntKind.wrap .i64 (U.int (nth (U.i (0:Int)) (U.list (nth (U.i (0:Int)) L.list (Int.toNat i.int))) (0:Nat)) + IntKind.wrap .i64 (Int.tdiv (↑(List.length (U.list (nth (U.i (0:Int)) (List.tail (U.list (nth (U.i (0:Int)) L.list (Int.toNat i.int)))) (0:Nat)))):Int) (16:Int))))),.ptr (nat_lit 128) (nat_lit 0)] [.box [.val .bool fl,.val (.int IntKind.i64) size,.val (.sl true [.int .i64,Ct.sl false [.int .u8]]) L]]) N then (nat_lit 128 = nat_lit 128 ∧ nat_lit 0 = nat_lit 0 ∧ [Ct.int IntKind.i64,Ct.sl false [Ct.int IntKind.u8]] = [.int .i64,Ct.sl false [.int .u8]] ∧ (0:Int) ≤ IntKind.wrap .i64 (i.int + (1:Int)) ∧ IntKind.wrap .i64 (i.int + (1:Int)) ≤ (L.list.length:Int) ∧ (0:Int) ≤ IntKind.wrap .i64 (U.int (nth (U.i (0:Int)) (U.list (nth (U.i (0:Int)) L.list (Int.toNat i.int))) (0:Nat)) + IntKind.wrap .i64 (Int.tdiv (↑(List.length (U.list (nth (U.i (0:Int)) (List.tail (U.list (nth (U.i (0:Int)) L.list (Int.toNat i.int)))) (0:Nat)))):Int) (16:Int))) ∧ IntKind.wrap .i64 (U.int (nth (U.i (0:Int)) (U.list (nth (U.i (0:Int)) L.list (Int.toNat i.int))) (0:Nat)) + IntKind.wrap .i64 (Int.tdiv (↑(List.length (U.list (nth (U.i (0:Int)) (List.tail (U.list (nth (U.i (0:Int)) L.list (Int.toNat i.int)))) (0:Nat)))):Int) (16:Int))) ≤ (4096:Int) ∧ (0:Int) ≤ size.int ∧ size.int ≤ (4096:Int)) ∧ bif recsR size.int (IntKind.wrap .i64 (U.int (nth (U.i (0:Int)) (U.list (nth (U.i (0:Int)) L.list (Int.toNat i.int))) (0:Nat)) + IntKind.wrap .i64 (Int.tdiv (↑(List.length (U.list (nth (U.i (0:Int)) (List.tail (U.list (nth (U.i (0:Int)) L.list (Int.toNat i.int)))) (0:Nat)))):Int) (16:Int)))) (List.drop (Int.toNat (IntKind.wrap .i64 (i.int + (1:Int)))) L.list) then k (Ex.exit (nat_lit 0)) (St.mk [] []) else k Ex.ret (St.mk [(nat_lit 2,.val .bool (U.b false))] []) else False else False else k (Ex.exit (nat_lit 0)) (St.mk [] [])) := by kernel_rfl
theorem rsr_tree (R : RF) (fl size L : U) : (run rsrC Tryz.f98 [[fl, size, L]] R) = (bif decide (U.int size < (0 : Int)) then R [[U.b false]] else bif decide (U.int size > (4096 : Int)) then R [[U.b false]] else (nat_lit 128 = nat_lit 128 ∧ nat_lit 0 = nat_lit 0 ∧ [Ct.int IntKind.i64,
  Ct.sl false [Ct.int IntKind.u8]] = [Ct.int IntKind.i64, Ct.sl false [Ct.int IntKind.u8]] ∧ (0 : Int) ≤ (0 : Int) ∧ (0 : Int) ≤ (↑(List.length (U.list L)) : Int) ∧ (0 : Int) ≤ (0 : Int) ∧ (0 : Int) ≤ (4096
  : Int) ∧ (0 : Int) ≤ U.int size ∧ U.int size ≤ (4096 : Int)) ∧ bif recsR (U.int size) (0 : Int) (List.drop (Int.toNat (0 : Int)) (U.list L)) then R [[U.b true]] else R [[U.b false]]) := by kernel_rfl
end Go.Mat

namespace Go.Mat
open Go Go.Den Go.Proofs
set_option maxRecDepth 100000
theorem eqs0_ok : ∀ t ks, eqs0 t = some ks → EqOk PR t ks := by
  intro t ks h
  unfold eqs0 at h
  cases hb : Nat.beq t 148 with
  | true =>
    rw [hb] at h
    have := Nat.eq_of_beq_eq_true hb
    subst this
    injection h with h
    subst h
    exact eq_ok (by kernel_rfl)
  | false => rw [hb] at h; cases h
theorem mixed_ok : PR.follows .mixedOrders = true := by kernel_rfl
theorem rcN_in {r : U} (h : (rcData r).length ≤ maxLen) : 0 ≤ rcN r ∧ rcN r ≤ 9223372036854775807 := by
  have hm : maxLen = 9223372036854775807 := by decide
  unfold rcN
  rw [Int.tdiv_eq_ediv_of_nonneg (by omega)]
  omega
theorem sr_loop : LoopOk srC 0 (loopBody Tryz.f96 0) := by
  refine loopOk_of (F := srLoop) (ts := [18, 17, 16, 3, 1]) (os := [128]) rfl (fun svs _ => match svs with | .val _ i :: .val _ n :: _ => (n.int - i.int).toNat | _ => 0) ?_
  intro pan svs os k ho1 ho2 h
  unfold srLoop at h
  split at h
  · rename_i i n rc L last pp po fl size rc2 L2
    obtain ⟨⟨rfl, rfl, rfl, rfl, hn, h0, hi, hl0, hl1, hs0, hs1⟩, hk⟩ := h
    refine .eq (sr_round pan _ _ k i n L last fl size L2) ?_
    refine bd (fun hlt => dt ⟨h0, by omega⟩ ?_) (fun hlt => ?_)
    · have hL : L.list.length ≤ maxLen := ho1.2.2.1.1
      have hd : (nth (U.i 0) (nth (U.i 0) L.list i.int.toNat).list 1).list.length ≤ maxLen := by
        have := (ho1.2.2.1.2 i.int.toNat (by omega)).2.1.1
        simpa using this
      rw [drop_at (by omega), recsR] at hk
      simp only [nth_tail, Nat.zero_add]
      have hN := rcN_in (r := (U.at L.list i.int.toNat)) hd
      have hwn : IntKind.wrap .i64 (rcN (U.at L.list i.int.toNat)) = rcN (U.at L.list i.int.toNat) := i64_in (by omega) (by omega)
      have hret : (decide (rcN (U.at L.list i.int.toNat) = 0) || decide (¬ (((rcData (U.at L.list i.int.toNat)).length : Nat) : Int).tmod 16 = 0) || decide (rcAt (U.at L.list i.int.toNat) < last.int) || decide (size.int < rcAt (U.at L.list i.int.toNat)) || decide (size.int - rcAt (U.at L.list i.int.toNat) < rcN (U.at L.list i.int.toNat))) = true → k .ret ⟨[(2, vb (.b false))], []⟩ := fun h => by
        rw [h] at hk; exact hk
      have hgo : (decide (rcN (U.at L.list i.int.toNat) = 0) || decide (¬ (((rcData (U.at L.list i.int.toNat)).length : Nat) : Int).tmod 16 = 0) || decide (rcAt (U.at L.list i.int.toNat) < last.int) || decide (size.int < rcAt (U.at L.list i.int.toNat)) || decide (size.int - rcAt (U.at L.list i.int.toNat) < rcN (U.at L.list i.int.toNat))) = false →
          bif recsR size.int (rcAt (U.at L.list i.int.toNat) + rcN (U.at L.list i.int.toNat)) (L.list.drop (i.int.toNat + 1)) then k (.exit 0) ⟨[], []⟩ else k .ret ⟨[(2, vb (.b false))], []⟩ := fun h => by
        rw [h] at hk; exact hk
      have hwi : IntKind.wrap .i64 (i.int + 1) = i.int + 1 := i64_in (by omega) (by unfold maxLen at hL; omega)
      have hc : (i.int + 1).toNat = i.int.toNat + 1 := by omega
      show (bif IntKind.wrap .i64 (rcN (U.at L.list i.int.toNat)) == 0 then _ else _)
      rw [hwn, hwi, hc]
      refine bi (fun h1 => hret (by have : rcN (U.at L.list i.int.toNat) = 0 := by simpa using h1
                                    simp only [decide_eq_true this, Bool.true_or, Bool.or_true])) (fun h1 => bi (fun h2 => hret ?_) (fun h2 => bd (fun h3 => hret ?_) (fun h3 => bd (fun h4 => hret ?_) (fun h4 => ?_))))
      · have : ¬ (((rcData (U.at L.list i.int.toNat)).length : Nat) : Int).tmod 16 = 0 := by simpa using h2
        simp only [decide_eq_true this, Bool.true_or, Bool.or_true]
      · have : rcAt (U.at L.list i.int.toNat) < last.int := h3
        simp only [decide_eq_true this, Bool.true_or, Bool.or_true]
      · have : size.int < rcAt (U.at L.list i.int.toNat) := h4
        simp only [decide_eq_true this, Bool.true_or, Bool.or_true]
      have h3 : ¬ rcAt (U.at L.list i.int.toNat) < last.int := h3
      have h4 : ¬ rcAt (U.at L.list i.int.toNat) > size.int := h4
      have hws : IntKind.wrap .i64 (size.int - rcAt (U.at L.list i.int.toNat)) = size.int - rcAt (U.at L.list i.int.toNat) := i64_in (by omega) (by omega)
      show (bif decide (rcN (U.at L.list i.int.toNat) > IntKind.wrap .i64 (size.int - rcAt (U.at L.list i.int.toNat))) then _ else _)
      rw [hws]
      refine bd (fun h5 => hret ?_) (fun h5 => ?_)
      · have : size.int - rcAt (U.at L.list i.int.toNat) < rcN (U.at L.list i.int.toNat) := h5
        simp only [decide_eq_true this, Bool.true_or, Bool.or_true]
      · have hwa : IntKind.wrap .i64 (rcAt (U.at L.list i.int.toNat) + rcN (U.at L.list i.int.toNat)) = rcAt (U.at L.list i.int.toNat) + rcN (U.at L.list i.int.toNat) := i64_in (by omega) (by omega)
        have h1' : ¬ rcN (U.at L.list i.int.toNat) = 0 := by simpa using h1
        have h2' : (((rcData (U.at L.list i.int.toNat)).length : Nat) : Int).tmod 16 = 0 := by simpa using h2
        have h4' : ¬ size.int < rcAt (U.at L.list i.int.toNat) := by omega
        have h5' : ¬ size.int - rcAt (U.at L.list i.int.toNat) < rcN (U.at L.list i.int.toNat) := by omega
        have hg := hgo (by simp only [decide_eq_false h1', decide_eq_false (not_not_intro h2'), decide_eq_false h3, decide_eq_false h4', decide_eq_false h5', Bool.or_false])
        show (bif Nat.blt _ _ then (_ ∧ _ ∧ _ ∧ _ ∧ _ ∧ _ ∧ _ ∧ 0 ≤ IntKind.wrap .i64 (rcAt (U.at L.list i.int.toNat) + rcN (U.at L.list i.int.toNat)) ∧ IntKind.wrap .i64 (rcAt (U.at L.list i.int.toNat) + rcN (U.at L.list i.int.toNat)) ≤ 4096 ∧ _) ∧ (bif recsR size.int (IntKind.wrap .i64 (rcAt (U.at L.list i.int.toNat) + rcN (U.at L.list i.int.toNat))) _ then _ else _) else _)
        rw [hwa]
        exact blt (by simp only [U.int_i]; omega) ⟨⟨by trivial, by trivial, by trivial, by trivial, hn, by omega, by omega, by omega, by omega, hs0, hs1⟩, hg⟩
    · rw [List.drop_of_length_le (by omega), recsR] at hk
      exact hk
  · exact h.elim
theorem rsr_loop : LoopOk rsrC 0 (loopBody Tryz.f98 0) := by
  refine loopOk_of (F := rsrLoop) (ts := [4, 3, 1]) (os := [128]) rfl (fun svs os => match svs, os with | .val _ i :: _, [.box [_, _, .val _ L]] => ((L.list.length : Int) - i.int).toNat | _, _ => 0) ?_
  intro pan svs os k ho1 ho2 h
  unfold rsrLoop at h
  split at h
  · rename_i i last pp po fl size rc L
    obtain ⟨⟨rfl, rfl, rfl, h0, hi, hl0, hl1, hs0, hs1⟩, hk⟩ := h
    refine .eq (rsr_round pan _ _ k i last fl size L) ?_
    refine bd (fun hlt => dt ⟨h0, by omega⟩ ?_) (fun hlt => ?_)
    · have hL : L.list.length ≤ maxLen := ho2.1.2.2.1.1
      have hd : (nth (U.i 0) (nth (U.i 0) L.list i.int.toNat).list 1).list.length ≤ maxLen := by
        have := (ho2.1.2.2.1.2 i.int.toNat (by omega)).2.1.1
        simpa using this
      rw [drop_at (by omega), recsR] at hk
      simp only [nth_tail, Nat.zero_add]
      have hN := rcN_in (r := (U.at L.list i.int.toNat)) hd
      have hwn : IntKind.wrap .i64 (rcN (U.at L.list i.int.toNat)) = rcN (U.at L.list i.int.toNat) := i64_in (by omega) (by omega)
      have hret : (decide (rcN (U.at L.list i.int.toNat) = 0) || decide (¬ (((rcData (U.at L.list i.int.toNat)).length : Nat) : Int).tmod 16 = 0) || decide (rcAt (U.at L.list i.int.toNat) < last.int) || decide (size.int < rcAt (U.at L.list i.int.toNat)) || decide (size.int - rcAt (U.at L.list i.int.toNat) < rcN (U.at L.list i.int.toNat))) = true → k .ret ⟨[(2, vb (.b false))], []⟩ := fun h => by
        rw [h] at hk; exact hk
      have hgo : (decide (rcN (U.at L.list i.int.toNat) = 0) || decide (¬ (((rcData (U.at L.list i.int.toNat)).length : Nat) : Int).tmod 16 = 0) || decide (rcAt (U.at L.list i.int.toNat) < last.int) || decide (size.int < rcAt (U.at L.list i.int.toNat)) || decide (size.int - rcAt (U.at L.list i.int.toNat) < rcN (U.at L.list i.int.toNat))) = false →
          bif recsR size.int (rcAt (U.at L.list i.int.toNat) + rcN (U.at L.list i.int.toNat)) (L.list.drop (i.int.toNat + 1)) then k (.exit 0) ⟨[], []⟩ else k .ret ⟨[(2, vb (.b false))], []⟩ := fun h => by
        rw [h] at hk; exact hk
      have hwi : IntKind.wrap .i64 (i.int + 1) = i.int + 1 := i64_in (by omega) (by unfold maxLen at hL; omega)
      have hc : (i.int + 1).toNat = i.int.toNat + 1 := by omega
      show (bif decide (IntKind.wrap .i64 (rcN (U.at L.list i.int.toNat)) < 1) then _ else _)
      rw [hwn, hwi, hc]
      refine bd (fun h1 => hret (by have : rcN (U.at L.list i.int.toNat) = 0 := by omega
                                    simp only [decide_eq_true this, Bool.true_or, Bool.or_true])) (fun h1 => bi (fun h2 => hret ?_) (fun h2 => bd (fun h3 => hret ?_) (fun h3 => bd (fun h4 => hret ?_) (fun h4 => ?_))))
      · have : ¬ (((rcData (U.at L.list i.int.toNat)).length : Nat) : Int).tmod 16 = 0 := by simpa using h2
        simp only [decide_eq_true this, Bool.true_or, Bool.or_true]
      · have : rcAt (U.at L.list i.int.toNat) < last.int := h3
        simp only [decide_eq_true this, Bool.true_or, Bool.or_true]
      · have : size.int < rcAt (U.at L.list i.int.toNat) := h4
        simp only [decide_eq_true this, Bool.true_or, Bool.or_true]
      have h3 : ¬ rcAt (U.at L.list i.int.toNat) < last.int := h3
      have h4 : ¬ rcAt (U.at L.list i.int.toNat) > size.int := h4
      have hws : IntKind.wrap .i64 (size.int - rcAt (U.at L.list i.int.toNat)) = size.int - rcAt (U.at L.list i.int.toNat) := i64_in (by omega) (by omega)
      show (bif decide (rcN (U.at L.list i.int.toNat) > IntKind.wrap .i64 (size.int - rcAt (U.at L.list i.int.toNat))) then _ else _)
      rw [hws]
      refine bd (fun h5 => hret ?_) (fun h5 => ?_)
      · have : size.int - rcAt (U.at L.list i.int.toNat) < rcN (U.at L.list i.int.toNat) := h5
        simp only [decide_eq_true this, Bool.true_or, Bool.or_true]
      · have hwa : IntKind.wrap .i64 (rcAt (U.at L.list i.int.toNat) + rcN (U.at L.list i.int.toNat)) = rcAt (U.at L.list i.int.toNat) + rcN (U.at L.list i.int.toNat) := i64_in (by omega) (by omega)
        have h1' : ¬ rcN (U.at L.list i.int.toNat) = 0 := by omega
        have h2' : (((rcData (U.at L.list i.int.toNat)).length : Nat) : Int).tmod 16 = 0 := by simpa using h2
        have h4' : ¬ size.int < rcAt (U.at L.list i.int.toNat) := by omega
        have h5' : ¬ size.int - rcAt (U.at L.list i.int.toNat) < rcN (U.at L.list i.int.toNat) := by omega
        have hg := hgo (by simp only [decide_eq_false h1', decide_eq_false (not_not_intro h2'), decide_eq_false h3, decide_eq_false h4', decide_eq_false h5', Bool.or_false])
        show (bif Nat.blt _ _ then (_ ∧ _ ∧ _ ∧ _ ∧ _ ∧ 0 ≤ IntKind.wrap .i64 (rcAt (U.at L.list i.int.toNat) + rcN (U.at L.list i.int.toNat)) ∧ IntKind.wrap .i64 (rcAt (U.at L.list i.int.toNat) + rcN (U.at L.list i.int.toNat)) ≤ 4096 ∧ _) ∧ (bif recsR size.int (IntKind.wrap .i64 (rcAt (U.at L.list i.int.toNat) + rcN (U.at L.list i.int.toNat))) _ then _ else _) else _)
        rw [hwa]
        exact blt (by simp only [U.int_i]; omega) ⟨⟨by trivial, by trivial, by trivial, by omega, by omega, by omega, by omega, hs0, hs1⟩, hg⟩
    · rw [List.drop_of_length_le (by omega), recsR] at hk
      exact hk
  · exact h.elim
theorem stream_args {us : List (List U)} (h : shapeOk PR [85] us) : ∃ fl size L, us = [[fl, size, L]] := by
  obtain ⟨u, rfl, h1⟩ := shape1 (by kernel_rfl : Cs PR 85 = some (true, [.bool, .int .i64, .sl true [.int .i64, .sl false [.int .u8]]])) h
  obtain ⟨a, b, c, rfl⟩ := len3 h1
  exact ⟨a, b, c, rfl⟩
theorem sr_ok : SpecF PR 96 streamS := fun fn us hfn => by
  have hf : PR.funcs[(96 : Nat)]? = some Tryz.f96 := by kernel_rfl
  rw [hf] at hfn; cases hfn
  refine fn_okH (C := srC) (mkC_ok eqs0_ok mixed_ok .nil .nil) hf (by kernel_rfl) (loops_one (by kernel_rfl) sr_loop) fun hok => ?_
  have hp : Tryz.f96.params.toList = [85] := by kernel_rfl
  rw [hp] at hok
  obtain ⟨fl, size, L, hus⟩ := stream_args hok.1
  subst hus
  refine .eq (sr_tree _ fl size L) ?_
  rw [show streamS [[fl, size, L]] = [[.b (streamR size.int L.list)]] from rfl]
  refine bd (fun h1 => ?_) (fun h1 => bd (fun h2 => ?_) (fun h2 => ?_))
  · have h1 : size.int < 0 := h1
    rw [show streamR size.int L.list = false from by unfold streamR; rw [decide_eq_true h1]; rfl]
  · have h2 : 4096 < size.int := h2
    rw [show streamR size.int L.list = false from by unfold streamR; rw [decide_eq_true h2, Bool.or_true]; rfl]
  · have h2 : ¬ 4096 < size.int := h2
    refine ⟨⟨by trivial, by trivial, by trivial, by trivial, by trivial, by omega, by omega, by omega, by omega, by omega, by omega⟩, ?_⟩
    rw [show streamR size.int L.list = recsR size.int 0 L.list from by unfold streamR; rw [decide_eq_false h1, decide_eq_false h2]; rfl]
    rw [Int.toNat_zero, List.drop_zero]
    cases recsR size.int 0 L.list <;> rfl
theorem rsr_ok : SpecF PR 98 streamS := fun fn us hfn => by
  have hf : PR.funcs[(98 : Nat)]? = some Tryz.f98 := by kernel_rfl
  rw [hf] at hfn; cases hfn
  refine fn_okH (C := rsrC) (mkC_ok eqs0_ok mixed_ok .nil .nil) hf (by kernel_rfl) (loops_one (by kernel_rfl) rsr_loop) fun hok => ?_
  have hp : Tryz.f98.params.toList = [85] := by kernel_rfl
  rw [hp] at hok
  obtain ⟨fl, size, L, hus⟩ := stream_args hok.1
  subst hus
  refine .eq (rsr_tree _ fl size L) ?_
  rw [show streamS [[fl, size, L]] = [[.b (streamR size.int L.list)]] from rfl]
  refine bd (fun h1 => ?_) (fun h1 => bd (fun h2 => ?_) (fun h2 => ?_))
  · have h1 : size.int < 0 := h1
    rw [show streamR size.int L.list = false from by unfold streamR; rw [decide_eq_true h1]; rfl]
  · have h2 : 4096 < size.int := h2
    rw [show streamR size.int L.list = false from by unfold streamR; rw [decide_eq_true h2, Bool.or_true]; rfl]
  · have h2 : ¬ 4096 < size.int := h2
    refine ⟨⟨by trivial, by trivial, by trivial, by omega, by omega, by omega, by omega, by omega, by omega⟩, ?_⟩
    rw [show streamR size.int L.list = recsR size.int 0 L.list from by unfold streamR; rw [decide_eq_false h1, decide_eq_false h2]; rfl]
    rw [Int.toNat_zero, List.drop_zero]
    cases recsR size.int 0 L.list <;> rfl
end Go.Mat

namespace Go.Mat
open Go Go.Den Go.Proofs
def cloneP : List (List U) → Prop := fun us => (nth (.i 0) (nth [] us 0) 0).list.length ≤ room
def cloneS : List (List U) → List (List U) := fun us => [[.l (nth (.i 0) (nth [] us 0) 0).list]]
noncomputable def cloneC : Ctx := mkC PR eqs0 fnsNil trsNil noLoops noOut noOut
theorem clone_tree (R : RF) (b : U) : (run cloneC Tryz.f97 [[b]] R) = (NilOr (U.list (U.at [b] (0 : Nat)) = []) (R [[U.l []]]) (bif decide ((0 : Nat) + List.length (U.list b) ≤ room) && !oddB ((2 : Nat) * ((5 : Nat) * (64 : Nat) + (63 : Nat))) then R [[U.l ([] ++ U.list b)]]
  else False)) := by kernel_rfl
def applyR : List U → List U → List U
  | xs, [] => xs
  | xs, r :: rs => applyR (overU xs (rcAt r * 16).toNat (rcData r)) rs
def fitsR (n : Nat) : List U → Bool
  | [] => true
  | r :: rs => decide (0 ≤ rcAt r) && decide (rcAt r * 16 ≤ (n : Int)) && decide (rcAt r * 16 + ((rcData r).length : Nat) ≤ (n : Int)) && fitsR n rs
def applyX (data : List U) (full : Bool) (size : Int) (L : List U) : List U :=
  bif streamR size L then applyR (bif full then List.replicate (size * 16).toNat (.i 0) else overU (List.replicate (size * 16).toNat (.i 0)) 0 data) L else data
def applyS : List (List U) → List (List U) := fun us => [[.l (applyX (nth (.i 0) (nth [] us 0) 0).list (nth (.i 0) (nth [] us 1) 0).bool (nth (.i 0) (nth [] us 1) 1).int (nth (.i 0) (nth [] us 1) 2).list)]]
noncomputable def apLoop : LoopF := fun _ svs os k => match svs, os with
  | [.val (.int .i64) i, .val (.int .i64) n, .val (.sl true rc) L, .own o], [.arr t xs] =>
    (rc = RC ∧ o = 2174 ∧ t = u8T ∧ n.int = (L.list.length : Int) ∧ 0 ≤ i.int ∧ i.int ≤ n.int ∧ xs.length ≤ 65536 ∧ fitsR xs.length (L.list.drop i.int.toNat) = true) ∧
    k (.exit 0) ⟨[(5, .own 2174)], [(2174, .arr u8T (applyR xs (L.list.drop i.int.toNat)))]⟩
  | _, _ => False
noncomputable def apC : Ctx := mkC PR eqs0 (fnsCons 96 streamS (fnsConsP 97 cloneP cloneS fnsNil)) trsNil (loopCons 0 [26, 25, 24, 5] [2174] apLoop noLoops) (outCons 0 [5] [2174] noOut) noOut
theorem ap_round (pan : KP) (μ : Mu) (N : Nat) (k : KE) (i n L : U) (xs : List U) : (exec (apC.panics pan) (loopBody Tryz.f47 0) 0 ⟨[(26, vi i), (25, vi n), (24, vt RC L), (5, .own 2174)], [(2174, .arr u8T xs)]⟩ (again PR (some ([5], [2174])) none pan [26, 25, 24, 5] [2174] apLoop μ N k)) = (bif decide (i.int < n.int) then bif decide ((0:Int) ≤ i.int ∧ i.int < (L.list.length:Int)) then bif decide ((0:Int) ≤ IntKind.wrap .i64 (U.int (nth (U.i (0:Int)) (U.list (nth (U.i (0:Int)) L.list (Int.toNat i.int))) (0:Nat)) * (16:Int)) ∧ IntKind.wrap .i64 (U.int (nth (U.i (0:Int)) (U.list (nth (U.i (0:Int)) L.list (Int.toNat i.int))) (0:Nat)) * (16:Int)) ≤ (xs.length:Int)) then bif Nat.beq u8T (5:Nat) && decide (Int.toNat (IntKind.wrap .i64 (U.int (nth (U.i (0:Int)) (U.list (nth (U.i (0:Int)) L.list (Int.toNat i.int))) (0:Nat)) * (16:Int))) ≤ List.length xs) then bif Nat.blt (μ [.val (.int IntKind.i64) (U.i (IntKind.wrap .i64 (i.int + (1:Int)))),.val (.int IntKind.i64) n,.val (.sl true [Ct.int IntKind.i64,Ct.sl false [Ct.int IntKind.u8]]) L,SV.own (nat_lit 2174)] [Obj.arr (nat_lit 5) (overU xs (Int.toNat (IntKind.wrap .i64 (U.int (nth (U.i (0:Int)) (U.list (nth (U.i (0:Int)) L.list (Int.toNat i.int))) (0:Nat)) * (16:Int)))) (U.list (nth (U.i (0:Int)) (List.tail (U.list (nth (U.i (0:Int)) L.list (Int.toNat i.int)))) (0:Nat))))]) N then ([Ct.int IntKind.i64,Ct.sl false [Ct.int IntKind.u8]] = [.int .i64,Ct.sl false [.int .u8]] ∧ nat_lit 2174 = nat_lit 2174 ∧ nat_lit 5 = nat_lit 5 ∧ n.int = (L.list.length:Int) ∧ (0:Int) ≤ IntKind.wrap .i64 (i.int + (1:Int)) ∧ IntKind.wrap .i64 (i.int + (1:Int)) ≤ n.int ∧ List.length (overU xs (Int.toNat (IntKind.wrap .i64 (U.int (nth (U.i (0:Int)) (U.list (nth (U.i (0:Int)) L.list (Int.toNat i.int))) (0:Nat)) * (16:Int)))) (U.list (nth (U.i (0:Int)) (List.tail (U.list (nth (U.i (0:Int)) L.list (Int.toNat i.int)))) (0:Nat)))) ≤ (65536:Nat) ∧ fitsR (List.length (overU xs (Int.toNat (IntKind.wrap .i64 (U.int (nth (U.i (0:Int)) (U.list (nth (U.i (0:Int)) L.list (Int.toNat i.int))) (0:Nat)) * (16:Int)))) (U.list (nth (U.i (0:Int)) (List.tail (U.list (nth (U.i (0:Int)) L.list (Int.toNat i.int)))) (0:Nat))))) (List.drop (Int.toNat (IntKind.wrap .i64 (i.int + (1:Int)))) L.list) = true) ∧ k (Ex.exit (nat_lit 0)) (St.mk [(nat_lit 5,.own (nat_lit 2174))] [(nat_lit 2174,.arr (nat_lit 5) (applyR (overU xs (Int.toNat (IntKind.wrap .i64 (U.int (nth (U.i (0:Int)) (U.list (nth (U.i (0:Int)) L.list (Int.toNat i.int))) (0:Nat)) * (16:Int)))) (U.list (nth (U.i (0:Int)) (List.tail (U.list (nth (U.i (0:Int)) L.list (Int.toNat i.int)))) (0:Nat)))) (List.drop (Int.toNat (IntKind.wrap .i64 (i.int + (1:Int)))) L.list)))]) else False else False else False else False else k (Ex.exit (nat_lit 0)) (St.mk [(nat_lit 5,.own (nat_lit 2174))] [(nat_lit 2174,.arr (nat_lit 5) xs)])) := by kernel_rfl
theorem ap_tree (R : RF) (b fl size L : U) : (run apC Tryz.f47 [[b], [fl, size, L]] R) = (bif !streamR size.int L.list then cloneP [[b]] ∧ R [[U.l b.list]] else bif decide ((0:Int) ≤ IntKind.wrap .i64 (size.int * (16:Int)) ∧ IntKind.wrap .i64 (size.int * (16:Int)) ≤ IntKind.wrap .i64 (size.int * (16:Int)) ∧ IntKind.wrap .i64 (size.int * (16:Int)) ≤ (↑room:Int)) then bif !fl.bool then ([Ct.int IntKind.i64,Ct.sl false [Ct.int IntKind.u8]] = [.int .i64,Ct.sl false [.int .u8]] ∧ nat_lit 2174 = nat_lit 2174 ∧ nat_lit 5 = nat_lit 5 ∧ (L.list.length:Int) = (L.list.length:Int) ∧ (0:Int) ≤ (0:Int) ∧ (0:Int) ≤ (L.list.length:Int) ∧ List.length (overU (List.replicate (Int.toNat (IntKind.wrap .i64 (size.int * (16:Int)))) (U.i (0:Int))) (0:Nat) b.list) ≤ (65536:Nat) ∧ fitsR (List.length (overU (List.replicate (Int.toNat (IntKind.wrap .i64 (size.int * (16:Int)))) (U.i (0:Int))) (0:Nat) b.list)) (List.drop (Int.toNat (0:Int)) L.list) = true) ∧ R [[U.l (applyR (overU (List.replicate (Int.toNat (IntKind.wrap .i64 (size.int * (16:Int)))) (U.i (0:Int))) (0:Nat) b.list) (List.drop (Int.toNat (0:Int)) L.list))]] else ([Ct.int IntKind.i64,Ct.sl false [Ct.int IntKind.u8]] = [.int .i64,Ct.sl false [.int .u8]] ∧ nat_lit 2174 = nat_lit 2174 ∧ nat_lit 5 = nat_lit 5 ∧ (L.list.length:Int) = (L.list.length:Int) ∧ (0:Int) ≤ (0:Int) ∧ (0:Int) ≤ (L.list.length:Int) ∧ List.length (List.replicate (Int.toNat (IntKind.wrap .i64 (size.int * (16:Int)))) (U.i (0:Int))) ≤ (65536:Nat) ∧ fitsR (List.length (List.replicate (Int.toNat (IntKind.wrap .i64 (size.int * (16:Int)))) (U.i (0:Int)))) (List.drop (Int.toNat (0:Int)) L.list) = true) ∧ R [[U.l (applyR (List.replicate (Int.toNat (IntKind.wrap .i64 (size.int * (16:Int)))) (U.i (0:Int))) (List.drop (Int.toNat (0:Int)) L.list))]] else False) := by kernel_rfl
end Go.Mat

namespace Go.Mat
open Go Go.Den Go.Proofs
set_option maxRecDepth 100000
theorem rcN_len {r : U} (h : (((rcData r).length : Nat) : Int).tmod 16 = 0) : (((rcData r).length : Nat) : Int) = rcN r * 16 ∧ 0 ≤ rcN r := by
  unfold rcN
  rw [Int.tdiv_eq_ediv_of_nonneg (by omega)]
  rw [Int.tmod_eq_emod_of_nonneg (by omega)] at h
  omega
theorem recs_fits {size : Int} : ∀ (L : List U) (last : Int), 0 ≤ last → recsR size last L = true → fitsR (size * 16).toNat L = true
  | [], _, _, _ => rfl
  | r :: rs, last, hl, h => by
    rw [recsR] at h
    cases hc : (decide (rcN r = 0) || decide (¬ (((rcData r).length : Nat) : Int).tmod 16 = 0) || decide (rcAt r < last) || decide (size < rcAt r) || decide (size - rcAt r < rcN r)) with
    | true => rw [hc] at h; exact absurd h (by simp)
    | false =>
      rw [hc] at h
      simp only [Bool.or_eq_false_iff, decide_eq_false_iff_not, Decidable.not_not] at hc
      obtain ⟨⟨⟨⟨h1, h2⟩, h3⟩, h4⟩, h5⟩ := hc
      obtain ⟨h6, h7⟩ := rcN_len h2
      have ih := recs_fits rs (rcAt r + rcN r) (by omega) h
      rw [fitsR, ih]
      generalize rcAt r = a at *
      generalize rcN r = n at *
      generalize (rcData r).length = l at *
      simp only [Bool.and_true, Bool.and_eq_true, decide_eq_true_eq]
      omega
theorem ap_loop : LoopOk apC 0 (loopBody Tryz.f47 0) := by
  refine loopOk_of (F := apLoop) (ts := [26, 25, 24, 5]) (os := [2174]) rfl (fun svs _ => match svs with | .val _ i :: .val _ n :: _ => (n.int - i.int).toNat | _ => 0) ?_
  intro pan svs os k ho1 ho2 h
  unfold apLoop at h
  split at h
  · rename_i i n rc L o t xs
    obtain ⟨⟨rfl, rfl, rfl, hn, h0, hi, hx, hf⟩, hk⟩ := h
    refine .eq (ap_round pan _ _ k i n L xs) ?_
    refine bd (fun hlt => dt ⟨h0, by omega⟩ ?_) (fun hlt => ?_)
    · have hL : L.list.length ≤ maxLen := ho1.2.2.1.1
      rw [drop_at (by omega), applyR] at hk
      rw [drop_at (by omega), fitsR] at hf
      simp only [nth_tail, Nat.zero_add]
      simp only [Bool.and_eq_true, decide_eq_true_eq] at hf
      obtain ⟨⟨⟨f1, f2⟩, f3⟩, f4⟩ := hf
      have hwi : IntKind.wrap .i64 (i.int + 1) = i.int + 1 := i64_in (by omega) (by unfold maxLen at hL; omega)
      have hc : (i.int + 1).toNat = i.int.toNat + 1 := by omega
      have hwa : IntKind.wrap .i64 (rcAt (U.at L.list i.int.toNat) * 16) = rcAt (U.at L.list i.int.toNat) * 16 := i64_in (by omega) (by omega)
      have hol := overU_len (xs := xs) (j := (rcAt (U.at L.list i.int.toNat) * 16).toNat) (by omega) (rcData (U.at L.list i.int.toNat))
      show (bif decide (0 ≤ IntKind.wrap .i64 (rcAt (U.at L.list i.int.toNat) * 16) ∧ IntKind.wrap .i64 (rcAt (U.at L.list i.int.toNat) * 16) ≤ _) then (bif Nat.beq u8T 5 && decide ((IntKind.wrap .i64 (rcAt (U.at L.list i.int.toNat) * 16)).toNat ≤ _) then (bif Nat.blt _ _ then (_ ∧ _ ∧ _ ∧ _ ∧ _ ∧ _ ∧ (overU xs (IntKind.wrap .i64 (rcAt (U.at L.list i.int.toNat) * 16)).toNat (rcData (U.at L.list i.int.toNat))).length ≤ 65536 ∧ fitsR (overU xs (IntKind.wrap .i64 (rcAt (U.at L.list i.int.toNat) * 16)).toNat (rcData (U.at L.list i.int.toNat))).length _ = true) ∧ k (.exit 0) ⟨_, [(_, .arr _ (applyR (overU xs (IntKind.wrap .i64 (rcAt (U.at L.list i.int.toNat) * 16)).toNat (rcData (U.at L.list i.int.toNat))) _))]⟩ else _) else _) else _)
      rw [hwa, hwi, hc, hol]
      refine dt ⟨by omega, by omega⟩ (bt ?_ (blt (by simp only [U.int_i]; omega) ⟨⟨by trivial, by trivial, by trivial, hn, by omega, by omega, hx, f4⟩, hk⟩))
      rw [decide_eq_true (by omega), Bool.and_true]
      rfl
    · rw [List.drop_of_length_le (by omega), applyR] at hk
      exact hk
  · exact h.elim
theorem clone_ok : SpecFP PR 97 cloneP cloneS := fun fn us hfn hpre => by
  have hf : PR.funcs[(97 : Nat)]? = some Tryz.f97 := by kernel_rfl
  rw [hf] at hfn; cases hfn
  refine fn_okH (C := cloneC) (mkC_ok eqs0_ok mixed_ok .nil .nil) hf (by kernel_rfl) (loops_none (by kernel_rfl)) fun hok => ?_
  have hp : Tryz.f97.params.toList = [29] := by kernel_rfl
  rw [hp] at hok
  obtain ⟨u, hus, h1⟩ := shape1 (by kernel_rfl : Cs PR 29 = some (false, [.sl false [.int .u8]])) hok.1
  obtain ⟨b, hb⟩ := len1 h1
  subst hb
  subst hus
  have hpre : b.list.length ≤ room := hpre
  refine .eq (clone_tree _ b) ?_
  rw [show cloneS [[b]] = [[.l b.list]] from rfl]
  constructor
  · intro hnil
    have hnil : b.list = [] := hnil
    rw [hnil]
  · refine bt ?_ rfl
    rw [decide_eq_true (by omega)]
    rfl
theorem ap_args {us : List (List U)} (h : shapeOk PR [29, 85] us) : ∃ b fl size L, us = [[b], [fl, size, L]] := by
  obtain ⟨u, u2, rfl, h1, h2⟩ := shape2 (by kernel_rfl : Cs PR 29 = some (false, [.sl false [.int .u8]])) (by kernel_rfl : Cs PR 85 = some (true, [.bool, .int .i64, .sl true [.int .i64, .sl false [.int .u8]]])) h
  obtain ⟨b, rfl⟩ := len1 h1
  obtain ⟨x, y, z, rfl⟩ := len3 h2
  exact ⟨b, x, y, z, rfl⟩
theorem stream_in {size : Int} {L : List U} (h : streamR size L = true) : 0 ≤ size ∧ size ≤ 4096 ∧ recsR size 0 L = true := by
  unfold streamR at h
  cases hc : (decide (size < 0) || decide (4096 < size)) with
  | true => rw [hc] at h; exact absurd h (by simp)
  | false =>
    rw [hc] at h
    simp only [Bool.or_eq_false_iff, decide_eq_false_iff_not] at hc
    exact ⟨by omega, by omega, h⟩
theorem apply_yes {data : List U} {full : Bool} {size : Int} {L : List U} (h : streamR size L = true) : applyX data full size L = applyR (bif full then List.replicate (size * 16).toNat (.i 0) else overU (List.replicate (size * 16).toNat (.i 0)) 0 data) L := by
  unfold applyX; rw [h]; rfl
theorem apply_no {data : List U} {full : Bool} {size : Int} {L : List U} (h : streamR size L = false) : applyX data full size L = data := by
  unfold applyX; rw [h]; rfl
theorem ap_ok : SpecFP PR 47 cloneP applyS := fun fn us hfn hpre => by
  have hf : PR.funcs[(47 : Nat)]? = some Tryz.f47 := by kernel_rfl
  rw [hf] at hfn; cases hfn
  refine fn_okH (C := apC) (mkC_ok eqs0_ok mixed_ok (.cons sr_ok (.consP clone_ok .nil)) .nil) hf (by kernel_rfl) (loops_one (by kernel_rfl) ap_loop) fun hok => ?_
  have hp : Tryz.f47.params.toList = [29, 85] := by kernel_rfl
  rw [hp] at hok
  obtain ⟨b, fl, size, L, hus⟩ := ap_args hok.1
  subst hus
  refine .eq (ap_tree _ b fl size L) ?_
  rw [show applyS [[b], [fl, size, L]] = [[.l (applyX b.list fl.bool size.int L.list)]] from rfl]
  refine bi (fun h1 => ⟨hpre, ?_⟩) (fun h1 => ?_)
  · have h1 : streamR size.int L.list = false := by simpa using h1
    rw [apply_no h1]
  · have h1 : streamR size.int L.list = true := by simpa using h1
    obtain ⟨s0, s1, s2⟩ := stream_in h1
    have hw : IntKind.wrap .i64 (size.int * 16) = size.int * 16 := i64_in (by omega) (by omega)
    have hl : (List.replicate (size.int * 16).toNat (U.i 0)).length = (size.int * 16).toNat := List.length_replicate
    have hf := recs_fits L.list 0 (by omega) s2
    have hol := overU_len (xs := List.replicate (size.int * 16).toNat (U.i 0)) (j := 0) (by omega) b.list
    rw [hw, apply_yes h1, hol, hl, Int.toNat_zero, List.drop_zero]
    refine dt ⟨by omega, by omega, by show size.int * 16 ≤ (1073741824 : Int); omega⟩ ?_
    refine bi (fun h2 => ?_) (fun h2 => ?_)
    · have h2 : fl.bool = false := by simpa using h2
      rw [h2]
      exact ⟨⟨by trivial, by trivial, by trivial, by trivial, by omega, by omega, by omega, hf⟩, by trivial⟩
    · have h2 : fl.bool = true := by simpa using h2
      rw [h2]
      exact ⟨⟨by trivial, by trivial, by trivial, by trivial, by omega, by omega, by omega, hf⟩, by trivial⟩
end Go.Mat

namespace Go.Mat
open Go Go.Den Go.Proofs
noncomputable def rapLoop0 : LoopF := fun _ svs os k => match svs, os with
  | [.val (.int .i64) i, .own o, .val (.sl false [.int .u8]) b, .ptr pp po], [.arr t xs, .box [.val .bool fl, .val (.int .i64) size, .val (.sl true rc) L]] =>
    (o = 2558 ∧ t = u8T ∧ pp = 384 ∧ po = 0 ∧ rc = RC ∧ 0 ≤ i.int ∧ xs.length ≤ 65536 ∧ i.int ≤ (xs.length : Int)) ∧
    k (.exit 0) ⟨[(5, .own 2558), (3, .ptr 384 0)], [(2558, .arr u8T (bif fl.bool then xs else overU xs i.int.toNat (b.list.drop i.int.toNat))), (384, .box [vb fl, vi size, vt RC L])]⟩
  | _, _ => False
noncomputable def rapLoop2 : LoopF := fun _ svs os k => match svs, os with
  | [.val (.int .i64) i, .ptr pp po, .own o], [.box [.val .bool _, .val (.int .i64) _, .val (.sl true rc) L], .arr t xs] =>
    (pp = 384 ∧ po = 0 ∧ o = 2558 ∧ rc = RC ∧ t = u8T ∧ 0 ≤ i.int ∧ i.int ≤ (L.list.length : Int) ∧ xs.length ≤ 65536 ∧ fitsR xs.length (L.list.drop i.int.toNat) = true) ∧
    k (.exit 2) ⟨[(5, .own 2558)], [(2558, .arr u8T (applyR xs (L.list.drop i.int.toNat)))]⟩
  | _, _ => False
noncomputable def rapLoop4 : LoopF := fun _ svs os k => match svs, os with
  | [.val (.int .i64) j, .ptr p1 o1, .own o, .val (.int .i64) i, .ptr p2 o2], [.box [.val (.int .i64) a, .val (.sl false [.int .u8]) d], .arr t xs, .box [.val .bool fl, .val (.int .i64) size, .val (.sl true rc) L]] =>
    (p1 = 1024 ∧ o1 = 0 ∧ o = 2558 ∧ p2 = 384 ∧ o2 = 0 ∧ t = u8T ∧ rc = RC ∧ 0 ≤ j.int ∧ j.int ≤ (d.list.length : Int) ∧ 0 ≤ a.int ∧ xs.length ≤ 65536 ∧ a.int * 16 + (d.list.length : Int) ≤ (xs.length : Int)) ∧
    k (.exit 4) ⟨[(5, .own 2558), (7, vi i), (3, .ptr 384 0)], [(2558, .arr u8T (overU xs (a.int * 16 + j.int).toNat (d.list.drop j.int.toNat))), (384, .box [vb fl, vi size, vt RC L])]⟩
  | _, _ => False
noncomputable def rapC : Ctx := mkC PR eqs0 (fnsCons 98 streamS fnsNil) trsNil
  (loopCons 0 [6, 5, 0, 3] [2558, 384] rapLoop0 (loopCons 2 [7, 3, 5] [384, 2558] rapLoop2 (loopCons 4 [9, 8, 5, 7, 3] [1024, 2558, 384] rapLoop4 noLoops)))
  (outCons 0 [5, 3] [2558, 384] (outCons 2 [5] [2558] (outCons 4 [5, 7, 3] [2558, 384] noOut))) noOut
theorem rap_round0 (pan : KP) (μ : Mu) (N : Nat) (k : KE) (i b fl size L : U) (xs : List U) : (exec (rapC.panics pan) (loopBody Tryz.f48 0) 0 ⟨[(6, vi i), (5, .own 2558), (0, vl (.int .u8) b), (3, .ptr 384 0)], [(2558, .arr u8T xs), (384, .box [vb fl, vi size, vt RC L])]⟩ (again PR (some ([5, 3], [2558, 384])) none pan [6, 5, 0, 3] [2558, 384] rapLoop0 μ N k)) = (bif decide (i.int < (xs.length:Int)) then bif decide (i.int < (b.list.length:Int)) then bif !fl.bool then bif decide ((0:Int) ≤ i.int ∧ i.int < (b.list.length:Int)) then bif decide ((0:Int) ≤ i.int ∧ i.int < (xs.length:Int)) then bif Nat.blt (Int.toNat i.int) (List.length xs) then bif Nat.blt (μ [.val (.int IntKind.i64) (U.i (IntKind.wrap .i64 (i.int + (1:Int)))),.own (nat_lit 2558),.val (.sl false [.int .u8]) b,.ptr (nat_lit 384) (nat_lit 0)] [.arr (nat_lit 5) (List.set xs (Int.toNat i.int) (nth (U.i (0:Int)) (patchU [nth (U.i (0:Int)) xs (Int.toNat i.int)] (0:Nat) [nth (U.i (0:Int)) b.list (Int.toNat i.int)]) (0:Nat))),.box [.val .bool fl,.val (.int IntKind.i64) size,.val (.sl true [.int .i64,Ct.sl false [.int .u8]]) L]]) N then (nat_lit 2558 = nat_lit 2558 ∧ nat_lit 5 = nat_lit 5 ∧ nat_lit 384 = nat_lit 384 ∧ nat_lit 0 = nat_lit 0 ∧ [Ct.int IntKind.i64,Ct.sl false [Ct.int IntKind.u8]] = [.int .i64,Ct.sl false [.int .u8]] ∧ (0:Int) ≤ IntKind.wrap .i64 (i.int + (1:Int)) ∧ List.length (List.set xs (Int.toNat i.int) (nth (U.i (0:Int)) (patchU [nth (U.i (0:Int)) xs (Int.toNat i.int)] (0:Nat) [nth (U.i (0:Int)) b.list (Int.toNat i.int)]) (0:Nat))) ≤ (65536:Nat) ∧ IntKind.wrap .i64 (i.int + (1:Int)) ≤ (↑(List.length (List.set xs (Int.toNat i.int) (nth (U.i (0:Int)) (patchU [nth (U.i (0:Int)) xs (Int.toNat i.int)] (0:Nat) [nth (U.i (0:Int)) b.list (Int.toNat i.int)]) (0:Nat)))):Int)) ∧ k (Ex.exit (nat_lit 0)) (St.mk [(nat_lit 5,.own (nat_lit 2558)),(nat_lit 3,.ptr (nat_lit 384) (nat_lit 0))] [(nat_lit 2558,.arr (nat_lit 5) (bif fl.bool then List.set xs (Int.toNat i.int) (nth (U.i (0:Int)) (patchU [nth (U.i (0:Int)) xs (Int.toNat i.int)] (0:Nat) [nth (U.i (0:Int)) b.list (Int.toNat i.int)]) (0:Nat)) else overU (List.set xs (Int.toNat i.int) (nth (U.i (0:Int)) (patchU [nth (U.i (0:Int)) xs (Int.toNat i.int)] (0:Nat) [nth (U.i (0:Int)) b.list (Int.toNat i.int)]) (0:Nat))) (Int.toNat (IntKind.wrap .i64 (i.int + (1:Int)))) (List.drop (Int.toNat (IntKind.wrap .i64 (i.int + (1:Int)))) b.list))),(nat_lit 384,.box [.val .bool fl,.val (.int IntKind.i64) size,.val (.sl true [.int .i64,Ct.sl false [.int .u8]]) L])]) else False else False else False else False else k (Ex.exit (nat_lit 0)) (St.mk [(nat_lit 5,.own (nat_lit 2558)),(nat_lit 3,.ptr (nat_lit 384) (nat_lit 0))] [(nat_lit 2558,.arr (nat_lit 5) xs),(nat_lit 384,.box [.val .bool fl,.val (.int IntKind.i64) size,.val (.sl true [.int .i64,Ct.sl false [.int .u8]]) L])]) else k (Ex.exit (nat_lit 0)) (St.mk [(nat_lit 5,.own (nat_lit 2558)),(nat_lit 3,.ptr (nat_lit 384) (nat_lit 0))] [(nat_lit 2558,.arr (nat_lit 5) xs),(nat_lit 384,.box [.val .bool fl,.val (.int IntKind.i64) size,.val (.sl true [.int .i64,Ct.sl false [.int .u8]]) L])]) else k (Ex.exit (nat_lit 0)) (St.mk [(nat_lit 5,.own (nat_lit 2558)),(nat_lit 3,.ptr (nat_lit 384) (nat_lit 0))] [(nat_lit 2558,.arr (nat_lit 5) xs),(nat_lit 384,.box [.val .bool fl,.val (.int IntKind.i64) size,.val (.sl true [.int .i64,Ct.sl false [.int .u8]]) L])])) := by kernel_rfl
theorem rap_round2 (pan : KP) (μ : Mu) (N : Nat) (k : KE) (i fl size L : U) (xs : List U) : (exec (rapC.panics pan) (loopBody Tryz.f48 1) 2 ⟨[(7, vi i), (3, .ptr 384 0), (5, .own 2558)], [(384, .box [vb fl, vi size, vt RC L]), (2558, .arr u8T xs)]⟩ (again PR (some ([5], [2558])) none pan [7, 3, 5] [384, 2558] rapLoop2 μ N k)) = (bif decide (i.int < (L.list.length:Int)) then bif decide ((0:Int) ≤ i.int ∧ i.int < (L.list.length:Int)) then (nat_lit 1024 = nat_lit 1024 ∧ nat_lit 0 = nat_lit 0 ∧ nat_lit 2558 = nat_lit 2558 ∧ nat_lit 384 = nat_lit 384 ∧ nat_lit 0 = nat_lit 0 ∧ nat_lit 5 = nat_lit 5 ∧ [Ct.int IntKind.i64,Ct.sl false [Ct.int IntKind.u8]] = [.int .i64,Ct.sl false [.int .u8]] ∧ (0:Int) ≤ (0:Int) ∧ (0:Int) ≤ (↑(List.length (U.list (nth (U.i (0:Int)) (List.tail (U.list (nth (U.i (0:Int)) L.list (Int.toNat i.int)))) (0:Nat)))):Int) ∧ (0:Int) ≤ U.int (nth (U.i (0:Int)) (U.list (nth (U.i (0:Int)) L.list (Int.toNat i.int))) (0:Nat)) ∧ List.length xs ≤ (65536:Nat) ∧ U.int (nth (U.i (0:Int)) (U.list (nth (U.i (0:Int)) L.list (Int.toNat i.int))) (0:Nat)) * (16:Int) + (↑(List.length (U.list (nth (U.i (0:Int)) (List.tail (U.list (nth (U.i (0:Int)) L.list (Int.toNat i.int)))) (0:Nat)))):Int) ≤ (xs.length:Int)) ∧ bif Nat.blt (μ [.val (.int IntKind.i64) (U.i (IntKind.wrap .i64 (i.int + (1:Int)))),.ptr (nat_lit 384) (nat_lit 0),.own (nat_lit 2558)] [.box [.val .bool fl,.val (.int IntKind.i64) size,.val (.sl true [.int .i64,Ct.sl false [.int .u8]]) L],.arr (nat_lit 5) (overU xs (Int.toNat (U.int (nth (U.i (0:Int)) (U.list (nth (U.i (0:Int)) L.list (Int.toNat i.int))) (0:Nat)) * (16:Int) + (0:Int))) (List.drop (Int.toNat (0:Int)) (U.list (nth (U.i (0:Int)) (List.tail (U.list (nth (U.i (0:Int)) L.list (Int.toNat i.int)))) (0:Nat)))))]) N then (nat_lit 384 = nat_lit 384 ∧ nat_lit 0 = nat_lit 0 ∧ nat_lit 2558 = nat_lit 2558 ∧ [Ct.int IntKind.i64,Ct.sl false [Ct.int IntKind.u8]] = [.int .i64,Ct.sl false [.int .u8]] ∧ nat_lit 5 = nat_lit 5 ∧ (0:Int) ≤ IntKind.wrap .i64 (i.int + (1:Int)) ∧ IntKind.wrap .i64 (i.int + (1:Int)) ≤ (L.list.length:Int) ∧ List.length (overU xs (Int.toNat (U.int (nth (U.i (0:Int)) (U.list (nth (U.i (0:Int)) L.list (Int.toNat i.int))) (0:Nat)) * (16:Int) + (0:Int))) (List.drop (Int.toNat (0:Int)) (U.list (nth (U.i (0:Int)) (List.tail (U.list (nth (U.i (0:Int)) L.list (Int.toNat i.int)))) (0:Nat))))) ≤ (65536:Nat) ∧ fitsR (List.length (overU xs (Int.toNat (U.int (nth (U.i (0:Int)) (U.list (nth (U.i (0:Int)) L.list (Int.toNat i.int))) (0:Nat)) * (16:Int) + (0:Int))) (List.drop (Int.toNat (0:Int)) (U.list (nth (U.i (0:Int)) (List.tail (U.list (nth (U.i (0:Int)) L.list (Int.toNat i.int)))) (0:Nat)))))) (List.drop (Int.toNat (IntKind.wrap .i64 (i.int + (1:Int)))) L.list) = true) ∧ k (Ex.exit (nat_lit 2)) (St.mk [(nat_lit 5,.own (nat_lit 2558))] [(nat_lit 2558,.arr (nat_lit 5) (applyR (overU xs (Int.toNat (U.int (nth (U.i (0:Int)) (U.list (nth (U.i (0:Int)) L.list (Int.toNat i.int))) (0:Nat)) * (16:Int) + (0:Int))) (List.drop (Int.toNat (0:Int)) (U.list (nth (U.i (0:Int)) (List.tail (U.list (nth (U.i (0:Int)) L.list (Int.toNat i.int)))) (0:Nat))))) (List.drop (Int.toNat (IntKind.wrap .i64 (i.int + (1:Int)))) L.list)))]) else False else False else k (Ex.exit (nat_lit 2)) (St.mk [(nat_lit 5,.own (nat_lit 2558))] [(nat_lit 2558,.arr (nat_lit 5) xs)])) := by kernel_rfl
theorem rap_round4 (pan : KP) (μ : Mu) (N : Nat) (k : KE) (j i a d fl size L : U) (xs : List U) : (exec (rapC.panics pan) (loopBody Tryz.f48 2) 4 ⟨[(9, vi j), (8, .ptr 1024 0), (5, .own 2558), (7, vi i), (3, .ptr 384 0)], [(1024, .box [vi a, vl (.int .u8) d]), (2558, .arr u8T xs), (384, .box [vb fl, vi size, vt RC L])]⟩ (again PR (some ([5, 7, 3], [2558, 384])) none pan [9, 8, 5, 7, 3] [1024, 2558, 384] rapLoop4 μ N k)) = (bif decide (j.int < (d.list.length:Int)) then (fun T => Alt T T) (bif decide ((0:Int) ≤ j.int ∧ j.int < (d.list.length:Int)) then bif decide ((0:Int) ≤ IntKind.wrap .i64 (IntKind.wrap .i64 (a.int * (16:Int)) + j.int) ∧ IntKind.wrap .i64 (IntKind.wrap .i64 (a.int * (16:Int)) + j.int) < (xs.length:Int)) then bif Nat.blt (Int.toNat (IntKind.wrap .i64 (IntKind.wrap .i64 (a.int * (16:Int)) + j.int))) (List.length xs) then bif Nat.blt (μ [.val (.int IntKind.i64) (U.i (IntKind.wrap .i64 (j.int + (1:Int)))),.ptr (nat_lit 1024) (nat_lit 0),.own (nat_lit 2558),.val (.int IntKind.i64) i,.ptr (nat_lit 384) (nat_lit 0)] [.box [.val (.int IntKind.i64) a,.val (.sl false [.int .u8]) d],.arr (nat_lit 5) (List.set xs (Int.toNat (IntKind.wrap .i64 (IntKind.wrap .i64 (a.int * (16:Int)) + j.int))) (nth (U.i (0:Int)) (patchU [nth (U.i (0:Int)) xs (Int.toNat (IntKind.wrap .i64 (IntKind.wrap .i64 (a.int * (16:Int)) + j.int)))] (0:Nat) [nth (U.i (0:Int)) d.list (Int.toNat j.int)]) (0:Nat))),.box [.val .bool fl,.val (.int IntKind.i64) size,.val (.sl true [.int .i64,Ct.sl false [.int .u8]]) L]]) N then (nat_lit 1024 = nat_lit 1024 ∧ nat_lit 0 = nat_lit 0 ∧ nat_lit 2558 = nat_lit 2558 ∧ nat_lit 384 = nat_lit 384 ∧ nat_lit 0 = nat_lit 0 ∧ nat_lit 5 = nat_lit 5 ∧ [Ct.int IntKind.i64,Ct.sl false [Ct.int IntKind.u8]] = [.int .i64,Ct.sl false [.int .u8]] ∧ (0:Int) ≤ IntKind.wrap .i64 (j.int + (1:Int)) ∧ IntKind.wrap .i64 (j.int + (1:Int)) ≤ (d.list.length:Int) ∧ (0:Int) ≤ a.int ∧ List.length (List.set xs (Int.toNat (IntKind.wrap .i64 (IntKind.wrap .i64 (a.int * (16:Int)) + j.int))) (nth (U.i (0:Int)) (patchU [nth (U.i (0:Int)) xs (Int.toNat (IntKind.wrap .i64 (IntKind.wrap .i64 (a.int * (16:Int)) + j.int)))] (0:Nat) [nth (U.i (0:Int)) d.list (Int.toNat j.int)]) (0:Nat))) ≤ (65536:Nat) ∧ a.int * (16:Int) + (d.list.length:Int) ≤ (↑(List.length (List.set xs (Int.toNat (IntKind.wrap .i64 (IntKind.wrap .i64 (a.int * (16:Int)) + j.int))) (nth (U.i (0:Int)) (patchU [nth (U.i (0:Int)) xs (Int.toNat (IntKind.wrap .i64 (IntKind.wrap .i64 (a.int * (16:Int)) + j.int)))] (0:Nat) [nth (U.i (0:Int)) d.list (Int.toNat j.int)]) (0:Nat)))):Int)) ∧ k (Ex.exit (nat_lit 4)) (St.mk [(nat_lit 5,.own (nat_lit 2558)),(nat_lit 7,.val (.int IntKind.i64) i),(nat_lit 3,.ptr (nat_lit 384) (nat_lit 0))] [(nat_lit 2558,.arr (nat_lit 5) (overU (List.set xs (Int.toNat (IntKind.wrap .i64 (IntKind.wrap .i64 (a.int * (16:Int)) + j.int))) (nth (U.i (0:Int)) (patchU [nth (U.i (0:Int)) xs (Int.toNat (IntKind.wrap .i64 (IntKind.wrap .i64 (a.int * (16:Int)) + j.int)))] (0:Nat) [nth (U.i (0:Int)) d.list (Int.toNat j.int)]) (0:Nat))) (Int.toNat (a.int * (16:Int) + IntKind.wrap .i64 (j.int + (1:Int)))) (List.drop (Int.toNat (IntKind.wrap .i64 (j.int + (1:Int)))) d.list))),(nat_lit 384,.box [.val .bool fl,.val (.int IntKind.i64) size,.val (.sl true [.int .i64,Ct.sl false [.int .u8]]) L])]) else False else False else False else False) else k (Ex.exit (nat_lit 4)) (St.mk [(nat_lit 5,.own (nat_lit 2558)),(nat_lit 7,.val (.int IntKind.i64) i),(nat_lit 3,.ptr (nat_lit 384) (nat_lit 0))] [(nat_lit 2558,.arr (nat_lit 5) xs),(nat_lit 384,.box [.val .bool fl,.val (.int IntKind.i64) size,.val (.sl true [.int .i64,Ct.sl false [.int .u8]]) L])])) := by kernel_rfl
theorem rap_tree (R : RF) (b fl size L : U) : (run rapC Tryz.f48 [[b], [fl, size, L]] R) = (bif !streamR size.int L.list then bif decide ((0:Nat) + b.list.length ≤ room) && true then R [[U.l ([] ++ b.list)]] else False else bif decide ((0:Int) ≤ IntKind.wrap .i64 (size.int * (16:Int)) ∧ IntKind.wrap .i64 (size.int * (16:Int)) ≤ IntKind.wrap .i64 (size.int * (16:Int)) ∧ IntKind.wrap .i64 (size.int * (16:Int)) ≤ (↑room:Int)) then (nat_lit 2558 = nat_lit 2558 ∧ nat_lit 5 = nat_lit 5 ∧ nat_lit 384 = nat_lit 384 ∧ nat_lit 0 = nat_lit 0 ∧ [Ct.int IntKind.i64,Ct.sl false [Ct.int IntKind.u8]] = [.int .i64,Ct.sl false [.int .u8]] ∧ (0:Int) ≤ (0:Int) ∧ List.length (List.replicate (Int.toNat (IntKind.wrap .i64 (size.int * (16:Int)))) (U.i (0:Int))) ≤ (65536:Nat) ∧ (0:Int) ≤ (↑(List.length (List.replicate (Int.toNat (IntKind.wrap .i64 (size.int * (16:Int)))) (U.i (0:Int)))):Int)) ∧ (nat_lit 384 = nat_lit 384 ∧ nat_lit 0 = nat_lit 0 ∧ nat_lit 2558 = nat_lit 2558 ∧ [Ct.int IntKind.i64,Ct.sl false [Ct.int IntKind.u8]] = [.int .i64,Ct.sl false [.int .u8]] ∧ nat_lit 5 = nat_lit 5 ∧ (0:Int) ≤ (0:Int) ∧ (0:Int) ≤ (L.list.length:Int) ∧ List.length (bif fl.bool then List.replicate (Int.toNat (IntKind.wrap .i64 (size.int * (16:Int)))) (U.i (0:Int)) else overU (List.replicate (Int.toNat (IntKind.wrap .i64 (size.int * (16:Int)))) (U.i (0:Int))) (Int.toNat (0:Int)) (List.drop (Int.toNat (0:Int)) b.list)) ≤ (65536:Nat) ∧ fitsR (List.length (bif fl.bool then List.replicate (Int.toNat (IntKind.wrap .i64 (size.int * (16:Int)))) (U.i (0:Int)) else overU (List.replicate (Int.toNat (IntKind.wrap .i64 (size.int * (16:Int)))) (U.i (0:Int))) (Int.toNat (0:Int)) (List.drop (Int.toNat (0:Int)) b.list))) (List.drop (Int.toNat (0:Int)) L.list) = true) ∧ R [[U.l (applyR (bif fl.bool then List.replicate (Int.toNat (IntKind.wrap .i64 (size.int * (16:Int)))) (U.i (0:Int)) else overU (List.replicate (Int.toNat (IntKind.wrap .i64 (size.int * (16:Int)))) (U.i (0:Int))) (Int.toNat (0:Int)) (List.drop (Int.toNat (0:Int)) b.list)) (List.drop (Int.toNat (0:Int)) L.list))]] else False) := by kernel_rfl
end Go.Mat

namespace Go.Mat
open Go Go.Den Go.Proofs
set_option maxRecDepth 100000
theorem alt2 {X : Prop} (h : X) : (fun T => Alt T T) X := ⟨h, h⟩
theorem rap_loop0 : LoopOk rapC 0 (loopBody Tryz.f48 0) := by
  refine loopOk_of (F := rapLoop0) (ts := [6, 5, 0, 3]) (os := [2558, 384]) rfl (fun svs os => match svs, os with | .val _ i :: _, .arr _ xs :: _ => ((xs.length : Int) - i.int).toNat | _, _ => 0) ?_
  intro pan svs os k ho1 ho2 h
  unfold rapLoop0 at h
  split at h
  · rename_i i o b pp po t xs fl size rc L
    obtain ⟨⟨rfl, rfl, rfl, rfl, rfl, h0, hx, hi⟩, hk⟩ := h
    refine .eq (rap_round0 pan _ _ k i b fl size L xs) ?_
    refine bd (fun h1 => bd (fun h2 => bi (fun h3 => dt ⟨h0, h2⟩ (dt ⟨h0, h1⟩ (blt (by omega) ?_))) (fun h3 => ?_)) (fun h2 => ?_)) (fun h1 => ?_)
    · have h3 : fl.bool = false := by simpa using h3
      rw [h3, drop_at (by omega)] at hk
      have hwi : IntKind.wrap .i64 (i.int + 1) = i.int + 1 := i64_in (by omega) (by omega)
      have hc : (i.int + 1).toNat = i.int.toNat + 1 := by omega
      have hset : overU xs i.int.toNat (U.at b.list i.int.toNat :: b.list.drop (i.int.toNat + 1)) = overU (xs.set i.int.toNat (U.at b.list i.int.toNat)) (i.int.toNat + 1) (b.list.drop (i.int.toNat + 1)) := (overU_set (by omega) _ _).symm
      have hk : k (.exit 0) ⟨[(5, .own 2558), (3, .ptr 384 0)], [(2558, .arr u8T (overU xs i.int.toNat (U.at b.list i.int.toNat :: b.list.drop (i.int.toNat + 1)))), (384, .box [vb fl, vi size, vt RC L])]⟩ := hk
      rw [hset] at hk
      have hsl : (xs.set i.int.toNat (U.at b.list i.int.toNat)).length = xs.length := List.length_set
      rw [h3, hwi, hc]
      show (bif Nat.blt _ _ then (_ ∧ _ ∧ _ ∧ _ ∧ _ ∧ _ ∧ (xs.set i.int.toNat (U.at b.list i.int.toNat)).length ≤ 65536 ∧ _ ≤ (((xs.set i.int.toNat (U.at b.list i.int.toNat)).length : Nat) : Int)) ∧ _ else _)
      rw [hsl]
      refine blt ?_ ⟨⟨by trivial, by trivial, by trivial, by trivial, by trivial, by omega, hx, by omega⟩, hk⟩
      show ((((xs.set i.int.toNat (U.at b.list i.int.toNat)).length : Nat) : Int) - (i.int + 1)).toNat < ((xs.length : Int) - i.int).toNat
      rw [hsl]
      omega
    · have h3 : fl.bool = true := by simpa using h3
      rw [h3] at hk
      exact hk
    · rw [List.drop_of_length_le (by omega), overU_nil] at hk
      cases hb : fl.bool <;> rw [hb] at hk <;> exact hk
    · rw [overU_end (by omega)] at hk
      cases hb : fl.bool <;> rw [hb] at hk <;> exact hk
  · exact h.elim
theorem rap_loop2 : LoopOk rapC 2 (loopBody Tryz.f48 1) := by
  refine loopOk_of (F := rapLoop2) (ts := [7, 3, 5]) (os := [384, 2558]) rfl (fun svs os => match svs, os with | .val _ i :: _, .box [_, _, .val _ L] :: _ => ((L.list.length : Int) - i.int).toNat | _, _ => 0) ?_
  intro pan svs os k ho1 ho2 h
  unfold rapLoop2 at h
  split at h
  · rename_i i pp po o fl size rc L t xs
    obtain ⟨⟨rfl, rfl, rfl, rfl, rfl, h0, hi, hx, hf⟩, hk⟩ := h
    refine .eq (rap_round2 pan _ _ k i fl size L xs) ?_
    refine bd (fun hlt => dt ⟨h0, hlt⟩ ?_) (fun hlt => ?_)
    · have hL : L.list.length ≤ maxLen := ho2.1.2.2.1.1
      rw [drop_at (by omega), applyR] at hk
      rw [drop_at (by omega), fitsR] at hf
      simp only [nth_tail, Nat.zero_add]
      simp only [Bool.and_eq_true, decide_eq_true_eq] at hf
      obtain ⟨⟨⟨f1, f2⟩, f3⟩, f4⟩ := hf
      have hwi : IntKind.wrap .i64 (i.int + 1) = i.int + 1 := i64_in (by omega) (by unfold maxLen at hL; omega)
      have hc : (i.int + 1).toNat = i.int.toNat + 1 := by omega
      have hol := overU_len (xs := xs) (j := (rcAt (U.at L.list i.int.toNat) * 16).toNat) (by omega) (rcData (U.at L.list i.int.toNat))
      rw [hwi, hc, Int.toNat_zero]
      simp only [List.drop_zero, Int.add_zero]
      refine ⟨⟨by trivial, by trivial, by trivial, by trivial, by trivial, by trivial, by trivial, by omega, by omega, f1, hx, f3⟩, ?_⟩
      show (bif Nat.blt _ _ then (_ ∧ _ ∧ _ ∧ _ ∧ _ ∧ _ ∧ _ ∧ (overU xs (rcAt (U.at L.list i.int.toNat) * 16).toNat (rcData (U.at L.list i.int.toNat))).length ≤ 65536 ∧ fitsR (overU xs (rcAt (U.at L.list i.int.toNat) * 16).toNat (rcData (U.at L.list i.int.toNat))).length _ = true) ∧ _ else _)
      rw [hol]
      exact blt (by simp only [U.int_i]; omega) ⟨⟨by trivial, by trivial, by trivial, by trivial, by trivial, by omega, by omega, hx, f4⟩, hk⟩
    · rw [List.drop_of_length_le (by omega), applyR] at hk
      exact hk
  · exact h.elim
theorem rap_loop4 : LoopOk rapC 4 (loopBody Tryz.f48 2) := by
  refine loopOk_of (F := rapLoop4) (ts := [9, 8, 5, 7, 3]) (os := [1024, 2558, 384]) rfl (fun svs os => match svs, os with | .val _ j :: _, .box [_, .val _ d] :: _ => ((d.list.length : Int) - j.int).toNat | _, _ => 0) ?_
  intro pan svs os k ho1 ho2 h
  unfold rapLoop4 at h
  split at h
  · rename_i j p1 o1 o i p2 o2 a d t xs fl size rc L
    obtain ⟨⟨rfl, rfl, rfl, rfl, rfl, rfl, rfl, h0, hj, ha, hx, hf⟩, hk⟩ := h
    refine .eq (rap_round4 pan _ _ k j i a d fl size L xs) ?_
    refine bd (fun hlt => ?_) (fun hlt => ?_)
    · refine alt2 ?_
      have hw1 : IntKind.wrap .i64 (a.int * 16) = a.int * 16 := i64_in (by omega) (by omega)
      have hw2 : IntKind.wrap .i64 (a.int * 16 + j.int) = a.int * 16 + j.int := i64_in (by omega) (by omega)
      have hwj : IntKind.wrap .i64 (j.int + 1) = j.int + 1 := i64_in (by omega) (by omega)
      have hc : (j.int + 1).toNat = j.int.toNat + 1 := by omega
      have hc2 : (a.int * 16 + (j.int + 1)).toNat = (a.int * 16 + j.int).toNat + 1 := by omega
      rw [drop_at (by omega)] at hk
      have hset : overU xs (a.int * 16 + j.int).toNat (U.at d.list j.int.toNat :: d.list.drop (j.int.toNat + 1)) = overU (xs.set (a.int * 16 + j.int).toNat (U.at d.list j.int.toNat)) ((a.int * 16 + j.int).toNat + 1) (d.list.drop (j.int.toNat + 1)) := (overU_set (by omega) _ _).symm
      rw [hset] at hk
      have hsl : (xs.set (a.int * 16 + j.int).toNat (U.at d.list j.int.toNat)).length = xs.length := List.length_set
      rw [hw1, hw2, hwj, hc, hc2]
      refine dt ⟨h0, hlt⟩ (dt ⟨by omega, by omega⟩ (blt (by omega) ?_))
      show (bif Nat.blt _ _ then (_ ∧ _ ∧ _ ∧ _ ∧ _ ∧ _ ∧ _ ∧ _ ∧ _ ∧ _ ∧ (xs.set (a.int * 16 + j.int).toNat (U.at d.list j.int.toNat)).length ≤ 65536 ∧ _ ≤ (((xs.set (a.int * 16 + j.int).toNat (U.at d.list j.int.toNat)).length : Nat) : Int)) ∧ _ else _)
      rw [hsl]
      exact blt (by simp only [U.int_i]; omega) ⟨⟨by trivial, by trivial, by trivial, by trivial, by trivial, by trivial, by trivial, by omega, by omega, ha, hx, hf⟩, hk⟩
    · rw [List.drop_of_length_le (by omega), overU_nil] at hk
      exact hk
  · exact h.elim
theorem rap_ok : SpecFP PR 48 cloneP applyS := fun fn us hfn hpre => by
  have hf : PR.funcs[(48 : Nat)]? = some Tryz.f48 := by kernel_rfl
  rw [hf] at hfn; cases hfn
  refine fn_okH (C := rapC) (mkC_ok eqs0_ok mixed_ok (.cons rsr_ok .nil) .nil) hf (by kernel_rfl) (loops_three (by kernel_rfl) rap_loop0 rap_loop2 rap_loop4) fun hok => ?_
  have hp : Tryz.f48.params.toList = [29, 85] := by kernel_rfl
  rw [hp] at hok
  obtain ⟨b, fl, size, L, hus⟩ := ap_args hok.1
  subst hus
  have hpre : b.list.length ≤ room := hpre
  refine .eq (rap_tree _ b fl size L) ?_
  rw [show applyS [[b], [fl, size, L]] = [[.l (applyX b.list fl.bool size.int L.list)]] from rfl]
  refine bi (fun h1 => bt ?_ ?_) (fun h1 => ?_)
  · rw [decide_eq_true (by omega)]
    rfl
  · have h1 : streamR size.int L.list = false := by simpa using h1
    rw [apply_no h1]
    rfl
  · have h1 : streamR size.int L.list = true := by simpa using h1
    obtain ⟨s0, s1, s2⟩ := stream_in h1
    have hw : IntKind.wrap .i64 (size.int * 16) = size.int * 16 := i64_in (by omega) (by omega)
    have hl : (List.replicate (size.int * 16).toNat (U.i 0)).length = (size.int * 16).toNat := List.length_replicate
    have hf := recs_fits L.list 0 (by omega) s2
    have hol := overU_len (xs := List.replicate (size.int * 16).toNat (U.i 0)) (j := 0) (by omega) b.list
    have hbl : (bif fl.bool then List.replicate (size.int * 16).toNat (U.i 0) else overU (List.replicate (size.int * 16).toNat (U.i 0)) 0 b.list).length = (size.int * 16).toNat := by
      cases fl.bool
      · exact hol.trans hl
      · exact hl
    rw [hw, apply_yes h1, Int.toNat_zero, List.drop_zero, List.drop_zero, hl, hbl]
    exact dt ⟨by omega, by omega, by show size.int * 16 ≤ (1073741824 : Int); omega⟩
      ⟨⟨by trivial, by trivial, by trivial, by trivial, by trivial, by omega, by omega, by omega⟩, ⟨by trivial, by trivial, by trivial, by trivial, by trivial, by omega, by omega, by omega, hf⟩, by trivial⟩
end Go.Mat

namespace Go.Mat
open Go Go.Den Go.Proofs
def trueS : List (List U) → List (List U) := fun _ => [[.b true]]
def nsumR : List U → Int → Int
  | [], n => n
  | r :: rs, n => bif decide (n ≤ 70000) then nsumR rs (n + (bif decide (70001 < (((rcData r).length : Nat) : Int)) then 70001 else (((rcData r).length : Nat) : Int))) else n
noncomputable def lawcLoop : LoopF := fun _ svs os k => match svs, os with
  | [.val (.int .i64) i, .ptr pp po, .val (.int .i64) n, .val (.sl false [.int .u8]) b], [.box [.val .bool fl, .val (.int .i64) size, .val (.sl true rc) L]] =>
    (pp = 384 ∧ po = 0 ∧ rc = RC ∧ n = .i n.int ∧ 0 ≤ i.int ∧ i.int ≤ (L.list.length : Int) ∧ 0 ≤ n.int ∧ n.int ≤ 140001) ∧
    k (.exit 0) ⟨[(5, vi (.i (nsumR (L.list.drop i.int.toNat) n.int))), (0, vl (.int .u8) b), (3, .ptr 384 0)], [(384, .box [vb fl, vi size, vt RC L])]⟩
  | _, _ => False
noncomputable def lawcC : Ctx := mkC PR eqs0 (fnsCons 46 trueS (fnsConsP 47 cloneP applyS (fnsConsP 48 cloneP applyS fnsNil))) trsNil
  (loopCons 0 [6, 3, 5, 0] [384] lawcLoop noLoops) (outCons 0 [5, 0, 3] [384] noOut) noOut
theorem lawc_round (pan : KP) (μ : Mu) (N : Nat) (k : KE) (i n b fl size L : U) : (exec (lawcC.panics pan) (loopBody Tryz.f10 0) 0 ⟨[(6, vi i), (3, .ptr 384 0), (5, vi n), (0, vl (.int .u8) b)], [(384, .box [vb fl, vi size, vt RC L])]⟩ (again PR (some ([5, 0, 3], [384])) none pan [6, 3, 5, 0] [384] lawcLoop μ N k)) = (bif decide (i.int < (L.list.length:Int)) then bif decide (n.int ≤ (70000:Int)) then bif decide ((0:Int) ≤ i.int ∧ i.int < (L.list.length:Int)) then bif Nat.blt (μ [.val (.int IntKind.i64) (U.i (IntKind.wrap .i64 (i.int + (1:Int)))),.ptr (nat_lit 384) (nat_lit 0),.val (.int IntKind.i64) (U.i (IntKind.wrap .i64 (n.int + bif decide ((70001:Int) < (↑(List.length (U.list (nth (U.i (0:Int)) (List.drop (1:Nat) (U.list (nth (U.i (0:Int)) L.list (Int.toNat i.int)))) (0:Nat)))):Int)) then (70001:Int) else (↑(List.length (U.list (nth (U.i (0:Int)) (List.drop (1:Nat) (U.list (nth (U.i (0:Int)) L.list (Int.toNat i.int)))) (0:Nat)))):Int)))),.val (.sl false [.int .u8]) b] [.box [.val .bool fl,.val (.int IntKind.i64) size,.val (.sl true [.int .i64,Ct.sl false [.int .u8]]) L]]) N then (nat_lit 384 = nat_lit 384 ∧ nat_lit 0 = nat_lit 0 ∧ [Ct.int IntKind.i64,Ct.sl false [Ct.int IntKind.u8]] = [.int .i64,Ct.sl false [.int .u8]] ∧ U.i (IntKind.wrap .i64 (n.int + bif decide ((70001:Int) < (↑(List.length (U.list (nth (U.i (0:Int)) (List.drop (1:Nat) (U.list (nth (U.i (0:Int)) L.list (Int.toNat i.int)))) (0:Nat)))):Int)) then (70001:Int) else (↑(List.length (U.list (nth (U.i (0:Int)) (List.drop (1:Nat) (U.list (nth (U.i (0:Int)) L.list (Int.toNat i.int)))) (0:Nat)))):Int))) = U.i (IntKind.wrap .i64 (n.int + bif decide ((70001:Int) < (↑(List.length (U.list (nth (U.i (0:Int)) (List.drop (1:Nat) (U.list (nth (U.i (0:Int)) L.list (Int.toNat i.int)))) (0:Nat)))):Int)) then (70001:Int) else (↑(List.length (U.list (nth (U.i (0:Int)) (List.drop (1:Nat) (U.list (nth (U.i (0:Int)) L.list (Int.toNat i.int)))) (0:Nat)))):Int))) ∧ (0:Int) ≤ IntKind.wrap .i64 (i.int + (1:Int)) ∧ IntKind.wrap .i64 (i.int + (1:Int)) ≤ (L.list.length:Int) ∧ (0:Int) ≤ IntKind.wrap .i64 (n.int + bif decide ((70001:Int) < (↑(List.length (U.list (nth (U.i (0:Int)) (List.drop (1:Nat) (U.list (nth (U.i (0:Int)) L.list (Int.toNat i.int)))) (0:Nat)))):Int)) then (70001:Int) else (↑(List.length (U.list (nth (U.i (0:Int)) (List.drop (1:Nat) (U.list (nth (U.i (0:Int)) L.list (Int.toNat i.int)))) (0:Nat)))):Int)) ∧ IntKind.wrap .i64 (n.int + bif decide ((70001:Int) < (↑(List.length (U.list (nth (U.i (0:Int)) (List.drop (1:Nat) (U.list (nth (U.i (0:Int)) L.list (Int.toNat i.int)))) (0:Nat)))):Int)) then (70001:Int) else (↑(List.length (U.list (nth (U.i (0:Int)) (List.drop (1:Nat) (U.list (nth (U.i (0:Int)) L.list (Int.toNat i.int)))) (0:Nat)))):Int)) ≤ (140001:Int)) ∧ k (Ex.exit (nat_lit 0)) (St.mk [(nat_lit 5,.val (.int IntKind.i64) (U.i (nsumR (List.drop (Int.toNat (IntKind.wrap .i64 (i.int + (1:Int)))) L.list) (IntKind.wrap .i64 (n.int + bif decide ((70001:Int) < (↑(List.length (U.list (nth (U.i (0:Int)) (List.drop (1:Nat) (U.list (nth (U.i (0:Int)) L.list (Int.toNat i.int)))) (0:Nat)))):Int)) then (70001:Int) else (↑(List.length (U.list (nth (U.i (0:Int)) (List.drop (1:Nat) (U.list (nth (U.i (0:Int)) L.list (Int.toNat i.int)))) (0:Nat)))):Int)))))),(nat_lit 0,.val (.sl false [.int .u8]) b),(nat_lit 3,.ptr (nat_lit 384) (nat_lit 0))] [(nat_lit 384,.box [.val .bool fl,.val (.int IntKind.i64) size,.val (.sl true [.int .i64,Ct.sl false [.int .u8]]) L])]) else False else False else k (Ex.exit (nat_lit 0)) (St.mk [(nat_lit 5,.val (.int IntKind.i64) n),(nat_lit 0,.val (.sl false [.int .u8]) b),(nat_lit 3,.ptr (nat_lit 384) (nat_lit 0))] [(nat_lit 384,.box [.val .bool fl,.val (.int IntKind.i64) size,.val (.sl true [.int .i64,Ct.sl false [.int .u8]]) L])]) else k (Ex.exit (nat_lit 0)) (St.mk [(nat_lit 5,.val (.int IntKind.i64) n),(nat_lit 0,.val (.sl false [.int .u8]) b),(nat_lit 3,.ptr (nat_lit 384) (nat_lit 0))] [(nat_lit 384,.box [.val .bool fl,.val (.int IntKind.i64) size,.val (.sl true [.int .i64,Ct.sl false [.int .u8]]) L])])) := by kernel_rfl
theorem lawc_tree (R : RF) (b fl size L : U) : (run lawcC Tryz.f10 [[b], [fl, size, L]] R) = (bif decide ((↑(List.length (U.list b)) : Int) > (70000 : Int)) then R [[U.b true]] else bif decide ((↑(List.length (U.list L)) : Int) > (1000 : Int)) then R [[U.b true]] else (nat_lit 384 = nat_lit 384
  ∧ nat_lit 0 = nat_lit 0 ∧ [Ct.int IntKind.i64, Ct.sl false [Ct.int IntKind.u8]] = [Ct.int IntKind.i64, Ct.sl false [Ct.int IntKind.u8]] ∧ U.i (0 : Int) = U.i (0 : Int) ∧ (0 : Int) ≤ (0 : Int) ∧ (0 : Int)
  ≤ (↑(List.length (U.list L)) : Int) ∧ (0 : Int) ≤ (0 : Int) ∧ (0 : Int) ≤ (140001 : Int)) ∧ bif decide (nsumR (List.drop (Int.toNat (0 : Int)) (U.list L)) (0 : Int) > (70000 : Int)) then R [[U.b true]]
  else cloneP [[b], [fl, size, L]] ∧ cloneP [[b], [fl, size, L]] ∧ bif ByteArray.toList (ByteArray.mk (List.toArray (List.map (fun x => UInt8.ofNat (Int.toNat (U.int x))) (applyX (U.list b) (U.bool fl) (U.int
  size) (U.list L))))) == ByteArray.toList (ByteArray.mk (List.toArray (List.map (fun x => UInt8.ofNat (Int.toNat (U.int x))) (applyX (U.list b) (U.bool fl) (U.int size) (U.list L))))) then bif ByteArray.toList
  (ByteArray.mk (List.toArray (List.map (fun x => UInt8.ofNat (Int.toNat (U.int x))) (U.list b)))) == ByteArray.toList (ByteArray.mk (List.toArray (List.map (fun x => UInt8.ofNat (Int.toNat (U.int x))) (U.list
  b)))) then R [[U.b true]] else R [[U.b false]] else R [[U.b false]]) := by kernel_rfl
end Go.Mat

namespace Go.Mat
open Go Go.Den Go.Proofs
set_option maxRecDepth 100000
theorem awake_ok : SpecF PR 46 trueS := fun fn us hfn => by
  have hf : PR.funcs[(46 : Nat)]? = some Tryz.f46 := by kernel_rfl
  rw [hf] at hfn; cases hfn
  cases us with
  | nil => exact fnOk_true (tb := 4) (by kernel_rfl) (by kernel_rfl) (by kernel_rfl) (by kernel_rfl) (by kernel_rfl) (fun w => AM.go_true AM.nctb mixed_ok (vs := []) (X := fun _ => .bool true) (fun _ => rfl) trivial AM.awrun w)
  | cons u r =>
    have hp : Tryz.f46.params.toList = [] := by kernel_rfl
    exact { body := by kernel_rfl, name := by kernel_rfl, calls := fun w Z vs hZ hx ⟨svs, h1, h2⟩ => by rw [hp] at h1; cases h1 }
theorem lawc_loop : LoopOk lawcC 0 (loopBody Tryz.f10 0) := by
  refine loopOk_of (F := lawcLoop) (ts := [6, 3, 5, 0]) (os := [384]) rfl (fun svs os => match svs, os with | .val _ i :: _, .box [_, _, .val _ L] :: _ => ((L.list.length : Int) - i.int).toNat | _, _ => 0) ?_
  intro pan svs os k ho1 ho2 h
  unfold lawcLoop at h
  split at h
  · rename_i i pp po n b fl size rc L
    obtain ⟨⟨rfl, rfl, rfl, hn, h0, hi, hn0, hn1⟩, hk⟩ := h
    refine .eq (lawc_round pan _ _ k i n b fl size L) ?_
    refine bd (fun hlt => bd (fun hle => dt ⟨h0, hlt⟩ ?_) (fun hle => ?_)) (fun hlt => ?_)
    · have hL : L.list.length ≤ maxLen := ho2.1.2.2.1.1
      rw [drop_at (by omega), nsumR, decide_eq_true hle] at hk
      have hwi : IntKind.wrap .i64 (i.int + 1) = i.int + 1 := i64_in (by omega) (by unfold maxLen at hL; omega)
      have hc : (i.int + 1).toNat = i.int.toNat + 1 := by omega
      have hm : 0 ≤ (bif decide (70001 < (((rcData (U.at L.list i.int.toNat)).length : Nat) : Int)) then 70001 else (((rcData (U.at L.list i.int.toNat)).length : Nat) : Int)) ∧ (bif decide (70001 < (((rcData (U.at L.list i.int.toNat)).length : Nat) : Int)) then 70001 else (((rcData (U.at L.list i.int.toNat)).length : Nat) : Int)) ≤ 70001 := by
        refine ⟨?_, ?_⟩
        · cases hd : decide (70001 < (((rcData (U.at L.list i.int.toNat)).length : Nat) : Int))
          · simp only [cond_false]; omega
          · simp only [cond_true]; omega
        · cases hd : decide (70001 < (((rcData (U.at L.list i.int.toNat)).length : Nat) : Int))
          · simp only [cond_false]; have := of_decide_eq_false hd; omega
          · simp only [cond_true]; omega
      have hdrop : ∀ l : List U, nth (U.i 0) (l.drop 1) 0 = nth (U.i 0) l 1 := fun l => by cases l <;> rfl
      simp only [hdrop]
      have hwn : IntKind.wrap .i64 (n.int + (bif decide (70001 < (((rcData (U.at L.list i.int.toNat)).length : Nat) : Int)) then 70001 else (((rcData (U.at L.list i.int.toNat)).length : Nat) : Int))) = n.int + (bif decide (70001 < (((rcData (U.at L.list i.int.toNat)).length : Nat) : Int)) then 70001 else (((rcData (U.at L.list i.int.toNat)).length : Nat) : Int)) := i64_in (by omega) (by omega)
      have hk : k (.exit 0) ⟨[(5, vi (.i (nsumR (L.list.drop (i.int.toNat + 1)) (n.int + (bif decide (70001 < (((rcData (U.at L.list i.int.toNat)).length : Nat) : Int)) then 70001 else (((rcData (U.at L.list i.int.toNat)).length : Nat) : Int)))))), (0, vl (.int .u8) b), (3, .ptr 384 0)], [(384, .box [vb fl, vi size, vt RC L])]⟩ := hk
      rw [hwi, hc]
      show (bif Nat.blt _ _ then (_ ∧ _ ∧ _ ∧ _ ∧ _ ∧ _ ∧ 0 ≤ IntKind.wrap .i64 (n.int + (bif decide (70001 < (((rcData (U.at L.list i.int.toNat)).length : Nat) : Int)) then 70001 else (((rcData (U.at L.list i.int.toNat)).length : Nat) : Int))) ∧ IntKind.wrap .i64 (n.int + (bif decide (70001 < (((rcData (U.at L.list i.int.toNat)).length : Nat) : Int)) then 70001 else (((rcData (U.at L.list i.int.toNat)).length : Nat) : Int))) ≤ 140001) ∧ k (.exit 0) ⟨[(5, vi (.i (nsumR _ (IntKind.wrap .i64 (n.int + (bif decide (70001 < (((rcData (U.at L.list i.int.toNat)).length : Nat) : Int)) then 70001 else (((rcData (U.at L.list i.int.toNat)).length : Nat) : Int))))))), _, _], _⟩ else _)
      rw [hwn]
      exact blt (by simp only [U.int_i]; omega) ⟨⟨by trivial, by trivial, by trivial, by trivial, by omega, by omega, by omega, by omega⟩, hk⟩
    · rw [drop_at (by omega), nsumR, decide_eq_false hle] at hk
      have hk : k (.exit 0) ⟨[(5, vi (.i n.int)), (0, vl (.int .u8) b), (3, .ptr 384 0)], [(384, .box [vb fl, vi size, vt RC L])]⟩ := hk
      rw [← hn] at hk
      exact hk
    · rw [List.drop_of_length_le (by omega), nsumR, ← hn] at hk
      exact hk
  · exact h.elim
theorem lawc_ok : SpecF PR 10 trueS := fun fn us hfn => by
  have hf : PR.funcs[(10 : Nat)]? = some Tryz.f10 := by kernel_rfl
  rw [hf] at hfn; cases hfn
  refine fn_okH (C := lawcC) (mkC_ok eqs0_ok mixed_ok (.cons awake_ok (.consP ap_ok (.consP rap_ok .nil))) .nil) hf (by kernel_rfl) (loops_one (by kernel_rfl) lawc_loop) fun hok => ?_
  have hp : Tryz.f10.params.toList = [29, 85] := by kernel_rfl
  rw [hp] at hok
  obtain ⟨b, fl, size, L, hus⟩ := ap_args hok.1
  subst hus
  refine .eq (lawc_tree _ b fl size L) ?_
  refine bd (fun h1 => rfl) (fun h1 => bd (fun h2 => rfl) (fun h2 => ?_))
  have h1 : ¬ 70000 < ((b.list.length : Nat) : Int) := h1
  refine ⟨⟨by trivial, by trivial, by trivial, by trivial, by omega, by omega, by omega, by omega⟩, ?_⟩
  refine bi (fun h3 => rfl) (fun h3 => ⟨?_, ?_, ?_⟩)
  · show b.list.length ≤ 1073741824
    omega
  · show b.list.length ≤ 1073741824
    omega
  · rw [beq_self_eq_true, beq_self_eq_true]
    rfl
end Go.Mat
