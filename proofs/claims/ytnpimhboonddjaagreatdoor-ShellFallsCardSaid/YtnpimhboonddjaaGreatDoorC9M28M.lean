/-
  The card of ShellFalls: the listed tables are tied to the program's text. Conditions: none.
-/
import Derived.Test.YtnpimhboonddjaaGreatDoorCxM28L
import Derived.SevenTiedAt
import Derived.Test.YtnpimhboonddjaaGreatDoorC7
namespace Go.Proofs.YtnpimhboonddjaaGreatDoor.shellFalls
open Go
theorem goes_false {P : Program} (h : P.funcs.toList.any Func.goes = false) (f : FuncId) : P.goes f = false := by
  have h1 : P.funcs.any Func.goes = false := by rw [← Array.any_toList]; exact h
  have h2 : ∀ g : FuncId, (P.funcs[g]?).any Func.goes = false := by
    intro g
    cases e : P.funcs[g]? with
    | none => rfl
    | some fn =>
      have hm : fn ∈ P.funcs.toList := Array.mem_toList_iff.2 (Array.mem_of_getElem? e)
      have := List.any_eq_false.1 h fn hm
      simpa using this
  unfold Program.goes
  rw [h1, Bool.and_false, Bool.or_false]
  simp only [h2]
  simp
theorem goesBy_false {P : Program} {c : OpenClaim} (hst : c.start = .entering) (h : P.funcs.toList.any Func.goes = false) : false = c.goesBy P := by
  unfold OpenClaim.goesBy Program.goesAt Program.goesFrom
  rw [hst]
  cases P.funcNamed c.func with
  | none => rfl
  | some f => simp [goes_false h f]
theorem none_goes : Tryz.prog.funcs.toList.any Func.goes = false := by kernel_rfl
theorem fNamed : Tryz.prog.funcNamed "matryoshka/matryoshkalaw28.ShellFalls" = some 3 := by kernel_rfl
theorem looksTrue : true = Tryz.prog.looks [] := by kernel_rfl
theorem noStand : Tryz.prog.wantsStandIn 5 = false := by kernel_rfl
theorem plain (f : FuncId) (fn : Func) (hf : Tryz.pinned.checked.prog.funcNamed "matryoshka/matryoshkalaw28.ShellFalls" = some f) (hfn : Tryz.pinned.checked.prog.funcs[f]? = some fn) :
    true = Tryz.pinned.checked.prog.looks [] ∧ ∀ (j : Nat) t, fn.params[j]? = some t → Tryz.pinned.checked.prog.wantsStandIn t = false := by
  obtain rfl : f = 3 := Option.some.inj (fNamed.symm.trans hf) |>.symm
  obtain rfl : fn = Tryz.f3 := (Option.some.inj (Tryz.func3.symm.trans hfn)).symm
  refine ⟨looksTrue, fun j t ht => ?_⟩
  have hp : Tryz.f3.params = #[5, 5, 5, 5] := by kernel_rfl
  rw [hp] at ht
  obtain rfl : t = 5 := by simpa using Array.mem_of_getElem? ht
  exact noStand
theorem wfText : Rows.shellFallsRow.wfByText (OpenSpec.ofChange Rows.shellFallsSpec) = true := by kernel_rfl
theorem mainOk : Tryz.pinned.checked.prog.mainIs = some (true, "40382d5937a3dfe24ac5de55b22e061bd5cb363c8f7963160e18b0c8346eed64".toList) := by kernel_rfl
end Go.Proofs.YtnpimhboonddjaaGreatDoor.shellFalls
namespace Go.Proofs.YtnpimhboonddjaaGreatDoor
open Go
theorem shellFalls_holds : Rows.ShellFallsCardSaid :=
  Claim7.holds_tied_plain_at .later [] _ _ _ _ shellFalls.over (fun _ h => by cases h) shellFalls.wfText (fun _ h => by cases h) shellFalls_row_tie rfl ⟨rfl, rfl⟩ shellFalls.mainOk rfl shellFalls.plain (shellFalls.goesBy_false rfl shellFalls.none_goes)
#print axioms shellFalls_holds
end Go.Proofs.YtnpimhboonddjaaGreatDoor
