/-
  No cell of these rows narrows 'for every input' (looked for: loops, veiled, ifaces, maps, wideKeys, modest, calm, conditions, laid).
  DERIVED. THE GIVEN ROWS OF THIS SEAT. 7 by the template 'for every input the law returns true; each argument reads behind the call as it read before'; 0 by the template 'total and deterministic' (their statements: YtmgncojckndckaaTotals.lean).
  GIVEN WITH THE SEED: the statements are not yours to turn. If you find one false, say at which input.
  Laid BY PROGRAM, IN A SANDBOX (cutbox-rows.mjs): the forced cells as the released guide's own fill.sh prints them over the translation 082cc3be93e7568a… (all of the seat's roots in one cut). By AI agents, Wed Nov 11 2026. No macro, syntax, notation, axiom, sorry.
-/
import Derived.Test.YtmgncojckndckaaChecked
import GoSem.Claim
import GoSem.ClaimJoined
import GoSem.ClaimMapViews
import Derived.JoinedTies
import Derived.KernelRfl
namespace Go.Proofs.Ytmgncojckndckaa
/- THE CELL 'sum', in the pinned program and in every row, IS THE sha256 OF THE DUMP (.gsa) THAT YtmgncojckndckaaProg.lean LOADS. Nothing in Lean hashes anything: it is a label: what it is worth is what the hold of that sum in a sandbox is worth. -/
noncomputable def Try.pinned : Pinned := { name := "ytmgncojckndckaa", sum := "082cc3be93e7568aa9a43344245b9bdad9914401389d1f33db7cc1cd97d90a4f", checked := Try.checked }
namespace Rows
def none {H : Type} : Left H := { results := [], args := [] }

/-- 'matryoshkalaw14.MetaPuts': WHATEVER THE INPUT: true; the input reads as it did. -/
def metaPutsSpec : ChangeSpec := { name := "metaPuts", fn := fun _ => fun
  | [d] => { results := [.lit (.bool true)], args := [d] }
  | _ => none }
def metaPutsRow : OpenClaim := { program := "ytmgncojckndckaa", sum := "082cc3be93e7568aa9a43344245b9bdad9914401389d1f33db7cc1cd97d90a4f", func := "matryoshka/matryoshkalaw14.MetaPuts", spec := "metaPuts", inPlace := ["sync/atomic.AddInt64", "sync/atomic.LoadInt64"], apart := false }
def MetaPutsSaid : Prop := metaPutsRow.holds Try.pinned (OpenSpec.ofChange metaPutsSpec)

/-- ITS FALSE NEIGHBOUR: 'it returns false'. Refute it at one input. -/
def metaPutsWrong : ChangeSpec := { name := "metaPuts", fn := fun _ => fun
  | [d] => { results := [.lit (.bool false)], args := [d] }
  | _ => none }
def MetaPutsWrongFalsely : Prop := metaPutsRow.holds Try.pinned (OpenSpec.ofChange metaPutsWrong)

/-- 'matryoshkalaw14.MetaLong': WHATEVER THE INPUT: true; the input reads as it did. -/
def metaLongSpec : ChangeSpec := { name := "metaLong", fn := fun _ => fun
  | [d] => { results := [.lit (.bool true)], args := [d] }
  | _ => none }
def metaLongRow : OpenClaim := { program := "ytmgncojckndckaa", sum := "082cc3be93e7568aa9a43344245b9bdad9914401389d1f33db7cc1cd97d90a4f", func := "matryoshka/matryoshkalaw14.MetaLong", spec := "metaLong", inPlace := ["sync/atomic.AddInt64", "sync/atomic.LoadInt64"], apart := false }
def MetaLongSaid : Prop := metaLongRow.holds Try.pinned (OpenSpec.ofChange metaLongSpec)

/-- ITS FALSE NEIGHBOUR: 'it returns false'. Refute it at one input. -/
def metaLongWrong : ChangeSpec := { name := "metaLong", fn := fun _ => fun
  | [d] => { results := [.lit (.bool false)], args := [d] }
  | _ => none }
def MetaLongWrongFalsely : Prop := metaLongRow.holds Try.pinned (OpenSpec.ofChange metaLongWrong)

/-- 'matryoshkalaw14.MetaUnlike': WHATEVER THE INPUT: true; the input reads as it did. -/
def metaUnlikeSpec : ChangeSpec := { name := "metaUnlike", fn := fun _ => fun
  | [d1, d2] => { results := [.lit (.bool true)], args := [d1, d2] }
  | _ => none }
def metaUnlikeRow : OpenClaim := { program := "ytmgncojckndckaa", sum := "082cc3be93e7568aa9a43344245b9bdad9914401389d1f33db7cc1cd97d90a4f", func := "matryoshka/matryoshkalaw14.MetaUnlike", spec := "metaUnlike", inPlace := ["sync/atomic.AddInt64", "sync/atomic.LoadInt64"], apart := false }
def MetaUnlikeSaid : Prop := metaUnlikeRow.holds Try.pinned (OpenSpec.ofChange metaUnlikeSpec)

/-- ITS FALSE NEIGHBOUR: 'it returns false'. Refute it at one input. -/
def metaUnlikeWrong : ChangeSpec := { name := "metaUnlike", fn := fun _ => fun
  | [d1, d2] => { results := [.lit (.bool false)], args := [d1, d2] }
  | _ => none }
def MetaUnlikeWrongFalsely : Prop := metaUnlikeRow.holds Try.pinned (OpenSpec.ofChange metaUnlikeWrong)

/-- 'matryoshkalaw14.MetaGets': WHATEVER THE INPUT: true; the input reads as it did. -/
def metaGetsSpec : ChangeSpec := { name := "metaGets", fn := fun _ => fun
  | [d] => { results := [.lit (.bool true)], args := [d] }
  | _ => none }
def metaGetsRow : OpenClaim := { program := "ytmgncojckndckaa", sum := "082cc3be93e7568aa9a43344245b9bdad9914401389d1f33db7cc1cd97d90a4f", func := "matryoshka/matryoshkalaw14.MetaGets", spec := "metaGets", inPlace := ["sync/atomic.AddInt64", "sync/atomic.LoadInt64"], unfollowed := true, recurses := true, apart := false }
def MetaGetsSaid : Prop := metaGetsRow.holds Try.pinned (OpenSpec.ofChange metaGetsSpec)

/-- ITS FALSE NEIGHBOUR: 'it returns false'. Refute it at one input. -/
def metaGetsWrong : ChangeSpec := { name := "metaGets", fn := fun _ => fun
  | [d] => { results := [.lit (.bool false)], args := [d] }
  | _ => none }
def MetaGetsWrongFalsely : Prop := metaGetsRow.holds Try.pinned (OpenSpec.ofChange metaGetsWrong)

/-- 'matryoshkalaw14.MetaBack': WHATEVER THE INPUT: true; the input reads as it did. -/
def metaBackSpec : ChangeSpec := { name := "metaBack", fn := fun _ => fun
  | [d] => { results := [.lit (.bool true)], args := [d] }
  | _ => none }
def metaBackRow : OpenClaim := { program := "ytmgncojckndckaa", sum := "082cc3be93e7568aa9a43344245b9bdad9914401389d1f33db7cc1cd97d90a4f", func := "matryoshka/matryoshkalaw14.MetaBack", spec := "metaBack", inPlace := ["sync/atomic.AddInt64", "sync/atomic.LoadInt64"], unfollowed := true, recurses := true, apart := false }
def MetaBackSaid : Prop := metaBackRow.holds Try.pinned (OpenSpec.ofChange metaBackSpec)

/-- ITS FALSE NEIGHBOUR: 'it returns false'. Refute it at one input. -/
def metaBackWrong : ChangeSpec := { name := "metaBack", fn := fun _ => fun
  | [d] => { results := [.lit (.bool false)], args := [d] }
  | _ => none }
def MetaBackWrongFalsely : Prop := metaBackRow.holds Try.pinned (OpenSpec.ofChange metaBackWrong)

/-- 'matryoshkalaw14.MetaCuts': WHATEVER THE INPUT: true; the input reads as it did. -/
def metaCutsSpec : ChangeSpec := { name := "metaCuts", fn := fun _ => fun
  | [d1, d2, d3] => { results := [.lit (.bool true)], args := [d1, d2, d3] }
  | _ => none }
def metaCutsRow : OpenClaim := { program := "ytmgncojckndckaa", sum := "082cc3be93e7568aa9a43344245b9bdad9914401389d1f33db7cc1cd97d90a4f", func := "matryoshka/matryoshkalaw14.MetaCuts", spec := "metaCuts", inPlace := ["sync/atomic.AddInt64", "sync/atomic.LoadInt64"], unfollowed := true, recurses := true, apart := false }
def MetaCutsSaid : Prop := metaCutsRow.holds Try.pinned (OpenSpec.ofChange metaCutsSpec)

/-- ITS FALSE NEIGHBOUR: 'it returns false'. Refute it at one input. -/
def metaCutsWrong : ChangeSpec := { name := "metaCuts", fn := fun _ => fun
  | [d1, d2, d3] => { results := [.lit (.bool false)], args := [d1, d2, d3] }
  | _ => none }
def MetaCutsWrongFalsely : Prop := metaCutsRow.holds Try.pinned (OpenSpec.ofChange metaCutsWrong)

/-- 'matryoshkalaw14.MetaRuns': WHATEVER THE INPUT: true; the input reads as it did. -/
def metaRunsSpec : ChangeSpec := { name := "metaRuns", fn := fun _ => fun
  | [d1, d2, d3] => { results := [.lit (.bool true)], args := [d1, d2, d3] }
  | _ => none }
def metaRunsRow : OpenClaim := { program := "ytmgncojckndckaa", sum := "082cc3be93e7568aa9a43344245b9bdad9914401389d1f33db7cc1cd97d90a4f", func := "matryoshka/matryoshkalaw14.MetaRuns", spec := "metaRuns", inPlace := ["sync/atomic.AddInt64", "sync/atomic.LoadInt64"], unfollowed := true, recurses := true, apart := false }
def MetaRunsSaid : Prop := metaRunsRow.holds Try.pinned (OpenSpec.ofChange metaRunsSpec)

/-- ITS FALSE NEIGHBOUR: 'it returns false'. Refute it at one input. -/
def metaRunsWrong : ChangeSpec := { name := "metaRuns", fn := fun _ => fun
  | [d1, d2, d3] => { results := [.lit (.bool false)], args := [d1, d2, d3] }
  | _ => none }
def MetaRunsWrongFalsely : Prop := metaRunsRow.holds Try.pinned (OpenSpec.ofChange metaRunsWrong)

/- THE SECOND FORM. 'bulk': how many values and letters a reading holds, each counted each time it is reached (what is shared counts as often as it is met; a slice's spare places count too). A statement '..UptoSaid' is the law's where the arguments, and the package variables that the reading takes, are together of bulk at most 1048576: NARROWER than '..Said'. Prove '..Said' where nothing that the law and all that it calls make is longer than what came in: it says more and counts as full. Else prove '..UptoSaid'. A law counts once. -/
mutual
def uptoBulk {H : Type} : DataW H → Nat
  | .lit (.string bytes) => bytes.length + 1
  | .lit _ => 1
  | .nil => 1
  | .ptr d => uptoBulk d + 1
  | .slice elems spare => uptoBulkAll elems + uptoBulkAll spare + 1
  | .agg parts => uptoBulkAll parts + 1
  | .iface _ d => uptoBulk d + 1
  | .map entries => uptoBulkEntries entries + 1
  | .held _ => 1
def uptoBulkAll {H : Type} : List (DataW H) → Nat
  | [] => 0
  | d :: r => uptoBulk d + uptoBulkAll r
def uptoBulkEntries {H : Type} : List (Lit × DataW H) → Nat
  | [] => 0
  | x :: r => uptoBulkEntry x + uptoBulkEntries r
def uptoBulkEntry {H : Type} : Lit × DataW H → Nat
  | (.string bytes, d) => bytes.length + uptoBulk d + 1
  | (_, d) => uptoBulk d + 1
 end
def uptoSmall : (H : Type) → List (DataW H) → Bool := fun _ ds => decide (uptoBulkAll ds ≤ 1048576)
def OpenSpec.upto (s : _root_.Go.ChangeSpec) : _root_.Go.OpenSpec := { _root_.Go.OpenSpec.ofChange s with cond := some uptoSmall }

/-- 'matryoshkalaw14.MetaPuts', WHERE WHAT IT READS IS OF BULK AT MOST 1048576: true; the input reads as it did. -/
def metaPutsUptoRow : OpenClaim := { program := "ytmgncojckndckaa", sum := "082cc3be93e7568aa9a43344245b9bdad9914401389d1f33db7cc1cd97d90a4f", func := "matryoshka/matryoshkalaw14.MetaPuts", spec := "metaPuts", inPlace := ["sync/atomic.AddInt64", "sync/atomic.LoadInt64"], apart := false, narrowed := true }
def MetaPutsUptoSaid : Prop := metaPutsUptoRow.holds Try.pinned (OpenSpec.upto metaPutsSpec)

/-- 'matryoshkalaw14.MetaLong', WHERE WHAT IT READS IS OF BULK AT MOST 1048576: true; the input reads as it did. -/
def metaLongUptoRow : OpenClaim := { program := "ytmgncojckndckaa", sum := "082cc3be93e7568aa9a43344245b9bdad9914401389d1f33db7cc1cd97d90a4f", func := "matryoshka/matryoshkalaw14.MetaLong", spec := "metaLong", inPlace := ["sync/atomic.AddInt64", "sync/atomic.LoadInt64"], apart := false, narrowed := true }
def MetaLongUptoSaid : Prop := metaLongUptoRow.holds Try.pinned (OpenSpec.upto metaLongSpec)

/-- 'matryoshkalaw14.MetaUnlike', WHERE WHAT IT READS IS OF BULK AT MOST 1048576: true; the input reads as it did. -/
def metaUnlikeUptoRow : OpenClaim := { program := "ytmgncojckndckaa", sum := "082cc3be93e7568aa9a43344245b9bdad9914401389d1f33db7cc1cd97d90a4f", func := "matryoshka/matryoshkalaw14.MetaUnlike", spec := "metaUnlike", inPlace := ["sync/atomic.AddInt64", "sync/atomic.LoadInt64"], apart := false, narrowed := true }
def MetaUnlikeUptoSaid : Prop := metaUnlikeUptoRow.holds Try.pinned (OpenSpec.upto metaUnlikeSpec)

/-- 'matryoshkalaw14.MetaGets', WHERE WHAT IT READS IS OF BULK AT MOST 1048576: true; the input reads as it did. -/
def metaGetsUptoRow : OpenClaim := { program := "ytmgncojckndckaa", sum := "082cc3be93e7568aa9a43344245b9bdad9914401389d1f33db7cc1cd97d90a4f", func := "matryoshka/matryoshkalaw14.MetaGets", spec := "metaGets", inPlace := ["sync/atomic.AddInt64", "sync/atomic.LoadInt64"], unfollowed := true, recurses := true, apart := false, narrowed := true }
def MetaGetsUptoSaid : Prop := metaGetsUptoRow.holds Try.pinned (OpenSpec.upto metaGetsSpec)

/-- 'matryoshkalaw14.MetaBack', WHERE WHAT IT READS IS OF BULK AT MOST 1048576: true; the input reads as it did. -/
def metaBackUptoRow : OpenClaim := { program := "ytmgncojckndckaa", sum := "082cc3be93e7568aa9a43344245b9bdad9914401389d1f33db7cc1cd97d90a4f", func := "matryoshka/matryoshkalaw14.MetaBack", spec := "metaBack", inPlace := ["sync/atomic.AddInt64", "sync/atomic.LoadInt64"], unfollowed := true, recurses := true, apart := false, narrowed := true }
def MetaBackUptoSaid : Prop := metaBackUptoRow.holds Try.pinned (OpenSpec.upto metaBackSpec)

/-- 'matryoshkalaw14.MetaCuts', WHERE WHAT IT READS IS OF BULK AT MOST 1048576: true; the input reads as it did. -/
def metaCutsUptoRow : OpenClaim := { program := "ytmgncojckndckaa", sum := "082cc3be93e7568aa9a43344245b9bdad9914401389d1f33db7cc1cd97d90a4f", func := "matryoshka/matryoshkalaw14.MetaCuts", spec := "metaCuts", inPlace := ["sync/atomic.AddInt64", "sync/atomic.LoadInt64"], unfollowed := true, recurses := true, apart := false, narrowed := true }
def MetaCutsUptoSaid : Prop := metaCutsUptoRow.holds Try.pinned (OpenSpec.upto metaCutsSpec)

/-- 'matryoshkalaw14.MetaRuns', WHERE WHAT IT READS IS OF BULK AT MOST 1048576: true; the input reads as it did. -/
def metaRunsUptoRow : OpenClaim := { program := "ytmgncojckndckaa", sum := "082cc3be93e7568aa9a43344245b9bdad9914401389d1f33db7cc1cd97d90a4f", func := "matryoshka/matryoshkalaw14.MetaRuns", spec := "metaRuns", inPlace := ["sync/atomic.AddInt64", "sync/atomic.LoadInt64"], unfollowed := true, recurses := true, apart := false, narrowed := true }
def MetaRunsUptoSaid : Prop := metaRunsUptoRow.holds Try.pinned (OpenSpec.upto metaRunsSpec)

end Rows
end Go.Proofs.Ytmgncojckndckaa
