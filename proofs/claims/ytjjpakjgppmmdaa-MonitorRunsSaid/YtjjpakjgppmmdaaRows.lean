/-
  No cell of these rows narrows 'for every input' (looked for: loops, veiled, ifaces, maps, wideKeys, modest, calm, conditions, laid).
  DERIVED. THE GIVEN ROWS OF THIS SEAT. 9 by the template 'for every input the law returns true; each argument reads behind the call as it read before'; 0 by the template 'total and deterministic' (their statements: YtjjpakjgppmmdaaTotals.lean).
  GIVEN WITH THE SEED: the statements are not yours to turn. If you find one false, say at which input.
  Laid BY PROGRAM, IN A SANDBOX (cutbox-rows.mjs): the forced cells as the released guide's own fill.sh prints them over the translation 72bd5281e4fc32ad… (all of the seat's roots in one cut). By AI agents, Wed Nov 11 2026. No macro, syntax, notation, axiom, sorry.
-/
import Derived.Test.YtjjpakjgppmmdaaChecked
import GoSem.Claim
import GoSem.ClaimJoined
import GoSem.ClaimMapViews
import Derived.JoinedTies
import Derived.KernelRfl
namespace Go.Proofs.Ytjjpakjgppmmdaa
/- THE CELL 'sum', in the pinned program and in every row, IS THE sha256 OF THE DUMP (.gsa) THAT YtjjpakjgppmmdaaProg.lean LOADS. Nothing in Lean hashes anything: it is a label: what it is worth is what the hold of that sum in a sandbox is worth. -/
noncomputable def Try.pinned : Pinned := { name := "ytjjpakjgppmmdaa", sum := "72bd5281e4fc32ad73648777bf9f776426267286027283192b36acc3f58d95a3", checked := Try.checked }
namespace Rows
def none {H : Type} : Left H := { results := [], args := [] }

/-- 'blazonlaw22.ClientLearns': WHATEVER THE INPUT: true; the input reads as it did. -/
def clientLearnsSpec : ChangeSpec := { name := "clientLearns", fn := fun _ => fun
  | [d1, d2] => { results := [.lit (.bool true)], args := [d1, d2] }
  | _ => none }
def clientLearnsRow : OpenClaim := { program := "ytjjpakjgppmmdaa", sum := "72bd5281e4fc32ad73648777bf9f776426267286027283192b36acc3f58d95a3", func := "blazon/blazonlaw22.ClientLearns", spec := "clientLearns", unfollowed := true, recurses := true, apart := false }
def ClientLearnsSaid : Prop := clientLearnsRow.holds Try.pinned (OpenSpec.ofChange clientLearnsSpec)

/-- ITS FALSE NEIGHBOUR: 'it returns false'. Refute it at one input. -/
def clientLearnsWrong : ChangeSpec := { name := "clientLearns", fn := fun _ => fun
  | [d1, d2] => { results := [.lit (.bool false)], args := [d1, d2] }
  | _ => none }
def ClientLearnsWrongFalsely : Prop := clientLearnsRow.holds Try.pinned (OpenSpec.ofChange clientLearnsWrong)

/-- 'blazonlaw22.ClientAsks': WHATEVER THE INPUT: true; the input reads as it did. -/
def clientAsksSpec : ChangeSpec := { name := "clientAsks", fn := fun _ => fun
  | [d1, d2, d3, d4] => { results := [.lit (.bool true)], args := [d1, d2, d3, d4] }
  | _ => none }
def clientAsksRow : OpenClaim := { program := "ytjjpakjgppmmdaa", sum := "72bd5281e4fc32ad73648777bf9f776426267286027283192b36acc3f58d95a3", func := "blazon/blazonlaw22.ClientAsks", spec := "clientAsks", unfollowed := true, recurses := true, apart := false }
def ClientAsksSaid : Prop := clientAsksRow.holds Try.pinned (OpenSpec.ofChange clientAsksSpec)

/-- ITS FALSE NEIGHBOUR: 'it returns false'. Refute it at one input. -/
def clientAsksWrong : ChangeSpec := { name := "clientAsks", fn := fun _ => fun
  | [d1, d2, d3, d4] => { results := [.lit (.bool false)], args := [d1, d2, d3, d4] }
  | _ => none }
def ClientAsksWrongFalsely : Prop := clientAsksRow.holds Try.pinned (OpenSpec.ofChange clientAsksWrong)

/-- 'blazonlaw22.ClientPieces': WHATEVER THE INPUT: true; the input reads as it did. -/
def clientPiecesSpec : ChangeSpec := { name := "clientPieces", fn := fun _ => fun
  | [d1, d2, d3] => { results := [.lit (.bool true)], args := [d1, d2, d3] }
  | _ => none }
def clientPiecesRow : OpenClaim := { program := "ytjjpakjgppmmdaa", sum := "72bd5281e4fc32ad73648777bf9f776426267286027283192b36acc3f58d95a3", func := "blazon/blazonlaw22.ClientPieces", spec := "clientPieces", unfollowed := true, recurses := true, apart := false }
def ClientPiecesSaid : Prop := clientPiecesRow.holds Try.pinned (OpenSpec.ofChange clientPiecesSpec)

/-- ITS FALSE NEIGHBOUR: 'it returns false'. Refute it at one input. -/
def clientPiecesWrong : ChangeSpec := { name := "clientPieces", fn := fun _ => fun
  | [d1, d2, d3] => { results := [.lit (.bool false)], args := [d1, d2, d3] }
  | _ => none }
def ClientPiecesWrongFalsely : Prop := clientPiecesRow.holds Try.pinned (OpenSpec.ofChange clientPiecesWrong)

/-- 'blazonlaw22.ClientBinds': WHATEVER THE INPUT: true; the input reads as it did. -/
def clientBindsSpec : ChangeSpec := { name := "clientBinds", fn := fun _ => fun
  | [d1, d2, d3, d4] => { results := [.lit (.bool true)], args := [d1, d2, d3, d4] }
  | _ => none }
def clientBindsRow : OpenClaim := { program := "ytjjpakjgppmmdaa", sum := "72bd5281e4fc32ad73648777bf9f776426267286027283192b36acc3f58d95a3", func := "blazon/blazonlaw22.ClientBinds", spec := "clientBinds", unfollowed := true, recurses := true, apart := false }
def ClientBindsSaid : Prop := clientBindsRow.holds Try.pinned (OpenSpec.ofChange clientBindsSpec)

/-- ITS FALSE NEIGHBOUR: 'it returns false'. Refute it at one input. -/
def clientBindsWrong : ChangeSpec := { name := "clientBinds", fn := fun _ => fun
  | [d1, d2, d3, d4] => { results := [.lit (.bool false)], args := [d1, d2, d3, d4] }
  | _ => none }
def ClientBindsWrongFalsely : Prop := clientBindsRow.holds Try.pinned (OpenSpec.ofChange clientBindsWrong)

/-- 'blazonlaw22.ClientHistories': WHATEVER THE INPUT: true; the input reads as it did. -/
def clientHistoriesSpec : ChangeSpec := { name := "clientHistories", fn := fun _ => fun
  | [d1, d2, d3, d4, d5, d6] => { results := [.lit (.bool true)], args := [d1, d2, d3, d4, d5, d6] }
  | _ => none }
def clientHistoriesRow : OpenClaim := { program := "ytjjpakjgppmmdaa", sum := "72bd5281e4fc32ad73648777bf9f776426267286027283192b36acc3f58d95a3", func := "blazon/blazonlaw22.ClientHistories", spec := "clientHistories", unfollowed := true, recurses := true, apart := false }
def ClientHistoriesSaid : Prop := clientHistoriesRow.holds Try.pinned (OpenSpec.ofChange clientHistoriesSpec)

/-- ITS FALSE NEIGHBOUR: 'it returns false'. Refute it at one input. -/
def clientHistoriesWrong : ChangeSpec := { name := "clientHistories", fn := fun _ => fun
  | [d1, d2, d3, d4, d5, d6] => { results := [.lit (.bool false)], args := [d1, d2, d3, d4, d5, d6] }
  | _ => none }
def ClientHistoriesWrongFalsely : Prop := clientHistoriesRow.holds Try.pinned (OpenSpec.ofChange clientHistoriesWrong)

/-- 'blazonlaw23.MonitorSteps': WHATEVER THE INPUT: true; the input reads as it did. -/
def monitorStepsSpec : ChangeSpec := { name := "monitorSteps", fn := fun _ => fun
  | [d1, d2, d3] => { results := [.lit (.bool true)], args := [d1, d2, d3] }
  | _ => none }
def monitorStepsRow : OpenClaim := { program := "ytjjpakjgppmmdaa", sum := "72bd5281e4fc32ad73648777bf9f776426267286027283192b36acc3f58d95a3", func := "blazon/blazonlaw23.MonitorSteps", spec := "monitorSteps", unfollowed := true, recurses := true, apart := false }
def MonitorStepsSaid : Prop := monitorStepsRow.holds Try.pinned (OpenSpec.ofChange monitorStepsSpec)

/-- ITS FALSE NEIGHBOUR: 'it returns false'. Refute it at one input. -/
def monitorStepsWrong : ChangeSpec := { name := "monitorSteps", fn := fun _ => fun
  | [d1, d2, d3] => { results := [.lit (.bool false)], args := [d1, d2, d3] }
  | _ => none }
def MonitorStepsWrongFalsely : Prop := monitorStepsRow.holds Try.pinned (OpenSpec.ofChange monitorStepsWrong)

/-- 'blazonlaw23.MonitorKeeps': WHATEVER THE INPUT: true; the input reads as it did. -/
def monitorKeepsSpec : ChangeSpec := { name := "monitorKeeps", fn := fun _ => fun
  | [d1, d2, d3, d4, d5] => { results := [.lit (.bool true)], args := [d1, d2, d3, d4, d5] }
  | _ => none }
def monitorKeepsRow : OpenClaim := { program := "ytjjpakjgppmmdaa", sum := "72bd5281e4fc32ad73648777bf9f776426267286027283192b36acc3f58d95a3", func := "blazon/blazonlaw23.MonitorKeeps", spec := "monitorKeeps", unfollowed := true, recurses := true, apart := false }
def MonitorKeepsSaid : Prop := monitorKeepsRow.holds Try.pinned (OpenSpec.ofChange monitorKeepsSpec)

/-- ITS FALSE NEIGHBOUR: 'it returns false'. Refute it at one input. -/
def monitorKeepsWrong : ChangeSpec := { name := "monitorKeeps", fn := fun _ => fun
  | [d1, d2, d3, d4, d5] => { results := [.lit (.bool false)], args := [d1, d2, d3, d4, d5] }
  | _ => none }
def MonitorKeepsWrongFalsely : Prop := monitorKeepsRow.holds Try.pinned (OpenSpec.ofChange monitorKeepsWrong)

/-- 'blazonlaw23.MonitorRuns': WHATEVER THE INPUT: true; the input reads as it did. -/
def monitorRunsSpec : ChangeSpec := { name := "monitorRuns", fn := fun _ => fun
  | [d1, d2, d3, d4] => { results := [.lit (.bool true)], args := [d1, d2, d3, d4] }
  | _ => none }
def monitorRunsRow : OpenClaim := { program := "ytjjpakjgppmmdaa", sum := "72bd5281e4fc32ad73648777bf9f776426267286027283192b36acc3f58d95a3", func := "blazon/blazonlaw23.MonitorRuns", spec := "monitorRuns", unfollowed := true, recurses := true, apart := false }
def MonitorRunsSaid : Prop := monitorRunsRow.holds Try.pinned (OpenSpec.ofChange monitorRunsSpec)

/-- ITS FALSE NEIGHBOUR: 'it returns false'. Refute it at one input. -/
def monitorRunsWrong : ChangeSpec := { name := "monitorRuns", fn := fun _ => fun
  | [d1, d2, d3, d4] => { results := [.lit (.bool false)], args := [d1, d2, d3, d4] }
  | _ => none }
def MonitorRunsWrongFalsely : Prop := monitorRunsRow.holds Try.pinned (OpenSpec.ofChange monitorRunsWrong)

/-- 'blazonlaw23.MonitorSees': WHATEVER THE INPUT: true; the input reads as it did. -/
def monitorSeesSpec : ChangeSpec := { name := "monitorSees", fn := fun _ => fun
  | [d1, d2, d3, d4, d5, d6, d7] => { results := [.lit (.bool true)], args := [d1, d2, d3, d4, d5, d6, d7] }
  | _ => none }
def monitorSeesRow : OpenClaim := { program := "ytjjpakjgppmmdaa", sum := "72bd5281e4fc32ad73648777bf9f776426267286027283192b36acc3f58d95a3", func := "blazon/blazonlaw23.MonitorSees", spec := "monitorSees", unfollowed := true, recurses := true, apart := false }
def MonitorSeesSaid : Prop := monitorSeesRow.holds Try.pinned (OpenSpec.ofChange monitorSeesSpec)

/-- ITS FALSE NEIGHBOUR: 'it returns false'. Refute it at one input. -/
def monitorSeesWrong : ChangeSpec := { name := "monitorSees", fn := fun _ => fun
  | [d1, d2, d3, d4, d5, d6, d7] => { results := [.lit (.bool false)], args := [d1, d2, d3, d4, d5, d6, d7] }
  | _ => none }
def MonitorSeesWrongFalsely : Prop := monitorSeesRow.holds Try.pinned (OpenSpec.ofChange monitorSeesWrong)

/- THE SECOND FORM. 'bulk': how many values and letters a reading holds, each counted each time it is reached (what is shared counts as often as it is met; a slice's spare places count too). A statement '..UptoSaid' is the law's where the arguments, and the package variables that the reading takes, are together of bulk at most 1048576: NARROWER than '..Said'. Prove '..Said' where nothing that the law and all that it calls make is longer than what came in: it says more and counts as full. Else prove '..UptoSaid'. A law counts once. -/
mutual
def uptoBulk {H : Type} : DataW H → Nat
  | .lit (.string bytes) => bytes.length + 1
  | .lit _ => 1
  | .nil => 1
  | .ptr d => uptoBulk d + 1
  | .slice elems spare => uptoBulkAll elems + uptoBulkAll spare + 1
  | .agg parts => uptoBulkAll parts + 1
  | .iface _ d => uptoBulk d + 1
  | .map entries => uptoBulkEntries entries + 1
  | .held _ => 1
def uptoBulkAll {H : Type} : List (DataW H) → Nat
  | [] => 0
  | d :: r => uptoBulk d + uptoBulkAll r
def uptoBulkEntries {H : Type} : List (Lit × DataW H) → Nat
  | [] => 0
  | x :: r => uptoBulkEntry x + uptoBulkEntries r
def uptoBulkEntry {H : Type} : Lit × DataW H → Nat
  | (.string bytes, d) => bytes.length + uptoBulk d + 1
  | (_, d) => uptoBulk d + 1
 end
def uptoSmall : (H : Type) → List (DataW H) → Bool := fun _ ds => decide (uptoBulkAll ds ≤ 1048576)
def OpenSpec.upto (s : _root_.Go.ChangeSpec) : _root_.Go.OpenSpec := { _root_.Go.OpenSpec.ofChange s with cond := some uptoSmall }

/-- 'blazonlaw22.ClientLearns', WHERE WHAT IT READS IS OF BULK AT MOST 1048576: true; the input reads as it did. -/
def clientLearnsUptoRow : OpenClaim := { program := "ytjjpakjgppmmdaa", sum := "72bd5281e4fc32ad73648777bf9f776426267286027283192b36acc3f58d95a3", func := "blazon/blazonlaw22.ClientLearns", spec := "clientLearns", unfollowed := true, recurses := true, apart := false, narrowed := true }
def ClientLearnsUptoSaid : Prop := clientLearnsUptoRow.holds Try.pinned (OpenSpec.upto clientLearnsSpec)

/-- 'blazonlaw22.ClientAsks', WHERE WHAT IT READS IS OF BULK AT MOST 1048576: true; the input reads as it did. -/
def clientAsksUptoRow : OpenClaim := { program := "ytjjpakjgppmmdaa", sum := "72bd5281e4fc32ad73648777bf9f776426267286027283192b36acc3f58d95a3", func := "blazon/blazonlaw22.ClientAsks", spec := "clientAsks", unfollowed := true, recurses := true, apart := false, narrowed := true }
def ClientAsksUptoSaid : Prop := clientAsksUptoRow.holds Try.pinned (OpenSpec.upto clientAsksSpec)

/-- 'blazonlaw22.ClientPieces', WHERE WHAT IT READS IS OF BULK AT MOST 1048576: true; the input reads as it did. -/
def clientPiecesUptoRow : OpenClaim := { program := "ytjjpakjgppmmdaa", sum := "72bd5281e4fc32ad73648777bf9f776426267286027283192b36acc3f58d95a3", func := "blazon/blazonlaw22.ClientPieces", spec := "clientPieces", unfollowed := true, recurses := true, apart := false, narrowed := true }
def ClientPiecesUptoSaid : Prop := clientPiecesUptoRow.holds Try.pinned (OpenSpec.upto clientPiecesSpec)

/-- 'blazonlaw22.ClientBinds', WHERE WHAT IT READS IS OF BULK AT MOST 1048576: true; the input reads as it did. -/
def clientBindsUptoRow : OpenClaim := { program := "ytjjpakjgppmmdaa", sum := "72bd5281e4fc32ad73648777bf9f776426267286027283192b36acc3f58d95a3", func := "blazon/blazonlaw22.ClientBinds", spec := "clientBinds", unfollowed := true, recurses := true, apart := false, narrowed := true }
def ClientBindsUptoSaid : Prop := clientBindsUptoRow.holds Try.pinned (OpenSpec.upto clientBindsSpec)

/-- 'blazonlaw22.ClientHistories', WHERE WHAT IT READS IS OF BULK AT MOST 1048576: true; the input reads as it did. -/
def clientHistoriesUptoRow : OpenClaim := { program := "ytjjpakjgppmmdaa", sum := "72bd5281e4fc32ad73648777bf9f776426267286027283192b36acc3f58d95a3", func := "blazon/blazonlaw22.ClientHistories", spec := "clientHistories", unfollowed := true, recurses := true, apart := false, narrowed := true }
def ClientHistoriesUptoSaid : Prop := clientHistoriesUptoRow.holds Try.pinned (OpenSpec.upto clientHistoriesSpec)

/-- 'blazonlaw23.MonitorSteps', WHERE WHAT IT READS IS OF BULK AT MOST 1048576: true; the input reads as it did. -/
def monitorStepsUptoRow : OpenClaim := { program := "ytjjpakjgppmmdaa", sum := "72bd5281e4fc32ad73648777bf9f776426267286027283192b36acc3f58d95a3", func := "blazon/blazonlaw23.MonitorSteps", spec := "monitorSteps", unfollowed := true, recurses := true, apart := false, narrowed := true }
def MonitorStepsUptoSaid : Prop := monitorStepsUptoRow.holds Try.pinned (OpenSpec.upto monitorStepsSpec)

/-- 'blazonlaw23.MonitorKeeps', WHERE WHAT IT READS IS OF BULK AT MOST 1048576: true; the input reads as it did. -/
def monitorKeepsUptoRow : OpenClaim := { program := "ytjjpakjgppmmdaa", sum := "72bd5281e4fc32ad73648777bf9f776426267286027283192b36acc3f58d95a3", func := "blazon/blazonlaw23.MonitorKeeps", spec := "monitorKeeps", unfollowed := true, recurses := true, apart := false, narrowed := true }
def MonitorKeepsUptoSaid : Prop := monitorKeepsUptoRow.holds Try.pinned (OpenSpec.upto monitorKeepsSpec)

/-- 'blazonlaw23.MonitorRuns', WHERE WHAT IT READS IS OF BULK AT MOST 1048576: true; the input reads as it did. -/
def monitorRunsUptoRow : OpenClaim := { program := "ytjjpakjgppmmdaa", sum := "72bd5281e4fc32ad73648777bf9f776426267286027283192b36acc3f58d95a3", func := "blazon/blazonlaw23.MonitorRuns", spec := "monitorRuns", unfollowed := true, recurses := true, apart := false, narrowed := true }
def MonitorRunsUptoSaid : Prop := monitorRunsUptoRow.holds Try.pinned (OpenSpec.upto monitorRunsSpec)

/-- 'blazonlaw23.MonitorSees', WHERE WHAT IT READS IS OF BULK AT MOST 1048576: true; the input reads as it did. -/
def monitorSeesUptoRow : OpenClaim := { program := "ytjjpakjgppmmdaa", sum := "72bd5281e4fc32ad73648777bf9f776426267286027283192b36acc3f58d95a3", func := "blazon/blazonlaw23.MonitorSees", spec := "monitorSees", unfollowed := true, recurses := true, apart := false, narrowed := true }
def MonitorSeesUptoSaid : Prop := monitorSeesUptoRow.holds Try.pinned (OpenSpec.upto monitorSeesSpec)

end Rows
end Go.Proofs.Ytjjpakjgppmmdaa
