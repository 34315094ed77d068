/-
  No cell of these rows narrows 'for every input' (looked for: loops, veiled, ifaces, maps, wideKeys, modest, calm, conditions, laid).
  DERIVED. THE GIVEN ROWS OF THIS SEAT. 5 by the template 'for every input the law returns true; each argument reads behind the call as it read before'; 0 by the template 'total and deterministic' (their statements: YtladpaehbolghaaGreatTotals.lean).
  GIVEN WITH THE SEED: the statements are not yours to turn. If you find one false, say at which input.
  Laid BY PROGRAM, IN A SANDBOX (cutbox-rows.mjs): the forced cells as the released guide's own fill.sh prints them over the translation b5fcac3b6513055a… (all of the seat's roots in one cut). By AI agents, Wed Nov 11 2026. No macro, syntax, notation, axiom, sorry.
-/
import Derived.Test.YtladpaehbolghaaGreatChecked
import GoSem.Claim
import GoSem.ClaimJoined
import GoSem.ClaimMapViews
import Derived.JoinedTies
import Derived.KernelRfl
namespace Go.Proofs.YtladpaehbolghaaGreat
/- THE CELL 'sum', in the pinned program and in every row, IS THE sha256 OF THE DUMP (.gsa) THAT YtladpaehbolghaaGreatProg.lean LOADS. Nothing in Lean hashes anything: it is a label: what it is worth is what the hold of that sum in a sandbox is worth. -/
noncomputable def Tryz.pinned : Pinned := { name := "ytladpaehbolghaagreat", sum := "b5fcac3b6513055ad62337c4a7f37d84d1d0bed98a3e39ee5226e933bda09e98", checked := Tryz.checked }
namespace Rows
def none {H : Type} : Left H := { results := [], args := [] }

/-- 'blazonlaw15.StoreBatches': WHATEVER THE INPUT: true; the input reads as it did. -/
def storeBatchesSpec : ChangeSpec := { name := "storeBatches", fn := fun _ => fun
  | [d1, d2] => { results := [.lit (.bool true)], args := [d1, d2] }
  | _ => none }
def storeBatchesRow : OpenClaim := { program := "ytladpaehbolghaagreat", sum := "b5fcac3b6513055ad62337c4a7f37d84d1d0bed98a3e39ee5226e933bda09e98", func := "blazon/blazonlaw15.StoreBatches", spec := "storeBatches", inPlace := ["maps.clone", "internal/bytealg.Compare"], unfollowed := true, recurses := true, apart := false }
def StoreBatchesSaid : Prop := storeBatchesRow.holds Tryz.pinned (OpenSpec.ofChange storeBatchesSpec)

/-- ITS FALSE NEIGHBOUR: 'it returns false'. Refute it at one input. -/
def storeBatchesWrong : ChangeSpec := { name := "storeBatches", fn := fun _ => fun
  | [d1, d2] => { results := [.lit (.bool false)], args := [d1, d2] }
  | _ => none }
def StoreBatchesWrongFalsely : Prop := storeBatchesRow.holds Tryz.pinned (OpenSpec.ofChange storeBatchesWrong)

/-- 'blazonlaw15.StoreDoes': WHATEVER THE INPUT: true; the input reads as it did. -/
def storeDoesSpec : ChangeSpec := { name := "storeDoes", fn := fun _ => fun
  | [d1, d2, d3] => { results := [.lit (.bool true)], args := [d1, d2, d3] }
  | _ => none }
def storeDoesRow : OpenClaim := { program := "ytladpaehbolghaagreat", sum := "b5fcac3b6513055ad62337c4a7f37d84d1d0bed98a3e39ee5226e933bda09e98", func := "blazon/blazonlaw15.StoreDoes", spec := "storeDoes", inPlace := ["maps.clone", "internal/bytealg.Compare"], unfollowed := true, recurses := true, apart := false }
def StoreDoesSaid : Prop := storeDoesRow.holds Tryz.pinned (OpenSpec.ofChange storeDoesSpec)

/-- ITS FALSE NEIGHBOUR: 'it returns false'. Refute it at one input. -/
def storeDoesWrong : ChangeSpec := { name := "storeDoes", fn := fun _ => fun
  | [d1, d2, d3] => { results := [.lit (.bool false)], args := [d1, d2, d3] }
  | _ => none }
def StoreDoesWrongFalsely : Prop := storeDoesRow.holds Tryz.pinned (OpenSpec.ofChange storeDoesWrong)

/-- 'blazonlaw15.StoreOwn': WHATEVER THE INPUT: true; the input reads as it did. -/
def storeOwnSpec : ChangeSpec := { name := "storeOwn", fn := fun _ => fun
  | [d1, d2, d3] => { results := [.lit (.bool true)], args := [d1, d2, d3] }
  | _ => none }
def storeOwnRow : OpenClaim := { program := "ytladpaehbolghaagreat", sum := "b5fcac3b6513055ad62337c4a7f37d84d1d0bed98a3e39ee5226e933bda09e98", func := "blazon/blazonlaw15.StoreOwn", spec := "storeOwn", inPlace := ["maps.clone", "internal/bytealg.Compare"], unfollowed := true, recurses := true, apart := false }
def StoreOwnSaid : Prop := storeOwnRow.holds Tryz.pinned (OpenSpec.ofChange storeOwnSpec)

/-- ITS FALSE NEIGHBOUR: 'it returns false'. Refute it at one input. -/
def storeOwnWrong : ChangeSpec := { name := "storeOwn", fn := fun _ => fun
  | [d1, d2, d3] => { results := [.lit (.bool false)], args := [d1, d2, d3] }
  | _ => none }
def StoreOwnWrongFalsely : Prop := storeOwnRow.holds Tryz.pinned (OpenSpec.ofChange storeOwnWrong)

/-- 'blazonlaw15.StoreGoes': WHATEVER THE INPUT: true; the input reads as it did. -/
def storeGoesSpec : ChangeSpec := { name := "storeGoes", fn := fun _ => fun
  | [d1, d2, d3] => { results := [.lit (.bool true)], args := [d1, d2, d3] }
  | _ => none }
def storeGoesRow : OpenClaim := { program := "ytladpaehbolghaagreat", sum := "b5fcac3b6513055ad62337c4a7f37d84d1d0bed98a3e39ee5226e933bda09e98", func := "blazon/blazonlaw15.StoreGoes", spec := "storeGoes", inPlace := ["maps.clone", "internal/bytealg.Compare"], unfollowed := true, recurses := true, apart := false }
def StoreGoesSaid : Prop := storeGoesRow.holds Tryz.pinned (OpenSpec.ofChange storeGoesSpec)

/-- ITS FALSE NEIGHBOUR: 'it returns false'. Refute it at one input. -/
def storeGoesWrong : ChangeSpec := { name := "storeGoes", fn := fun _ => fun
  | [d1, d2, d3] => { results := [.lit (.bool false)], args := [d1, d2, d3] }
  | _ => none }
def StoreGoesWrongFalsely : Prop := storeGoesRow.holds Tryz.pinned (OpenSpec.ofChange storeGoesWrong)

/-- 'blazonlaw15.StoreOpens': WHATEVER THE INPUT: true; the input reads as it did. -/
def storeOpensSpec : ChangeSpec := { name := "storeOpens", fn := fun _ => fun
  | [d1, d2] => { results := [.lit (.bool true)], args := [d1, d2] }
  | _ => none }
def storeOpensRow : OpenClaim := { program := "ytladpaehbolghaagreat", sum := "b5fcac3b6513055ad62337c4a7f37d84d1d0bed98a3e39ee5226e933bda09e98", func := "blazon/blazonlaw15.StoreOpens", spec := "storeOpens", inPlace := ["maps.clone", "internal/bytealg.Compare"], unfollowed := true, recurses := true, apart := false }
def StoreOpensSaid : Prop := storeOpensRow.holds Tryz.pinned (OpenSpec.ofChange storeOpensSpec)

/-- ITS FALSE NEIGHBOUR: 'it returns false'. Refute it at one input. -/
def storeOpensWrong : ChangeSpec := { name := "storeOpens", fn := fun _ => fun
  | [d1, d2] => { results := [.lit (.bool false)], args := [d1, d2] }
  | _ => none }
def StoreOpensWrongFalsely : Prop := storeOpensRow.holds Tryz.pinned (OpenSpec.ofChange storeOpensWrong)

/- THE SECOND FORM. 'bulk': how many values and letters a reading holds, each counted each time it is reached (what is shared counts as often as it is met; a slice's spare places count too). A statement '..UptoSaid' is the law's where the arguments, and the package variables that the reading takes, are together of bulk at most 1048576: NARROWER than '..Said'. Prove '..Said' where nothing that the law and all that it calls make is longer than what came in: it says more and counts as full. Else prove '..UptoSaid'. A law counts once. -/
mutual
def uptoBulk {H : Type} : DataW H → Nat
  | .lit (.string bytes) => bytes.length + 1
  | .lit _ => 1
  | .nil => 1
  | .ptr d => uptoBulk d + 1
  | .slice elems spare => uptoBulkAll elems + uptoBulkAll spare + 1
  | .agg parts => uptoBulkAll parts + 1
  | .iface _ d => uptoBulk d + 1
  | .map entries => uptoBulkEntries entries + 1
  | .held _ => 1
def uptoBulkAll {H : Type} : List (DataW H) → Nat
  | [] => 0
  | d :: r => uptoBulk d + uptoBulkAll r
def uptoBulkEntries {H : Type} : List (Lit × DataW H) → Nat
  | [] => 0
  | x :: r => uptoBulkEntry x + uptoBulkEntries r
def uptoBulkEntry {H : Type} : Lit × DataW H → Nat
  | (.string bytes, d) => bytes.length + uptoBulk d + 1
  | (_, d) => uptoBulk d + 1
 end
def uptoSmall : (H : Type) → List (DataW H) → Bool := fun _ ds => decide (uptoBulkAll ds ≤ 1048576)
def OpenSpec.upto (s : _root_.Go.ChangeSpec) : _root_.Go.OpenSpec := { _root_.Go.OpenSpec.ofChange s with cond := some uptoSmall }

/-- 'blazonlaw15.StoreBatches', WHERE WHAT IT READS IS OF BULK AT MOST 1048576: true; the input reads as it did. -/
def storeBatchesUptoRow : OpenClaim := { program := "ytladpaehbolghaagreat", sum := "b5fcac3b6513055ad62337c4a7f37d84d1d0bed98a3e39ee5226e933bda09e98", func := "blazon/blazonlaw15.StoreBatches", spec := "storeBatches", inPlace := ["maps.clone", "internal/bytealg.Compare"], unfollowed := true, recurses := true, apart := false, narrowed := true }
def StoreBatchesUptoSaid : Prop := storeBatchesUptoRow.holds Tryz.pinned (OpenSpec.upto storeBatchesSpec)

/-- 'blazonlaw15.StoreDoes', WHERE WHAT IT READS IS OF BULK AT MOST 1048576: true; the input reads as it did. -/
def storeDoesUptoRow : OpenClaim := { program := "ytladpaehbolghaagreat", sum := "b5fcac3b6513055ad62337c4a7f37d84d1d0bed98a3e39ee5226e933bda09e98", func := "blazon/blazonlaw15.StoreDoes", spec := "storeDoes", inPlace := ["maps.clone", "internal/bytealg.Compare"], unfollowed := true, recurses := true, apart := false, narrowed := true }
def StoreDoesUptoSaid : Prop := storeDoesUptoRow.holds Tryz.pinned (OpenSpec.upto storeDoesSpec)

/-- 'blazonlaw15.StoreOwn', WHERE WHAT IT READS IS OF BULK AT MOST 1048576: true; the input reads as it did. -/
def storeOwnUptoRow : OpenClaim := { program := "ytladpaehbolghaagreat", sum := "b5fcac3b6513055ad62337c4a7f37d84d1d0bed98a3e39ee5226e933bda09e98", func := "blazon/blazonlaw15.StoreOwn", spec := "storeOwn", inPlace := ["maps.clone", "internal/bytealg.Compare"], unfollowed := true, recurses := true, apart := false, narrowed := true }
def StoreOwnUptoSaid : Prop := storeOwnUptoRow.holds Tryz.pinned (OpenSpec.upto storeOwnSpec)

/-- 'blazonlaw15.StoreGoes', WHERE WHAT IT READS IS OF BULK AT MOST 1048576: true; the input reads as it did. -/
def storeGoesUptoRow : OpenClaim := { program := "ytladpaehbolghaagreat", sum := "b5fcac3b6513055ad62337c4a7f37d84d1d0bed98a3e39ee5226e933bda09e98", func := "blazon/blazonlaw15.StoreGoes", spec := "storeGoes", inPlace := ["maps.clone", "internal/bytealg.Compare"], unfollowed := true, recurses := true, apart := false, narrowed := true }
def StoreGoesUptoSaid : Prop := storeGoesUptoRow.holds Tryz.pinned (OpenSpec.upto storeGoesSpec)

/-- 'blazonlaw15.StoreOpens', WHERE WHAT IT READS IS OF BULK AT MOST 1048576: true; the input reads as it did. -/
def storeOpensUptoRow : OpenClaim := { program := "ytladpaehbolghaagreat", sum := "b5fcac3b6513055ad62337c4a7f37d84d1d0bed98a3e39ee5226e933bda09e98", func := "blazon/blazonlaw15.StoreOpens", spec := "storeOpens", inPlace := ["maps.clone", "internal/bytealg.Compare"], unfollowed := true, recurses := true, apart := false, narrowed := true }
def StoreOpensUptoSaid : Prop := storeOpensUptoRow.holds Tryz.pinned (OpenSpec.upto storeOpensSpec)

end Rows
end Go.Proofs.YtladpaehbolghaaGreat
