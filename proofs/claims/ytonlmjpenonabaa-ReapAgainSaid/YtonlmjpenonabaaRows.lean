/-
  No cell of these rows narrows 'for every input' (looked for: loops, veiled, ifaces, maps, wideKeys, modest, calm, conditions, laid).
  DERIVED. THE GIVEN ROWS OF THIS SEAT. 9 by the template 'for every input the law returns true; each argument reads behind the call as it read before'; 0 by the template 'total and deterministic' (their statements: YtonlmjpenonabaaTotals.lean).
  GIVEN WITH THE SEED: the statements are not yours to turn. If you find one false, say at which input.
  Laid BY PROGRAM, IN A SANDBOX (cutbox-rows.mjs): the forced cells as the released guide's own fill.sh prints them over the translation d505ec98702e60a3… (all of the seat's roots in one cut). By AI agents, Wed Nov 11 2026. No macro, syntax, notation, axiom, sorry.
-/
import Derived.Test.YtonlmjpenonabaaChecked
import GoSem.Claim
import GoSem.ClaimJoined
import GoSem.ClaimMapViews
import Derived.JoinedTies
import Derived.KernelRfl
namespace Go.Proofs.Ytonlmjpenonabaa
/- THE CELL 'sum', in the pinned program and in every row, IS THE sha256 OF THE DUMP (.gsa) THAT YtonlmjpenonabaaProg.lean LOADS. Nothing in Lean hashes anything: it is a label: what it is worth is what the hold of that sum in a sandbox is worth. -/
noncomputable def Try.pinned : Pinned := { name := "ytonlmjpenonabaa", sum := "d505ec98702e60a34ecde6d2e2458b361bb04df9d539eaa7a7c8c0583067db33", checked := Try.checked }
namespace Rows
def none {H : Type} : Left H := { results := [], args := [] }

/-- 'blazonlaw17.PagesSaves': WHATEVER THE INPUT: true; the input reads as it did. -/
def pagesSavesSpec : ChangeSpec := { name := "pagesSaves", fn := fun _ => fun
  | [d1, d2] => { results := [.lit (.bool true)], args := [d1, d2] }
  | _ => none }
def pagesSavesRow : OpenClaim := { program := "ytonlmjpenonabaa", sum := "d505ec98702e60a34ecde6d2e2458b361bb04df9d539eaa7a7c8c0583067db33", func := "blazon/blazonlaw17.PagesSaves", spec := "pagesSaves", unfollowed := true, recurses := true, plainKeys := false, apart := false }
def PagesSavesSaid : Prop := pagesSavesRow.holds Try.pinned (OpenSpec.ofChange pagesSavesSpec)

/-- ITS FALSE NEIGHBOUR: 'it returns false'. Refute it at one input. -/
def pagesSavesWrong : ChangeSpec := { name := "pagesSaves", fn := fun _ => fun
  | [d1, d2] => { results := [.lit (.bool false)], args := [d1, d2] }
  | _ => none }
def PagesSavesWrongFalsely : Prop := pagesSavesRow.holds Try.pinned (OpenSpec.ofChange pagesSavesWrong)

/-- 'blazonlaw17.PagesLacks': WHATEVER THE INPUT: true; the input reads as it did. -/
def pagesLacksSpec : ChangeSpec := { name := "pagesLacks", fn := fun _ => fun
  | [d1, d2, d3, d4, d5] => { results := [.lit (.bool true)], args := [d1, d2, d3, d4, d5] }
  | _ => none }
def pagesLacksRow : OpenClaim := { program := "ytonlmjpenonabaa", sum := "d505ec98702e60a34ecde6d2e2458b361bb04df9d539eaa7a7c8c0583067db33", func := "blazon/blazonlaw17.PagesLacks", spec := "pagesLacks", unfollowed := true, recurses := true, plainKeys := false, apart := false }
def PagesLacksSaid : Prop := pagesLacksRow.holds Try.pinned (OpenSpec.ofChange pagesLacksSpec)

/-- ITS FALSE NEIGHBOUR: 'it returns false'. Refute it at one input. -/
def pagesLacksWrong : ChangeSpec := { name := "pagesLacks", fn := fun _ => fun
  | [d1, d2, d3, d4, d5] => { results := [.lit (.bool false)], args := [d1, d2, d3, d4, d5] }
  | _ => none }
def PagesLacksWrongFalsely : Prop := pagesLacksRow.holds Try.pinned (OpenSpec.ofChange pagesLacksWrong)

/-- 'blazonlaw17.PagesShared': WHATEVER THE INPUT: true; the input reads as it did. -/
def pagesSharedSpec : ChangeSpec := { name := "pagesShared", fn := fun _ => fun
  | [d1, d2, d3, d4] => { results := [.lit (.bool true)], args := [d1, d2, d3, d4] }
  | _ => none }
def pagesSharedRow : OpenClaim := { program := "ytonlmjpenonabaa", sum := "d505ec98702e60a34ecde6d2e2458b361bb04df9d539eaa7a7c8c0583067db33", func := "blazon/blazonlaw17.PagesShared", spec := "pagesShared", unfollowed := true, recurses := true, plainKeys := false, apart := false }
def PagesSharedSaid : Prop := pagesSharedRow.holds Try.pinned (OpenSpec.ofChange pagesSharedSpec)

/-- ITS FALSE NEIGHBOUR: 'it returns false'. Refute it at one input. -/
def pagesSharedWrong : ChangeSpec := { name := "pagesShared", fn := fun _ => fun
  | [d1, d2, d3, d4] => { results := [.lit (.bool false)], args := [d1, d2, d3, d4] }
  | _ => none }
def PagesSharedWrongFalsely : Prop := pagesSharedRow.holds Try.pinned (OpenSpec.ofChange pagesSharedWrong)

/-- 'blazonlaw17.PagesOne': WHATEVER THE INPUT: true; the input reads as it did. -/
def pagesOneSpec : ChangeSpec := { name := "pagesOne", fn := fun _ => fun
  | [d1, d2] => { results := [.lit (.bool true)], args := [d1, d2] }
  | _ => none }
def pagesOneRow : OpenClaim := { program := "ytonlmjpenonabaa", sum := "d505ec98702e60a34ecde6d2e2458b361bb04df9d539eaa7a7c8c0583067db33", func := "blazon/blazonlaw17.PagesOne", spec := "pagesOne", unfollowed := true, recurses := true, plainKeys := false, apart := false }
def PagesOneSaid : Prop := pagesOneRow.holds Try.pinned (OpenSpec.ofChange pagesOneSpec)

/-- ITS FALSE NEIGHBOUR: 'it returns false'. Refute it at one input. -/
def pagesOneWrong : ChangeSpec := { name := "pagesOne", fn := fun _ => fun
  | [d1, d2] => { results := [.lit (.bool false)], args := [d1, d2] }
  | _ => none }
def PagesOneWrongFalsely : Prop := pagesOneRow.holds Try.pinned (OpenSpec.ofChange pagesOneWrong)

/-- 'blazonlaw17.PagesBack': WHATEVER THE INPUT: true; the input reads as it did. -/
def pagesBackSpec : ChangeSpec := { name := "pagesBack", fn := fun _ => fun
  | [d1, d2, d3, d4] => { results := [.lit (.bool true)], args := [d1, d2, d3, d4] }
  | _ => none }
def pagesBackRow : OpenClaim := { program := "ytonlmjpenonabaa", sum := "d505ec98702e60a34ecde6d2e2458b361bb04df9d539eaa7a7c8c0583067db33", func := "blazon/blazonlaw17.PagesBack", spec := "pagesBack", unfollowed := true, recurses := true, plainKeys := false, apart := false }
def PagesBackSaid : Prop := pagesBackRow.holds Try.pinned (OpenSpec.ofChange pagesBackSpec)

/-- ITS FALSE NEIGHBOUR: 'it returns false'. Refute it at one input. -/
def pagesBackWrong : ChangeSpec := { name := "pagesBack", fn := fun _ => fun
  | [d1, d2, d3, d4] => { results := [.lit (.bool false)], args := [d1, d2, d3, d4] }
  | _ => none }
def PagesBackWrongFalsely : Prop := pagesBackRow.holds Try.pinned (OpenSpec.ofChange pagesBackWrong)

/-- 'blazonlaw18.ReapNeeds': WHATEVER THE INPUT: true; the input reads as it did. -/
def reapNeedsSpec : ChangeSpec := { name := "reapNeeds", fn := fun _ => fun
  | [d1, d2] => { results := [.lit (.bool true)], args := [d1, d2] }
  | _ => none }
def reapNeedsRow : OpenClaim := { program := "ytonlmjpenonabaa", sum := "d505ec98702e60a34ecde6d2e2458b361bb04df9d539eaa7a7c8c0583067db33", func := "blazon/blazonlaw18.ReapNeeds", spec := "reapNeeds", inPlace := ["internal/bytealg.Compare"], unfollowed := true, recurses := true, plainKeys := false, apart := false }
def ReapNeedsSaid : Prop := reapNeedsRow.holds Try.pinned (OpenSpec.ofChange reapNeedsSpec)

/-- ITS FALSE NEIGHBOUR: 'it returns false'. Refute it at one input. -/
def reapNeedsWrong : ChangeSpec := { name := "reapNeeds", fn := fun _ => fun
  | [d1, d2] => { results := [.lit (.bool false)], args := [d1, d2] }
  | _ => none }
def ReapNeedsWrongFalsely : Prop := reapNeedsRow.holds Try.pinned (OpenSpec.ofChange reapNeedsWrong)

/-- 'blazonlaw18.ReapAgain': WHATEVER THE INPUT: true; the input reads as it did. -/
def reapAgainSpec : ChangeSpec := { name := "reapAgain", fn := fun _ => fun
  | [d] => { results := [.lit (.bool true)], args := [d] }
  | _ => none }
def reapAgainRow : OpenClaim := { program := "ytonlmjpenonabaa", sum := "d505ec98702e60a34ecde6d2e2458b361bb04df9d539eaa7a7c8c0583067db33", func := "blazon/blazonlaw18.ReapAgain", spec := "reapAgain", inPlace := ["internal/bytealg.Compare"], unfollowed := true, recurses := true, plainKeys := false, apart := false }
def ReapAgainSaid : Prop := reapAgainRow.holds Try.pinned (OpenSpec.ofChange reapAgainSpec)

/-- ITS FALSE NEIGHBOUR: 'it returns false'. Refute it at one input. -/
def reapAgainWrong : ChangeSpec := { name := "reapAgain", fn := fun _ => fun
  | [d] => { results := [.lit (.bool false)], args := [d] }
  | _ => none }
def ReapAgainWrongFalsely : Prop := reapAgainRow.holds Try.pinned (OpenSpec.ofChange reapAgainWrong)

/-- 'blazonlaw18.ReapBound': WHATEVER THE INPUT: true; the input reads as it did. -/
def reapBoundSpec : ChangeSpec := { name := "reapBound", fn := fun _ => fun
  | [d] => { results := [.lit (.bool true)], args := [d] }
  | _ => none }
def reapBoundRow : OpenClaim := { program := "ytonlmjpenonabaa", sum := "d505ec98702e60a34ecde6d2e2458b361bb04df9d539eaa7a7c8c0583067db33", func := "blazon/blazonlaw18.ReapBound", spec := "reapBound", inPlace := ["internal/bytealg.Compare"], unfollowed := true, recurses := true, plainKeys := false, apart := false }
def ReapBoundSaid : Prop := reapBoundRow.holds Try.pinned (OpenSpec.ofChange reapBoundSpec)

/-- ITS FALSE NEIGHBOUR: 'it returns false'. Refute it at one input. -/
def reapBoundWrong : ChangeSpec := { name := "reapBound", fn := fun _ => fun
  | [d] => { results := [.lit (.bool false)], args := [d] }
  | _ => none }
def ReapBoundWrongFalsely : Prop := reapBoundRow.holds Try.pinned (OpenSpec.ofChange reapBoundWrong)

/-- 'blazonlaw18.ReapKeeps': WHATEVER THE INPUT: true; the input reads as it did. -/
def reapKeepsSpec : ChangeSpec := { name := "reapKeeps", fn := fun _ => fun
  | [d] => { results := [.lit (.bool true)], args := [d] }
  | _ => none }
def reapKeepsRow : OpenClaim := { program := "ytonlmjpenonabaa", sum := "d505ec98702e60a34ecde6d2e2458b361bb04df9d539eaa7a7c8c0583067db33", func := "blazon/blazonlaw18.ReapKeeps", spec := "reapKeeps", inPlace := ["internal/bytealg.Compare"], unfollowed := true, recurses := true, plainKeys := false, apart := false }
def ReapKeepsSaid : Prop := reapKeepsRow.holds Try.pinned (OpenSpec.ofChange reapKeepsSpec)

/-- ITS FALSE NEIGHBOUR: 'it returns false'. Refute it at one input. -/
def reapKeepsWrong : ChangeSpec := { name := "reapKeeps", fn := fun _ => fun
  | [d] => { results := [.lit (.bool false)], args := [d] }
  | _ => none }
def ReapKeepsWrongFalsely : Prop := reapKeepsRow.holds Try.pinned (OpenSpec.ofChange reapKeepsWrong)

/- THE SECOND FORM. 'bulk': how many values and letters a reading holds, each counted each time it is reached (what is shared counts as often as it is met; a slice's spare places count too). A statement '..UptoSaid' is the law's where the arguments, and the package variables that the reading takes, are together of bulk at most 1048576: NARROWER than '..Said'. Prove '..Said' where nothing that the law and all that it calls make is longer than what came in: it says more and counts as full. Else prove '..UptoSaid'. A law counts once. -/
mutual
def uptoBulk {H : Type} : DataW H → Nat
  | .lit (.string bytes) => bytes.length + 1
  | .lit _ => 1
  | .nil => 1
  | .ptr d => uptoBulk d + 1
  | .slice elems spare => uptoBulkAll elems + uptoBulkAll spare + 1
  | .agg parts => uptoBulkAll parts + 1
  | .iface _ d => uptoBulk d + 1
  | .map entries => uptoBulkEntries entries + 1
  | .held _ => 1
def uptoBulkAll {H : Type} : List (DataW H) → Nat
  | [] => 0
  | d :: r => uptoBulk d + uptoBulkAll r
def uptoBulkEntries {H : Type} : List (Lit × DataW H) → Nat
  | [] => 0
  | x :: r => uptoBulkEntry x + uptoBulkEntries r
def uptoBulkEntry {H : Type} : Lit × DataW H → Nat
  | (.string bytes, d) => bytes.length + uptoBulk d + 1
  | (_, d) => uptoBulk d + 1
 end
def uptoSmall : (H : Type) → List (DataW H) → Bool := fun _ ds => decide (uptoBulkAll ds ≤ 1048576)
def OpenSpec.upto (s : _root_.Go.ChangeSpec) : _root_.Go.OpenSpec := { _root_.Go.OpenSpec.ofChange s with cond := some uptoSmall }

/-- 'blazonlaw17.PagesSaves', WHERE WHAT IT READS IS OF BULK AT MOST 1048576: true; the input reads as it did. -/
def pagesSavesUptoRow : OpenClaim := { program := "ytonlmjpenonabaa", sum := "d505ec98702e60a34ecde6d2e2458b361bb04df9d539eaa7a7c8c0583067db33", func := "blazon/blazonlaw17.PagesSaves", spec := "pagesSaves", unfollowed := true, recurses := true, plainKeys := false, apart := false, narrowed := true }
def PagesSavesUptoSaid : Prop := pagesSavesUptoRow.holds Try.pinned (OpenSpec.upto pagesSavesSpec)

/-- 'blazonlaw17.PagesLacks', WHERE WHAT IT READS IS OF BULK AT MOST 1048576: true; the input reads as it did. -/
def pagesLacksUptoRow : OpenClaim := { program := "ytonlmjpenonabaa", sum := "d505ec98702e60a34ecde6d2e2458b361bb04df9d539eaa7a7c8c0583067db33", func := "blazon/blazonlaw17.PagesLacks", spec := "pagesLacks", unfollowed := true, recurses := true, plainKeys := false, apart := false, narrowed := true }
def PagesLacksUptoSaid : Prop := pagesLacksUptoRow.holds Try.pinned (OpenSpec.upto pagesLacksSpec)

/-- 'blazonlaw17.PagesShared', WHERE WHAT IT READS IS OF BULK AT MOST 1048576: true; the input reads as it did. -/
def pagesSharedUptoRow : OpenClaim := { program := "ytonlmjpenonabaa", sum := "d505ec98702e60a34ecde6d2e2458b361bb04df9d539eaa7a7c8c0583067db33", func := "blazon/blazonlaw17.PagesShared", spec := "pagesShared", unfollowed := true, recurses := true, plainKeys := false, apart := false, narrowed := true }
def PagesSharedUptoSaid : Prop := pagesSharedUptoRow.holds Try.pinned (OpenSpec.upto pagesSharedSpec)

/-- 'blazonlaw17.PagesOne', WHERE WHAT IT READS IS OF BULK AT MOST 1048576: true; the input reads as it did. -/
def pagesOneUptoRow : OpenClaim := { program := "ytonlmjpenonabaa", sum := "d505ec98702e60a34ecde6d2e2458b361bb04df9d539eaa7a7c8c0583067db33", func := "blazon/blazonlaw17.PagesOne", spec := "pagesOne", unfollowed := true, recurses := true, plainKeys := false, apart := false, narrowed := true }
def PagesOneUptoSaid : Prop := pagesOneUptoRow.holds Try.pinned (OpenSpec.upto pagesOneSpec)

/-- 'blazonlaw17.PagesBack', WHERE WHAT IT READS IS OF BULK AT MOST 1048576: true; the input reads as it did. -/
def pagesBackUptoRow : OpenClaim := { program := "ytonlmjpenonabaa", sum := "d505ec98702e60a34ecde6d2e2458b361bb04df9d539eaa7a7c8c0583067db33", func := "blazon/blazonlaw17.PagesBack", spec := "pagesBack", unfollowed := true, recurses := true, plainKeys := false, apart := false, narrowed := true }
def PagesBackUptoSaid : Prop := pagesBackUptoRow.holds Try.pinned (OpenSpec.upto pagesBackSpec)

/-- 'blazonlaw18.ReapNeeds', WHERE WHAT IT READS IS OF BULK AT MOST 1048576: true; the input reads as it did. -/
def reapNeedsUptoRow : OpenClaim := { program := "ytonlmjpenonabaa", sum := "d505ec98702e60a34ecde6d2e2458b361bb04df9d539eaa7a7c8c0583067db33", func := "blazon/blazonlaw18.ReapNeeds", spec := "reapNeeds", inPlace := ["internal/bytealg.Compare"], unfollowed := true, recurses := true, plainKeys := false, apart := false, narrowed := true }
def ReapNeedsUptoSaid : Prop := reapNeedsUptoRow.holds Try.pinned (OpenSpec.upto reapNeedsSpec)

/-- 'blazonlaw18.ReapAgain', WHERE WHAT IT READS IS OF BULK AT MOST 1048576: true; the input reads as it did. -/
def reapAgainUptoRow : OpenClaim := { program := "ytonlmjpenonabaa", sum := "d505ec98702e60a34ecde6d2e2458b361bb04df9d539eaa7a7c8c0583067db33", func := "blazon/blazonlaw18.ReapAgain", spec := "reapAgain", inPlace := ["internal/bytealg.Compare"], unfollowed := true, recurses := true, plainKeys := false, apart := false, narrowed := true }
def ReapAgainUptoSaid : Prop := reapAgainUptoRow.holds Try.pinned (OpenSpec.upto reapAgainSpec)

/-- 'blazonlaw18.ReapBound', WHERE WHAT IT READS IS OF BULK AT MOST 1048576: true; the input reads as it did. -/
def reapBoundUptoRow : OpenClaim := { program := "ytonlmjpenonabaa", sum := "d505ec98702e60a34ecde6d2e2458b361bb04df9d539eaa7a7c8c0583067db33", func := "blazon/blazonlaw18.ReapBound", spec := "reapBound", inPlace := ["internal/bytealg.Compare"], unfollowed := true, recurses := true, plainKeys := false, apart := false, narrowed := true }
def ReapBoundUptoSaid : Prop := reapBoundUptoRow.holds Try.pinned (OpenSpec.upto reapBoundSpec)

/-- 'blazonlaw18.ReapKeeps', WHERE WHAT IT READS IS OF BULK AT MOST 1048576: true; the input reads as it did. -/
def reapKeepsUptoRow : OpenClaim := { program := "ytonlmjpenonabaa", sum := "d505ec98702e60a34ecde6d2e2458b361bb04df9d539eaa7a7c8c0583067db33", func := "blazon/blazonlaw18.ReapKeeps", spec := "reapKeeps", inPlace := ["internal/bytealg.Compare"], unfollowed := true, recurses := true, plainKeys := false, apart := false, narrowed := true }
def ReapKeepsUptoSaid : Prop := reapKeepsUptoRow.holds Try.pinned (OpenSpec.upto reapKeepsSpec)

end Rows
end Go.Proofs.Ytonlmjpenonabaa
