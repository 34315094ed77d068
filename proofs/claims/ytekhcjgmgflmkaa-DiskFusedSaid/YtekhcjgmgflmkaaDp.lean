/-
  The disk as numbers and bytes alone: no Go and no memory here.
-/
import Derived.Test.YtekhcjgmgflmkaaG
namespace Go.Proofs.Ytekhcjgmgflmkaa
namespace DK

abbrev By := List UInt8

/-- Bytes laid over bytes. -/
def splice (S : By) (o : Nat) (l : By) : By := S.take o ++ l ++ S.drop (o + l.length)

theorem length_splice {S l : By} {o : Nat} (h : o + l.length ≤ S.length) : (splice S o l).length = S.length := by
  simp [splice]; omega

def sec (S : By) (i : Nat) : By := (S.drop (64 * i)).take 64

/-- A disk: what is safe, what waits, the fuse, whether the power has gone. -/
structure DS where
  S : By
  wt : List (Nat × By)
  fuse : Int
  down : Bool

def nsec (d : DS) : Nat := d.S.length / 64

structure DS.ok (d : DS) (n : Nat) : Prop where
  pos : 1 ≤ n
  len : d.S.length = 64 * n
  le : n ≤ 16384
  wt : ∀ x ∈ d.wt, x.1 < n ∧ x.2.length = 64

def dump (d : DS) : By := d.wt.foldl (fun S x => splice S (64 * x.1) x.2) d.S

/-- The last write to a sector. -/
def lastW (i : Nat) : List (Nat × By) → Option By
  | [] => none
  | x :: l => match lastW i l with
    | some b => some b
    | none => if x.1 = i then some x.2 else none

theorem lastW_append (i : Nat) (l : List (Nat × By)) (x : Nat × By) : lastW i (l ++ [x]) = if x.1 = i then some x.2 else lastW i l := by
  induction l with
  | nil => simp [lastW]
  | cons y l ih =>
    simp only [List.cons_append, lastW, ih]
    by_cases h : x.1 = i
    · simp [h]
    · simp [h]

def nowOf (d : DS) (i : Nat) : By := (lastW i d.wt).getD (sec d.S i)

/-- What is left of a loop that asks from the last one on: the first k of them are still to be asked. -/
theorem lastW_take_succ (i : Nat) (l : List (Nat × By)) (k : Nat) (h : k < l.length) : lastW i (l.take (k + 1)) = if l[k].1 = i then some l[k].2 else lastW i (l.take k) := by
  rw [List.take_succ_eq_append_getElem h, lastW_append]

theorem lastW_drop {i : Nat} {x : By} : ∀ {j : Nat} {l : List (Nat × By)}, lastW i (l.drop j) = some x → lastW i l = some x
  | 0, l, h => by simpa using h
  | j + 1, [], h => by simpa using h
  | j + 1, y :: l, h => by
    simp only [List.drop_succ_cons] at h
    simp only [lastW, lastW_drop h]

def burn (d : DS) : DS := { d with down := decide (d.fuse = 0), fuse := if 0 < d.fuse then d.fuse - 1 else d.fuse }

/-- Write: the disk behind it, and the error. -/
def writeD (d : DS) (n : Nat) (i : Int) (l : By) : DS × Int :=
  if d.down then (d, 14) else if i < 0 ∨ i ≥ n then (d, 2) else if l.length ≠ 64 then (d, 1) else
    let d' := burn { d with wt := d.wt ++ [(i.toNat, l)] }
    (d', if d'.down then 14 else 0)

def syncD (d : DS) : DS × Int :=
  if d.down then (d, 14) else if d.fuse = 0 then (burn d, 14) else ({ burn d with S := dump d, wt := [] }, 0)

def readD (d : DS) (n : Nat) (i : Int) : By × Int :=
  if d.down then ([], 14) else if i < 0 ∨ i ≥ n then ([], 2) else (nowOf d i.toNat, 0)

def newD (n : Nat) : DS := ⟨List.replicate (64 * n) 0, [], -1, false⟩

def keepN (keep : List Int) (i : Nat) : Nat := (min (max (keep[i]?.getD 0) 0) 64).toNat

def crashS (keep : List Int) : Nat → By → List (Nat × By) → By
  | _, S, [] => S
  | i, S, x :: l => crashS keep (i + 1) (splice S (64 * x.1) (x.2.take (keepN keep i))) l

def crashD (d : DS) (keep : List Int) : DS := ⟨crashS keep 0 d.S d.wt, [], -1, false⟩

theorem splice_nil (S : By) (o : Nat) : splice S o [] = S := by simp [splice]

theorem keepN_none {keep : List Int} {i : Nat} (h : keep.length ≤ i) : keepN keep i = 0 := by
  simp only [keepN, List.getElem?_eq_none h, Option.getD_none]
  decide

theorem keepN_le (keep : List Int) (i : Nat) : keepN keep i ≤ 64 := by unfold keepN; omega

theorem crash_step {keep : List Int} {j : Nat} {S : By} {l : List (Nat × By)} (h : j < l.length) :
    crashS keep j S (l.drop j) = crashS keep (j + 1) (splice S (64 * l[j].1) (l[j].2.take (keepN keep j))) (l.drop (j + 1)) := by
  rw [List.drop_eq_getElem_cons h]
  rfl

theorem splice_succ {S l : By} {o j : Nat} (ho : o + j < S.length) (hj : j < l.length) : splice (splice S o (l.take j)) (o + j) [l[j]] = splice S o (l.take (j + 1)) := by
  have h1 : (S.take o ++ l.take j).length = o + j := by simp; omega
  unfold splice
  have e1 : (l.take j).length = j := by simp; omega
  have e2 : (l.take (j + 1)).length = j + 1 := by simp; omega
  rw [e1, e2, List.take_append_of_le_length (by omega), List.take_of_length_le (by omega), List.drop_append, List.take_succ_eq_append_getElem hj]
  have e3 : (S.take o ++ l.take j).drop (o + j + [l[j]].length) = [] := List.drop_eq_nil_of_le (by simp; omega)
  rw [e3, h1, List.drop_drop]
  simp only [List.nil_append, List.append_assoc, List.length_singleton]
  rw [show o + j + (o + j + 1 - (o + j)) = o + (j + 1) by omega]

theorem splice_zero (S l : By) (o : Nat) : splice S o (l.take 0) = S := by simp [splice]

end DK
end Go.Proofs.Ytekhcjgmgflmkaa
