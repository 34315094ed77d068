/-
  The disk: what the sectors are, and what a crash leaves. Bytes alone.
-/
import Derived.Test.YtekhcjgmgflmkaaDj
namespace Go.Proofs.Ytekhcjgmgflmkaa
open K DK

theorem splice_at {S l : By} {o : Nat} (h : o + l.length ≤ S.length) (p : Nat) : (splice S o l)[p]? = if p < o then S[p]? else if p < o + l.length then l[p - o]? else S[p]? := by
  have h1 : (S.take o).length = o := by simp; omega
  unfold splice
  rw [List.append_assoc]
  by_cases hp : p < o
  · rw [if_pos hp, List.getElem?_append_left (by omega), List.getElem?_take_of_lt hp]
  · rw [if_neg hp, List.getElem?_append_right (by omega), h1]
    by_cases hq : p < o + l.length
    · rw [if_pos hq, List.getElem?_append_left (by omega)]
    · rw [if_neg hq, List.getElem?_append_right (by omega), List.getElem?_drop]
      congr 1
      omega

theorem sec_at (S : By) (i p : Nat) : (sec S i)[p]? = if p < 64 then S[64 * i + p]? else none := by
  unfold sec
  rw [List.getElem?_take]
  split
  · rw [List.getElem?_drop]
  · rfl

theorem sec_splice {S l : By} {n a i k : Nat} (hS : S.length = 64 * n) (ha : a < n) (hl : l.length = k) (hk : k ≤ 64) : sec (splice S (64 * a) l) i = if a = i then l ++ (sec S i).drop k else sec S i := by
  apply List.ext_getElem?
  intro p
  by_cases h : a = i
  · subst h
    rw [if_pos rfl, sec_at, splice_at (by omega), if_neg (show ¬ 64 * a + p < 64 * a by omega)]
    by_cases hp : p < k
    · rw [if_pos (show p < 64 by omega), if_pos (show 64 * a + p < 64 * a + l.length by omega), List.getElem?_append_left (by omega)]
      congr 1
      omega
    · rw [List.getElem?_append_right (by omega), List.getElem?_drop, sec_at, if_neg (show ¬ 64 * a + p < 64 * a + l.length by omega)]
      rw [show k + (p - l.length) = p by omega]
  · rw [if_neg h, sec_at, sec_at, splice_at (by omega)]
    split
    · rcases Nat.lt_or_gt_of_ne h with h' | h'
      · rw [if_neg (by omega), if_neg (by omega)]
      · rw [if_pos (by omega)]
    · rfl

theorem length_sec {S : By} {n i : Nat} (hS : S.length = 64 * n) (hi : i < n) : (sec S i).length = 64 := by unfold sec; simp; omega

theorem now_dumpK {d : DS} {n i : Nat} (ok : d.ok n) (hi : i < n) : ∀ k, k ≤ d.wt.length → sec (dumpK d k) i = (lastW i (d.wt.take k)).getD (sec d.S i)
  | 0, _ => by simp [dumpK, lastW]
  | k + 1, h => by
    have hx := ok.wt d.wt[k] (List.getElem_mem _)
    rw [dumpK_succ d k (by omega), lastW_take_succ _ _ _ (by omega), sec_splice (length_dumpK ok k (by omega)) hx.1 hx.2 (Nat.le_refl _)]
    split
    · rw [List.drop_eq_nil_of_le (by rw [length_sec (length_dumpK ok k (by omega)) hi]; omega)]
      simp
    · exact now_dumpK ok hi k (by omega)

theorem now_dump {d : DS} {n i : Nat} (ok : d.ok n) (hi : i < n) : sec (dump d) i = nowOf d i := by
  have h := now_dumpK ok hi d.wt.length (Nat.le_refl _)
  rw [dumpK_all, List.take_length] at h
  exact h

theorem readD_eq {d : DS} {n : Nat} (ok : d.ok n) (i : Int) : (if (readD d n i).2 = 0 then sec (dump d) i.toNat else []) = (readD d n i).1 := by
  unfold readD
  split
  · rfl
  split
  · rfl
  · rw [if_pos rfl, now_dump ok (by omega)]

theorem readD_len {d : DS} {n : Nat} (ok : d.ok n) (i : Int) : (if (readD d n i).2 = 0 then 64 else 0) = (readD d n i).1.length := by
  rw [← readD_eq ok]
  unfold readD
  split
  · rfl
  split
  · rfl
  · rw [if_pos rfl, if_pos rfl, length_sec (n := n) (by rw [← dumpK_all]; exact length_dumpK ok _ (Nat.le_refl _)) (by omega)]

/-- A sector that was not written since is what it was. -/
theorem crash_sec {keep : List Int} {n i : Nat} : ∀ (l : List (Nat × By)) (j : Nat) (S : By), S.length = 64 * n → (∀ x ∈ l, x.1 < n ∧ x.2.length = 64) → (∀ x ∈ l, x.1 ≠ i) → sec (crashS keep j S l) i = sec S i
  | [], _, _, _, _, _ => rfl
  | x :: l, j, S, hS, hx, hi => by
    have h1 := hx x List.mem_cons_self
    have hk := keepN_le keep j
    have hl : (x.2.take (keepN keep j)).length = keepN keep j := by simp; omega
    show sec (crashS keep (j + 1) _ l) i = _
    rw [crash_sec l (j + 1) _ (by rw [length_splice (by omega), hS]) (fun y hy => hx y (List.mem_cons_of_mem _ hy)) (fun y hy => hi y (List.mem_cons_of_mem _ hy)), sec_splice hS h1.1 hl hk, if_neg (hi x List.mem_cons_self)]

/-- A byte is what it was, or was written there since. -/
theorem crash_byte {keep : List Int} {n p : Nat} : ∀ (l : List (Nat × By)) (j : Nat) (S : By), S.length = 64 * n → (∀ x ∈ l, x.1 < n ∧ x.2.length = 64) → p < 64 * n →
    (crashS keep j S l)[p]? = S[p]? ∨ ∃ x ∈ l, x.1 = p / 64 ∧ (crashS keep j S l)[p]? = x.2[p % 64]?
  | [], _, _, _, _, _ => .inl rfl
  | x :: l, j, S, hS, hx, hp => by
    have h1 := hx x List.mem_cons_self
    have hk := keepN_le keep j
    have hl : (x.2.take (keepN keep j)).length = keepN keep j := by simp; omega
    show (crashS keep (j + 1) _ l)[p]? = _ ∨ ∃ y ∈ _, _ ∧ (crashS keep (j + 1) _ l)[p]? = _
    rcases crash_byte l (j + 1) (splice S (64 * x.1) (x.2.take (keepN keep j))) (by rw [length_splice (by omega), hS]) (fun y hy => hx y (List.mem_cons_of_mem _ hy)) hp with h | ⟨y, hy, h2, h3⟩
    · rw [h, splice_at (by omega)]
      split
      · exact .inl rfl
      split
      · rename_i h4 h5
        refine .inr ⟨x, List.mem_cons_self, by omega, ?_⟩
        rw [List.getElem?_take_of_lt (by omega)]
        congr 1
        omega
      · exact .inl rfl
    · exact .inr ⟨y, List.mem_cons_of_mem _ hy, h2, h3⟩

end Go.Proofs.Ytekhcjgmgflmkaa
