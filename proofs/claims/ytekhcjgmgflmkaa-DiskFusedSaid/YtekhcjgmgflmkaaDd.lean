/-
  The disk: how one comes to be.
-/
import Derived.Test.YtekhcjgmgflmkaaDc
namespace Go.Proofs.Ytekhcjgmgflmkaa
open Go Go.RowKit K DK

section
variable {m : Mem}

/-- A new disk, in new memory. -/
def NewDisk (w w' : World) (v : Value) (n : Nat) (d : DS) : Prop := ∃ b s wv, v = .pointer (some ⟨b, 0, none⟩) ∧ Tch w w' [] (diskO b s n wv d).foot ∧ (diskO b s n wv d).holds w'

theorem bs_zero (k : Nat) : List.replicate k (Value.int .u8 0) = bs (List.replicate k 0) := by simp [bs, u8]

theorem c_new {wI : World} (i : Int) (him : Im m wI) :
    Ret Try.prog 15 #[.int .i64 i] wI fun v w' =>
      if i < 1 ∨ i > 16384 then Tch wI w' [] [] ∧ v = .tuple #[.pointer none, .int .i64 2]
      else ∃ p, NewDisk wI w' p i.toNat (newD i.toNat) ∧ v = .tuple #[p, .int .i64 0] := by
  have st := St.start him
  refine ret_of Try.call15 Try.func15 rfl Try.ntmps15 Try.results15 rfl ?_
  refine wc_seq ?_
  refine wc_region ?_
  refine wl_val (v_assign' (by conv => (lhs; whnf))) rfl ?_
  refine wl_val (v_assign' (by conv => (lhs; whnf))) rfl ?_
  refine wl_nil ?_
  refine then_go ?_
  refine wc_seq ?_
  refine wc_seq ?_
  refine wc_region ?_
  refine wl_val (v_move' (by conv => (lhs; whnf))) rfl ?_
  refine wl_val (v_lss rfl rfl) rfl ?_
  refine wl_val (v_move' (by conv => (lhs; whnf))) rfl ?_
  by_cases hg2 : i < 1
  · rw [show decide (i < 1) = true from decide_eq_true hg2]
    refine wl_off rfl rfl rfl rfl ?_
    refine wl_off rfl rfl rfl rfl ?_
    refine wl_val (v_pick rfl) rfl ?_
    refine wl_nil ?_
    refine then_go ?_
    refine wc_true rfl ?_
    refine wc_seq ?_
    refine wc_region ?_
    refine wl_val (v_assign' (by conv => (lhs; whnf))) rfl ?_
    refine wl_val (v_assign' (by conv => (lhs; whnf))) rfl ?_
    refine wl_nil ?_
    refine then_go ?_
    refine wc_ret (then_ret ?_)
    refine ret2 (v := .pointer none) (v' := .int .i64 2) rfl rfl ?_
    rw [if_pos (.inl hg2)]
    exact ⟨st.touch, rfl⟩
  · rw [show decide (i < 1) = false from decide_eq_false hg2]
    refine wl_on rfl rfl ?_
    refine wl_val (v_move' (by conv => (lhs; whnf))) rfl ?_
    refine wl_on rfl rfl ?_
    refine wl_val (v_gtr rfl rfl) rfl ?_
    refine wl_val (v_pick rfl) rfl ?_
    refine wl_nil ?_
    refine then_go ?_
    refine wc_if rfl (fun h9 => ?_) (fun h9 => ?_)
    · refine wc_seq ?_
      refine wc_region ?_
      refine wl_val (v_assign' (by conv => (lhs; whnf))) rfl ?_
      refine wl_val (v_assign' (by conv => (lhs; whnf))) rfl ?_
      refine wl_nil ?_
      refine then_go ?_
      refine wc_ret (then_ret ?_)
      refine ret2 (v := .pointer none) (v' := .int .i64 2) rfl rfl ?_
      rw [if_pos (.inr h9)]
      exact ⟨st.touch, rfl⟩
    · refine wc_skip ?_
      refine then_go ?_
      refine wc_seq ?_
      obtain ⟨n, rfl⟩ : ∃ n : Nat, i = n := ⟨i.toNat, by omega⟩
      refine wc_region ?_
      refine wl_val (v_move' (by conv => (lhs; whnf))) rfl ?_
      refine wl_make (l := n) (c := n) Try.underlying59 TF.t64 TF.z64 rfl rfl rfl rfl (by omega) (by omega) (by omega) (by omega) st rfl ?_
      intro s w st
      have e : madeCells (Value.agg (Array.replicate 64 (Value.int .u8 0))).cells (n * 64) = (bs (List.replicate (64 * n) 0)).toArray := by
        rw [show (Value.agg (Array.replicate 64 (Value.int .u8 0))).cells = Array.replicate (63 + 1) (Value.int .u8 0) from rfl, madeCells_rep, bs_zero, Nat.mul_comm]
      rw [e] at st
      refine wl_val (v_build (c' := #[.slice (some ⟨s, 0, none⟩) n n, .slice none 0 0, .int .i64 (-1), .bool false]) [(0, .slice (some ⟨s, 0, none⟩) n n), (2, .int .i64 (-1))] TF.z62 TF.p62 rfl (fill_one [] [.slice none 0 0] [.slice none 0 0, .int .i64 0, .bool false] rfl rfl rfl (fill_one [.slice (some ⟨s, 0, none⟩) n n, .slice none 0 0] [.int .i64 0] [.bool false] rfl rfl rfl rfl))) rfl ?_
      refine wl_box (v := .agg #[.slice (some ⟨s, 0, none⟩) n n, .slice none 0 0, .int .i64 (-1), .bool false]) rfl st rfl ?_
      intro b w st
      have st := st.new (E := rowE (.slice none 0 0) 66 65 0 []) ⟨rfl, rfl, rfl, Nat.le_refl _, fun _ _ _ => rfl, by simp [rowE, Value.ownBlock]⟩ ⟨by simp, .inl ⟨rfl, rfl⟩⟩
      have st := st.perm (l := diskL b s n (.slice none 0 0) (newD n)) ((List.Perm.swap _ _ _).trans (List.Perm.cons _ (List.Perm.swap _ _ _)))
      refine wl_val (v_assign' (by conv => (lhs; whnf))) rfl ?_
      refine wl_val (v_assign' (by conv => (lhs; whnf))) rfl ?_
      refine wl_nil ?_
      refine then_go ?_
      refine wc_ret ?_
      refine ret2 (v := .pointer (some ⟨b, 0, none⟩)) (v' := .int .i64 0) rfl rfl ?_
      rw [if_neg (by omega)]
      exact ⟨_, ⟨b, s, _, rfl, (St.finish (Es := []) st).1, (St.finish (Es := []) st).2⟩, rfl⟩

/-- Load: the disk, or the error. -/
def loadE (l : By) : Int := if l.length % 64 ≠ 0 then 1 else if l.length / 64 < 1 ∨ l.length / 64 > 16384 then 2 else 0

theorem c_load {wI : World} {v : Value} {l : By} (him : Im m wI) (hv : SlM m v 1 l.length (bs l)) (hl : l.length ≤ 140737488351232) :
    Ret Try.prog 9 #[v] wI fun v w' =>
      if loadE l ≠ 0 then Tch wI w' [] [] ∧ v = .tuple #[.pointer none, .int .i64 (loadE l)]
      else ∃ p, NewDisk wI w' p (l.length / 64) ⟨l, [], -1, false⟩ ∧ v = .tuple #[p, .int .i64 0] := by
  have st := St.start him
  have hv0 := hv
  obtain ⟨hvl, va, vc, rfl, hvk, hv1⟩ := hv
  refine ret_of Try.call9 Try.func9 rfl Try.ntmps9 Try.results9 rfl ?_
  refine wc_seq ?_
  refine wc_region ?_
  refine wl_val (v_assign' (by conv => (lhs; whnf))) rfl ?_
  refine wl_val (v_assign' (by conv => (lhs; whnf))) rfl ?_
  refine wl_nil ?_
  refine then_go ?_
  refine wc_seq ?_
  refine wc_seq ?_
  refine wc_region ?_
  refine wl_val (v_move' (by conv => (lhs; whnf))) rfl ?_
  refine wl_val (v_len_s Try.underlying22 rfl) rfl ?_
  refine wl_val (v_rem' rfl rfl (by omega) (by omega) rfl) rfl ?_
  refine wl_val (v_neq rfl rfl) rfl ?_
  refine wl_nil ?_
  refine then_go ?_
  refine wc_if rfl (fun h10 => ?_) (fun h10 => ?_)
  · refine wc_seq ?_
    refine wc_region ?_
    refine wl_val (v_assign' (by conv => (lhs; whnf))) rfl ?_
    refine wl_val (v_assign' (by conv => (lhs; whnf))) rfl ?_
    refine wl_nil ?_
    refine then_go ?_
    refine wc_ret (then_ret ?_)
    refine ret2 (v := .pointer none) (v' := .int .i64 1) rfl rfl ?_
    have : loadE l = 1 := by unfold loadE; rw [if_pos (by omega)]
    rw [this]
    exact ⟨st.touch, rfl⟩
  · refine wc_skip ?_
    refine then_go ?_
    refine wc_seq ?_
    obtain ⟨n, hn⟩ : ∃ n, l.length = 64 * n := ⟨l.length / 64, by omega⟩
    have hq : (l.length : Int) / 64 = (n : Int) := by omega
    have hle : loadE l = if n < 1 ∨ n > 16384 then 2 else 0 := by
      unfold loadE
      rw [if_neg (by omega), show l.length / 64 = n by omega]
    refine wc_region ?_
    refine wl_val (v_move' (by conv => (lhs; whnf))) rfl ?_
    refine wl_val (v_len_s Try.underlying22 rfl) rfl ?_
    refine wl_val (v_quo' rfl rfl (by omega) (by omega) hq (by omega)) rfl ?_
    refine wl_call rfl (c_new n st.im) rfl ?_
    intro v15 w hR
    obtain ⟨p15, e15, rfl, hR2⟩ : ∃ p e, v15 = .tuple #[p, .int .i64 e] ∧ ((e = 2 ∧ (n < 1 ∨ n > 16384) ∧ Tch _ w [] []) ∨ (e = 0 ∧ ¬ (n < 1 ∨ n > 16384) ∧ NewDisk _ w p n (newD n))) := by
      split at hR
      · exact ⟨_, _, hR.2, .inl ⟨rfl, by omega, hR.1⟩⟩
      · obtain ⟨p, h1, h2⟩ := hR
        exact ⟨p, 0, h2, .inr ⟨rfl, by omega, h1⟩⟩
    refine wl_val (v_move' (by conv => (lhs; whnf))) rfl ?_
    refine wl_val (v_extract rfl rfl) rfl ?_
    refine wl_val (v_extract rfl rfl) rfl ?_
    refine wl_val (v_assign' (by conv => (lhs; whnf))) rfl ?_
    refine wl_val (v_assign' (by conv => (lhs; whnf))) rfl ?_
    refine wl_nil ?_
    refine then_go ?_
    refine wc_seq ?_
    refine wc_seq ?_
    refine wc_region ?_
    refine wl_val (v_move' (by conv => (lhs; whnf))) rfl ?_
    refine wl_val (v_neq rfl rfl) rfl ?_
    refine wl_nil ?_
    refine then_go ?_
    refine wc_if rfl (fun h19 => ?_) (fun h19 => ?_)
    · refine wc_seq ?_
      refine wc_region ?_
      refine wl_val (v_move' (by conv => (lhs; whnf))) rfl ?_
      refine wl_val (v_assign' (by conv => (lhs; whnf))) rfl ?_
      refine wl_val (v_assign' (by conv => (lhs; whnf))) rfl ?_
      refine wl_nil ?_
      refine then_go ?_
      refine wc_ret (then_ret ?_)
      rcases hR2 with ⟨rfl, hr, t⟩ | ⟨rfl, _⟩
      · refine ret2 (v := .pointer none) (v' := .int .i64 2) rfl rfl ?_
        have : loadE l = 2 := by rw [hle, if_pos hr]
        rw [this]
        exact ⟨(st.pure t).touch, rfl⟩
      · exact absurd rfl h19
    · refine wc_skip ?_
      refine then_go ?_
      refine wc_seq ?_
      refine wc_seq ?_
      rcases hR2 with ⟨rfl, _⟩ | ⟨rfl, hr, b, s, wv, rfl, t, hE⟩
      · exact absurd (by decide) h19
      have hl0 : loadE l = 0 := by rw [hle, if_neg hr]
      have st := (st.new t hE).split
      rw [List.append_nil] at st
      refine wc_region ?_
      refine wl_val (v_move' (by conv => (lhs; whnf))) rfl ?_
      refine wl_val (v_nil rfl) rfl ?_
      refine wl_val (v_fa TF.f62_0 rfl) rfl ?_
      refine wl_val (v_load rfl (st.reads 0 rfl TF.t59 rfl)) rfl ?_
      refine wl_val (v_len_s Try.underlying59 rfl) rfl ?_
      refine wl_val (v_move' (by conv => (lhs; whnf))) rfl ?_
      refine wl_nil ?_
      refine then_go ?_
      refine wc_block ?_
      refine wc_loop (S := Nat) (fun k r w' => ∃ j S, k + j = n ∧ r 0 = .slice va l.length vc ∧ r 4 = .pointer (some ⟨b, 0, none⟩) ∧ r 25 = .int .i64 n ∧ r 26 = .int .i64 j ∧ S.length = 64 * n ∧ S.take (64 * j) = l.take (64 * j) ∧
        St m m [] wI w' (diskL b s n wv { newD n with S := S })) id n ⟨0, _, rfl, rfl, rfl, rfl, rfl, by simp [newD], by simp, st⟩ ?_
      rintro k r w2 ⟨j, S, hkj, h0, h4, h25, h26, hS, hSt, st⟩
      refine wc_o 0 h0 (wc_o 4 h4 (wc_o 25 h25 (wc_o 26 h26 ?_)))
      refine wc_seq ?_
      refine wc_region ?_
      refine wl_val (v_lss rfl rfl) rfl ?_
      refine wl_nil ?_
      refine then_go ?_
      refine wc_seq ?_
      refine wc_if rfl (fun h27 => ?_) (fun h27 => ?_)
      · refine wc_skip ?_
        refine then_go ?_
        refine wc_seq ?_
        refine wc_block ?_
        refine wc_seq ?_
        refine wc_region ?_
        refine wl_val (v_move' (by conv => (lhs; whnf))) rfl ?_
        refine wl_val (v_assign' (by conv => (lhs; whnf))) rfl ?_
        refine wl_nil ?_
        refine then_go ?_
        have hj : j < n := by omega
        refine wc_draw TF.mixed ?_
        have st := st.pure (touch_drew _)
        refine fl_val 0 rfl (fun _ => (v_move' (by conv => (lhs; whnf)))) rfl (by kernel_rfl) ?_
        refine fl_val 1 rfl (fun _ => (v_nil rfl)) rfl (by kernel_rfl) ?_
        refine fl_val 2 rfl (fun _ => (v_fa TF.f62_0 rfl)) rfl (by kernel_rfl) ?_
        refine fl_ld 3 rfl (v_load rfl (st.reads 0 rfl TF.t59 rfl)) (by kernel_rfl) ?_
        refine fl_val 4 rfl (fun _ => (v_move' (by conv => (lhs; whnf)))) rfl (by kernel_rfl) ?_
        refine fl_val 5 rfl (fun _ => (v_ias j Try.underlying59 TF.t64 rfl rfl (by first | rfl | omega) (by first | omega | (dsimp only at *; omega)))) rfl (by kernel_rfl) ?_
        refine fl_val 6 rfl (fun _ => (v_slice_a (l := 0) (h := 64) Try.underlying64 TF.t5 rfl rfl rfl (by omega) (by omega))) rfl (by kernel_rfl) ?_
        refine fl_val 7 rfl (fun _ => (v_move' (by conv => (lhs; whnf)))) rfl (by kernel_rfl) ?_
        refine fl_val 8 rfl (fun _ => (v_move' (by conv => (lhs; whnf)))) rfl (by kernel_rfl) ?_
        refine fl_val 9 rfl (fun _ => (v_mul' (c := ((j * 64 : Nat) : Int)) rfl rfl (by omega) (by omega) (by omega))) rfl (by kernel_rfl) ?_
        refine fl_val 10 rfl (fun _ => (v_slice_s (l := j * 64) (h := l.length) Try.underlying22 TF.t5 rfl ⟨_, _, rfl, rfl⟩ rfl (by omega) hvk)) rfl (by kernel_rfl) ?_
        refine fl_eff1 11 [9, 8, 7, 5, 4, 2, 1, 0] [3] (by kernel_rfl) ⟨obl_ld rfl rfl rfl (v_load rfl (st.reads 0 rfl TF.t59 rfl)), trivial⟩ rfl ?_
        have hsub := hv0.sub rfl (l := j * 64) (h := l.length) (by omega) (Nat.le_refl _) (by omega)
        have hone : ∀ u ∈ (((bs l).drop (j * 64 * 1)).take ((l.length - j * 64) * 1)), u.oneCell' = true := fun u hu => one_bs l u (List.mem_of_mem_drop (List.mem_of_mem_take hu))
        refine wl_copy (size := 1) (b := s) (off := 0 + j * 64) (len := 64) (cap := 64) 1 st rfl Try.underlying22 TF.t5 rfl rfl (hsub.src st.im hone) (by simp [bs, hS]; omega) rfl ?_
        intro w st
        refine wl_nil ⟨rfl, ?_⟩
        refine fl_nil (by kernel_rfl) ⟨obl_ld rfl rfl rfl (v_load rfl (st.reads 0 rfl TF.t59 rfl)), trivial⟩ ?_
        have hmin : min (l.length - j * 64) 64 = 64 := by omega
        have e1 : ((((bs l).drop (j * 64 * 1)).take ((l.length - j * 64) * 1)).take (min (l.length - j * 64) 64 * 1)) = bs ((l.drop (64 * j)).take 64) := by
          rw [hmin, List.take_take]
          simp only [bs, List.map_take, List.map_drop, Nat.mul_one]
          rw [Nat.min_eq_left (by omega), Nat.mul_comm]
        rw [e1] at st
        have e : setSeg (bs S).toArray (0 + j * 64) (bs ((l.drop (64 * j)).take 64)) = (bs (splice S (64 * j) ((l.drop (64 * j)).take 64))).toArray := by
          rw [show 0 + j * 64 = 64 * j by omega]
          exact setSeg_bs
        change St _ _ _ _ _ [_, blk s (setSeg (bs S).toArray (0 + j * 64) (bs ((l.drop (64 * j)).take 64))) _, _] at st
        rw [e] at st
        refine block_go (then_go ?_)
        refine wc_region ?_
        refine wl_val (v_add' rfl rfl rfl (by first | omega | (dsimp only at *; omega)) (by first | omega | (dsimp only at *; omega))) rfl ?_
        refine wl_val (v_move' (by conv => (lhs; whnf))) rfl ?_
        refine wl_nil ?_
        refine then_go ?_
        have hlen : ((l.drop (64 * j)).take 64).length = 64 := by simp; omega
        refine ⟨k - 1, by simp; omega, j + 1, splice S (64 * j) ((l.drop (64 * j)).take 64), by omega, rfl, rfl, rfl, rfl, ?_, ?_, st⟩
        · rw [length_splice (by omega), hS]
        · unfold splice
          rw [hSt, show 64 * (j + 1) = 64 * j + 64 by omega, List.take_append_of_le_length (by simp; omega), List.take_of_length_le (by simp; omega), ← List.take_add]
      · refine wc_exit (then_exit (then_exit (block_hit ?_)))
        refine then_go ?_
        refine wc_seq ?_
        refine wc_region ?_
        refine wl_val (v_move' (by conv => (lhs; whnf))) rfl ?_
        refine wl_val (v_assign' (by conv => (lhs; whnf))) rfl ?_
        refine wl_val (v_assign' (by conv => (lhs; whnf))) rfl ?_
        refine wl_nil ?_
        refine then_go ?_
        refine wc_ret ?_
        have hjn : j = n := by omega
        rw [hjn] at hSt
        have hSl : S = l := by
          rw [List.take_of_length_le (by omega), List.take_of_length_le (by omega)] at hSt
          exact hSt
        refine ret2 (v := .pointer (some ⟨b, 0, none⟩)) (v' := .int .i64 0) rfl rfl ?_
        rw [hl0]
        rw [hSl] at st
        have e64 : l.length / 64 = n := by omega
        rw [if_neg (by simp), e64]
        exact ⟨_, ⟨b, s, wv, rfl, (St.finish (Es := []) st).1, (St.finish (Es := []) st).2⟩, rfl⟩

end
end Go.Proofs.Ytekhcjgmgflmkaa
