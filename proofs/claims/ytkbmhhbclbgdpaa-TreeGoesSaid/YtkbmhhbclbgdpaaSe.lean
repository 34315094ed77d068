/-
  SHA-256: the reference's Pad, turn and words.
-/
import Derived.Test.YtkbmhhbclbgdpaaSd
namespace Go.Proofs.Ytkbmhhbclbgdpaa
open Go Go.RowKit K SH

section
variable {m : Mem} {wI : World}

theorem c_rpad {p : UInt64} (him : Im m wI) : Ret Try.prog 57 #[u64 p] wI fun v w' => Out m wI w' fun m' => SlM m' v 1 (pad p).length (bs (pad p)) := by
  have st := St.start him
  have hz := zs_lt p.toNat
  refine ret_of Try.call57 Try.func57 rfl Try.ntmps57 Try.results57 rfl ?_
  refine wc_seq ?_
  refine wc_region ?_
  refine wl_val (v_assign' (by conv => (lhs; whnf))) rfl ?_
  refine wl_nil ?_
  refine then_go ?_
  refine wc_seq ?_
  refine wc_region ?_
  refine wl_val (v_assign' (by conv => (lhs; whnf))) rfl ?_
  refine wl_nil ?_
  refine then_go ?_
  refine wc_seq ?_
  have st := nilRow st 5 1
  change St _ _ _ _ _ [rowE _ _ 1 ([] : List UInt8).length (bs [])] at st
  refine wc_region ?_
  refine wl_val (v_move' (by conv => (lhs; whnf))) rfl ?_
  refine wl_byte1 128 Try.underlying66 TF.t5 TF.z5 rfl st rfl ?_
  intro b7 w st
  refine wl_app1 st Try.underlying66 TF.t5 TF.z5 rfl rfl (by simp) (by simp) rfl ?_
  intro v8 w st hv8
  refine wl_val (v_assign' (by conv => (lhs; whnf))) rfl ?_
  refine wl_nil ?_
  change St _ _ _ _ _ [rowE _ _ 1 (128 :: List.replicate 0 (0 : UInt8)).length (bs (128 :: List.replicate 0 0))] at st
  refine then_go ?_
  refine wc_seq ?_
  refine wc_block ?_
  refine wc_loop (S := Nat) (fun q r w' => ∃ j v, q + j = zs p.toNat ∧ r 0 = u64 p ∧ r 3 = v ∧ St m m [] wI w' [rowE v 5 1 (128 :: List.replicate j (0 : UInt8)).length (bs (128 :: List.replicate j 0))]) id (zs p.toNat) ⟨0, _, rfl, rfl, rfl, st⟩ ?_
  rintro q r w2 ⟨j, v, hqj, h0, h3, st⟩
  obtain ⟨g, cap, rfl⟩ := row_len (st.at (i := 0) rfl) (by simp)
  refine wc_o 0 h0 (wc_o 3 h3 ?_)
  refine wc_seq ?_
  refine wc_seq ?_
  have hlen : (128 :: List.replicate j (0 : UInt8)).length = j + 1 := by simp
  have hrem := rem64 p (128 :: List.replicate j (0 : UInt8)).length
  have hzs : zs p.toNat = (119 - p.toNat % 64) % 64 := rfl
  refine wc_region ?_
  refine wl_val (v_move' (by conv => (lhs; whnf))) rfl ?_
  refine wl_val (v_move' (by conv => (lhs; whnf))) rfl ?_
  refine wl_val (v_len_s Try.underlying66 rfl) rfl ?_
  refine wl_val (v_convi_64 (n := (128 :: List.replicate j (0 : UInt8)).length) Try.underlying3 Try.underlying46 rfl) rfl ?_
  refine wl_val (v_add64 rfl rfl) rfl ?_
  refine wl_val (v_rem64 (q := 64) rfl rfl (by decide)) rfl ?_
  refine wl_val (v_neq rfl rfl) rfl ?_
  refine wl_nil ?_
  refine then_go ?_
  refine wc_if rfl (fun h15 => ?_) (fun h15 => ?_)
  · refine wc_skip ?_
    refine then_go ?_
    refine wc_block ?_
    refine wc_region ?_
    refine wl_val (v_move' (by conv => (lhs; whnf))) rfl ?_
    have hj : j < zs p.toNat := by omega
    refine wl_byte1 0 Try.underlying66 TF.t5 TF.z5 rfl st rfl ?_
    intro b14 w st
    refine wl_app1 st Try.underlying66 TF.t5 TF.z5 rfl rfl (by simp; omega) (by simp; omega) rfl ?_
    intro v15 w st hv15
    refine wl_val (v_assign' (by conv => (lhs; whnf))) rfl ?_
    refine wl_nil ?_
    refine block_go (then_go ?_)
    refine ⟨q - 1, by simp; omega, j + 1, _, by omega, rfl, rfl, ?_⟩
    have e : (128 :: List.replicate (j + 1) 0 : List UInt8) = 128 :: List.replicate j 0 ++ [0] := by rw [List.replicate_succ']; rfl
    rw [e]
    exact st
  · refine wc_exit (then_exit (then_exit (block_hit ?_)))
    refine then_go ?_
    refine wc_seq ?_
    refine wc_region ?_
    refine wl_val (v_move' (by conv => (lhs; whnf))) rfl ?_
    refine wl_val (v_mul64 (q := 8) rfl rfl) rfl ?_
    rw [mul8]
    refine wl_val (v_assign' (by conv => (lhs; whnf))) rfl ?_
    refine wl_nil ?_
    refine then_go ?_
    refine wc_seq ?_
    refine wc_seq ?_
    refine wc_region ?_
    refine wl_val (v_assign' (by conv => (lhs; whnf))) rfl ?_
    refine wl_nil ?_
    refine then_go ?_
    refine wc_block ?_
    have hje : j = zs p.toNat := by omega
    subst hje
    refine wc_loop (S := Nat) (fun q r w' => ∃ j v, q + j = 8 ∧ r 0 = u64 p ∧ r 3 = v ∧ r 4 = u64 (shl64 p 3) ∧ r 5 = .int .i64 j ∧ St m m [] wI w' [rowE v 5 1 (128 :: List.replicate (zs p.toNat) (0 : UInt8) ++ be8 (shl64 p 3) j).length (bs (128 :: List.replicate (zs p.toNat) 0 ++ be8 (shl64 p 3) j))]) id 8 ⟨0, _, rfl, rfl, rfl, rfl, rfl, ?_⟩ ?_
    · have e : (128 :: List.replicate (zs p.toNat) 0 ++ be8 (shl64 p 3) 0 : List UInt8) = 128 :: List.replicate (zs p.toNat) 0 := by simp [be8]
      rw [e]
      exact st
    rintro q2 r w3 ⟨i, v, hqi, h0, h3, h4, h5, st⟩
    obtain ⟨g, cap, rfl⟩ := row_len (st.at (i := 0) rfl) (by simp)
    refine wc_o 0 h0 (wc_o 3 h3 (wc_o 4 h4 (wc_o 5 h5 ?_)))
    refine wc_seq ?_
    refine wc_seq ?_
    refine wc_region ?_
    refine wl_val (v_move' (by conv => (lhs; whnf))) rfl ?_
    refine wl_val (v_lss rfl rfl) rfl ?_
    refine wl_nil ?_
    refine then_go ?_
    refine wc_if rfl (fun h22 => ?_) (fun h22 => ?_)
    · refine wc_skip ?_
      refine then_go ?_
      refine wc_seq ?_
      refine wc_block ?_
      have hi8 : i < 8 := by omega
      refine wc_region ?_
      refine wl_val (v_move' (by conv => (lhs; whnf))) rfl ?_
      refine wl_val (v_move' (by conv => (lhs; whnf))) rfl ?_
      refine wl_val (v_move' (by conv => (lhs; whnf))) rfl ?_
      refine wl_val (v_mul' (c := ((8 * i : Nat) : Int)) rfl rfl (by omega) (by omega) (by omega)) rfl ?_
      refine wl_val (v_sub' (c := ((56 - 8 * i : Nat) : Int)) rfl rfl (by omega) (by omega) (by omega)) rfl ?_
      refine wl_val (v_conv Try.underlying3 Try.underlying84 rfl) rfl ?_
      rw [wrap_u64_small (by omega)]
      refine wl_val (v_shr64 (56 - 8 * i) rfl rfl (by first | omega | decide | (dsimp only at *; omega))) rfl ?_
      refine wl_val (v_conv64_8 Try.underlying46 Try.underlying5 rfl) rfl ?_
      refine wl_byte1 (UInt8.ofNat (shr64 (shl64 p 3) (56 - 8 * i)).toNat) Try.underlying66 TF.t5 TF.z5 rfl st rfl ?_
      intro b27 w st
      refine wl_app1 st Try.underlying66 TF.t5 TF.z5 rfl rfl (by simp [length_be8]; omega) (by simp [length_be8]; omega) rfl ?_
      intro v28 w st hv28
      refine wl_val (v_assign' (by conv => (lhs; whnf))) rfl ?_
      refine wl_nil ?_
      refine block_go (then_go ?_)
      refine wc_region ?_
      refine wl_val (v_move' (by conv => (lhs; whnf))) rfl ?_
      refine wl_val (v_add' rfl rfl rfl (by first | omega | (dsimp only at *; omega)) (by first | omega | (dsimp only at *; omega))) rfl ?_
      refine wl_val (v_assign' (by conv => (lhs; whnf))) rfl ?_
      refine wl_nil ?_
      refine then_go ?_
      refine ⟨q2 - 1, by simp; omega, i + 1, _, by omega, rfl, rfl, rfl, rfl, ?_⟩
      rw [be8_succ, ← List.append_assoc]
      exact st
    · refine wc_exit (then_exit (then_exit (block_hit ?_)))
      refine then_go ?_
      refine wc_seq ?_
      refine wc_region ?_
      refine wl_val (v_move' (by conv => (lhs; whnf))) rfl ?_
      refine wl_val (v_assign' (by conv => (lhs; whnf))) rfl ?_
      refine wl_nil ?_
      refine then_go ?_
      refine wc_ret ?_
      have hi8 : i = 8 := by omega
      subst hi8
      exact ret1 rfl st.bytesOut

theorem c_turn {x : UInt32} {n : Nat} (hn : n ≤ 32) : Ret Try.prog 66 #[u32 x, .int .i64 n] wI fun v w' => w' = wI ∧ v = u32 (rotr x n) := by
  refine ret_of Try.call66 Try.func66 rfl Try.ntmps66 Try.results66 rfl ?_
  refine wc_seq ?_
  refine wc_region ?_
  refine wl_val (v_assign' (by conv => (lhs; whnf))) rfl ?_
  refine wl_nil ?_
  refine then_go ?_
  refine wc_seq ?_
  refine wc_region ?_
  refine wl_val (v_move' (by conv => (lhs; whnf))) rfl ?_
  refine wl_val (v_move' (by conv => (lhs; whnf))) rfl ?_
  refine wl_val (v_conv Try.underlying3 Try.underlying84 rfl) rfl ?_
  rw [wrap_u64_small (by omega)]
  refine wl_val (v_shr32 n rfl rfl (by first | omega | decide | (dsimp only at *; omega))) rfl ?_
  refine wl_val (v_move' (by conv => (lhs; whnf))) rfl ?_
  refine wl_val (v_move' (by conv => (lhs; whnf))) rfl ?_
  refine wl_val (v_sub' (c := ((32 - n : Nat) : Int)) rfl rfl (by omega) (by omega) (by omega)) rfl ?_
  refine wl_val (v_conv Try.underlying3 Try.underlying84 rfl) rfl ?_
  rw [wrap_u64_small (by omega)]
  refine wl_val (v_shl32 (32 - n) rfl rfl (by first | omega | decide | (dsimp only at *; omega))) rfl ?_
  refine wl_val (v_or32 rfl rfl) rfl ?_
  refine wl_val (v_assign' (by conv => (lhs; whnf))) rfl ?_
  refine wl_nil ?_
  refine then_go ?_
  refine wc_ret ?_
  exact ret1 (v := u32 (shr32 x n ||| shl32 x (32 - n))) rfl ⟨rfl, by rw [rotr, UInt32.or_comm]⟩

end
end Go.Proofs.Ytkbmhhbclbgdpaa
