/-
  SHA-256: what stands behind a text.
-/
import Derived.Test.YtkbmhhbclbgdpaaSc
namespace Go.Proofs.Ytkbmhhbclbgdpaa
open Go Go.RowKit K SH

namespace SH
def zs (n : Nat) : Nat := (119 - n % 64) % 64
def be8 (x : UInt64) (k : Nat) : List UInt8 := (List.range k).map fun i => UInt8.ofNat (shr64 x (56 - 8 * i)).toNat
def pad (p : UInt64) : List UInt8 := 128 :: List.replicate (zs p.toNat) 0 ++ be8 (shl64 p 3) 8

theorem rem64 (p : UInt64) (k : Nat) : ((p + UInt64.ofNat k) % 64).toNat = (p.toNat + k) % 64 := by
  rw [UInt64.toNat_mod, UInt64.toNat_add, UInt64.toNat_ofNat']
  show (p.toNat + k % 2 ^ 64) % 2 ^ 64 % 64 = _
  omega

theorem be8_succ (x : UInt64) (k : Nat) : be8 x (k + 1) = be8 x k ++ [UInt8.ofNat (shr64 x (56 - 8 * k)).toNat] := by
  unfold be8
  rw [List.range_succ]
  simp

theorem mul8 (p : UInt64) : p * 8 = shl64 p 3 := by
  apply UInt64.toNat_inj.mp
  rw [UInt64.toNat_mul, shl64, UInt64.toNat_ofNat']
  rfl

theorem length_be8 (x : UInt64) (k : Nat) : (be8 x k).length = k := by simp [be8]
theorem length_pad (p : UInt64) : (pad p).length = zs p.toNat + 9 := by simp [pad, length_be8]
theorem zs_lt (n : Nat) : zs n < 64 := Nat.mod_lt _ (by decide)
end SH

section
variable {m : Mem} {wI : World}

theorem c_pad {p : UInt64} (him : Im m wI) : Ret Try.prog 63 #[u64 p] wI fun v w' => Out m wI w' fun m' => SlM m' v 1 (pad p).length (bs (pad p)) := by
  have st := St.start him
  have hz := zs_lt p.toNat
  refine ret_of Try.call63 Try.func63 rfl Try.ntmps63 Try.results63 rfl ?_
  refine wc_seq ?_
  refine wc_region ?_
  refine wl_val (v_assign' (by conv => (lhs; whnf))) rfl ?_
  refine wl_nil ?_
  refine then_go ?_
  refine wc_seq ?_
  refine wc_region ?_
  refine wl_byte1 128 Try.underlying66 TF.t5 TF.z5 rfl st rfl ?_
  intro b5 w st
  refine wl_val (v_assign' (by conv => (lhs; whnf))) rfl ?_
  refine wl_nil ?_
  have st := st.rowShut 0 rfl (k := 1) (cap := 1) (size := 1) (xs := bs [128]) (by decide) rfl (by decide) rfl
  change St _ _ _ _ _ [rowE _ _ 1 (128 :: List.replicate 0 (0 : UInt8)).length (bs (128 :: List.replicate 0 0))] at st
  refine then_go ?_
  refine wc_seq ?_
  refine wc_block ?_
  refine wc_loop (S := Nat) (fun q r w' => ∃ j v, q + j = zs p.toNat ∧ r 0 = u64 p ∧ r 3 = v ∧ St m m [] wI w' [rowE v 5 1 (128 :: List.replicate j (0 : UInt8)).length (bs (128 :: List.replicate j 0))]) id (zs p.toNat) ⟨0, _, rfl, rfl, rfl, st⟩ ?_
  rintro q r w2 ⟨j, v, hqj, h0, h3, st⟩
  obtain ⟨g, cap, rfl⟩ := row_len (st.at (i := 0) rfl) (by simp)
  refine wc_o 0 h0 (wc_o 3 h3 ?_)
  refine wc_seq ?_
  refine wc_seq ?_
  have hlen : (128 :: List.replicate j (0 : UInt8)).length = j + 1 := by simp
  have hrem := rem64 p (128 :: List.replicate j (0 : UInt8)).length
  have hzs : zs p.toNat = (119 - p.toNat % 64) % 64 := rfl
  refine wc_region ?_
  refine wl_val (v_move' (by conv => (lhs; whnf))) rfl ?_
  refine wl_val (v_move' (by conv => (lhs; whnf))) rfl ?_
  refine wl_val (v_len_s Try.underlying66 rfl) rfl ?_
  refine wl_val (v_convi_64 (n := (128 :: List.replicate j (0 : UInt8)).length) Try.underlying3 Try.underlying46 rfl) rfl ?_
  refine wl_val (v_add64 rfl rfl) rfl ?_
  refine wl_val (v_rem64 (q := 64) rfl rfl (by decide)) rfl ?_
  refine wl_val (v_neq rfl rfl) rfl ?_
  refine wl_nil ?_
  refine then_go ?_
  refine wc_if rfl (fun h12 => ?_) (fun h12 => ?_)
  · refine wc_skip ?_
    refine then_go ?_
    refine wc_block ?_
    refine wc_region ?_
    refine wl_val (v_move' (by conv => (lhs; whnf))) rfl ?_
    have hj : j < zs p.toNat := by omega
    refine wl_byte1 0 Try.underlying66 TF.t5 TF.z5 rfl st rfl ?_
    intro b14 w st
    refine wl_app1 st Try.underlying66 TF.t5 TF.z5 rfl rfl (by simp; omega) (by simp; omega) rfl ?_
    intro v15 w st hv15
    refine wl_val (v_assign' (by conv => (lhs; whnf))) rfl ?_
    refine wl_nil ?_
    refine block_go (then_go ?_)
    refine ⟨q - 1, by simp; omega, j + 1, _, by omega, rfl, rfl, ?_⟩
    have e : (128 :: List.replicate (j + 1) 0 : List UInt8) = 128 :: List.replicate j 0 ++ [0] := by rw [List.replicate_succ']; rfl
    rw [e]
    exact st
  · refine wc_exit (then_exit (then_exit (block_hit ?_)))
    refine then_go ?_
    refine wc_seq ?_
    refine wc_seq ?_
    refine wc_region ?_
    refine wl_val (v_move' (by conv => (lhs; whnf))) rfl ?_
    refine wl_nil ?_
    refine then_go ?_
    refine wc_block ?_
    have hje : j = zs p.toNat := by omega
    subst hje
    refine wc_loop (S := Nat) (fun q r w' => ∃ j v, q + j = 8 ∧ r 0 = u64 p ∧ r 3 = v ∧ r 16 = .int .i64 j ∧ St m m [] wI w' [rowE v 5 1 (128 :: List.replicate (zs p.toNat) (0 : UInt8) ++ be8 (shl64 p 3) j).length (bs (128 :: List.replicate (zs p.toNat) 0 ++ be8 (shl64 p 3) j))]) id 8 ⟨0, _, rfl, rfl, rfl, rfl, ?_⟩ ?_
    · have e : (128 :: List.replicate (zs p.toNat) 0 ++ be8 (shl64 p 3) 0 : List UInt8) = 128 :: List.replicate (zs p.toNat) 0 := by simp [be8]
      rw [e]
      exact st
    rintro q2 r w3 ⟨i, v, hqi, h0, h3, h16, st⟩
    obtain ⟨g, cap, rfl⟩ := row_len (st.at (i := 0) rfl) (by simp)
    refine wc_o 0 h0 (wc_o 3 h3 (wc_o 16 h16 ?_))
    refine wc_seq ?_
    refine wc_region ?_
    refine wl_val (v_lss rfl rfl) rfl ?_
    refine wl_nil ?_
    refine then_go ?_
    refine wc_seq ?_
    refine wc_if rfl (fun h17 => ?_) (fun h17 => ?_)
    · refine wc_skip ?_
      refine then_go ?_
      refine wc_seq ?_
      refine wc_block ?_
      refine wc_seq ?_
      refine wc_region ?_
      refine wl_val (v_move' (by conv => (lhs; whnf))) rfl ?_
      refine wl_val (v_assign' (by conv => (lhs; whnf))) rfl ?_
      refine wl_nil ?_
      refine then_go ?_
      have hi8 : i < 8 := by omega
      refine wc_region ?_
      refine wl_val (v_move' (by conv => (lhs; whnf))) rfl ?_
      refine wl_val (v_move' (by conv => (lhs; whnf))) rfl ?_
      refine wl_val (v_shl64 3 rfl rfl (by first | omega | decide | (dsimp only at *; omega))) rfl ?_
      refine wl_val (v_move' (by conv => (lhs; whnf))) rfl ?_
      refine wl_val (v_mul' (c := ((8 * i : Nat) : Int)) rfl rfl (by omega) (by omega) (by omega)) rfl ?_
      refine wl_val (v_sub' (c := ((56 - 8 * i : Nat) : Int)) rfl rfl (by omega) (by omega) (by omega)) rfl ?_
      refine wl_val (v_shr64 (56 - 8 * i) rfl rfl (by first | omega | decide | (dsimp only at *; omega))) rfl ?_
      refine wl_val (v_conv64_8 Try.underlying46 Try.underlying5 rfl) rfl ?_
      refine wl_byte1 (UInt8.ofNat (shr64 (shl64 p 3) (56 - 8 * i)).toNat) Try.underlying66 TF.t5 TF.z5 rfl st rfl ?_
      intro b27 w st
      refine wl_app1 st Try.underlying66 TF.t5 TF.z5 rfl rfl (by simp [length_be8]; omega) (by simp [length_be8]; omega) rfl ?_
      intro v28 w st hv28
      refine wl_val (v_assign' (by conv => (lhs; whnf))) rfl ?_
      refine wl_nil ?_
      refine block_go (then_go ?_)
      refine wc_region ?_
      refine wl_val (v_add' rfl rfl rfl (by first | omega | (dsimp only at *; omega)) (by first | omega | (dsimp only at *; omega))) rfl ?_
      refine wl_val (v_move' (by conv => (lhs; whnf))) rfl ?_
      refine wl_nil ?_
      refine then_go ?_
      refine ⟨q2 - 1, by simp; omega, i + 1, _, by omega, rfl, rfl, rfl, ?_⟩
      rw [be8_succ, ← List.append_assoc]
      exact st
    · refine wc_exit (then_exit (then_exit (block_hit ?_)))
      refine then_go ?_
      refine wc_seq ?_
      refine wc_region ?_
      refine wl_val (v_move' (by conv => (lhs; whnf))) rfl ?_
      refine wl_val (v_assign' (by conv => (lhs; whnf))) rfl ?_
      refine wl_nil ?_
      refine then_go ?_
      refine wc_ret ?_
      have hi8 : i = 8 := by omega
      subst hi8
      exact ret1 rfl st.bytesOut
end
end Go.Proofs.Ytkbmhhbclbgdpaa
