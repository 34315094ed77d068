/-
  The iterator over a digest's bits.
-/
import Derived.Test.YtkbmhhbclbgdpaaPb
import Derived.Test.YtkbmhhbclbgdpaaZ
namespace Go.Proofs.Ytkbmhhbclbgdpaa
open Go Go.RowKit K PT

section
variable {m : Mem} {wI : World}

theorem and_bit2 (a j : Nat) : (decide (¬ ((a &&& 2 ^ j : Nat) : Int) = 0)) = a.testBit j := and_bit a j

/-- The iterator: each bit is handed on, till it is told to stop. -/
theorem c_bits1 {d : By} {l b1 : Nat} (hd : d.length = 32) (J Jx : Nat → World → Prop) (hrd : ∀ i w, J i w → Reads Try.prog w 24 ⟨b1, 0, none⟩ (arr d))
    (hy : ∀ i w, i < 256 → J i w → YieldR Try.prog l [.int .i64 i, .bool (bit d i)] w fun v w' => (v = .bool true ∧ J (i + 1) w') ∨ (v = .bool false ∧ Jx i w')) (h0 : J 0 wI) :
    Ret Try.prog 42 #[.func (.yield l) #[] #[], .pointer (some ⟨b1, 0, none⟩)] wI fun _ w' => J 256 w' ∨ ∃ i, i < 256 ∧ Jx i w' := by
  refine ret_of Try.call42 Try.func42 rfl Try.ntmps42 Try.results42 rfl ?_
  refine wc_scope (fun _ _ _ h => h) ?_
  refine wc_seq ?_
  refine wc_label ?_
  refine then_go ?_
  refine wc_seq ?_
  refine wc_region ?_
  refine wl_val (v_load rfl (hrd 0 _ h0)) rfl ?_
  refine wl_val (v_move' (by conv => (lhs; whnf))) rfl ?_
  refine wl_nil ?_
  refine then_go ?_
  refine wc_block ?_
  refine wc_loop (S := Nat) (fun q r w' => ∃ k, q + k = 32 ∧ r 0 = .func (.yield l) #[] #[] ∧ r 6 = arr d ∧ r 7 = .int .i64 k ∧ J (8 * k) w') id 32 ⟨0, rfl, rfl, rfl, rfl, h0⟩ ?_
  rintro q r w ⟨k, hqk, h0, h6, h7, hJ⟩
  refine wc_o 0 h0 (wc_o 6 h6 (wc_o 7 h7 ?_))
  refine wc_seq ?_
  refine wc_region ?_
  refine wl_val (v_lss rfl rfl) rfl ?_
  refine wl_nil ?_
  refine then_go ?_
  refine wc_seq ?_
  refine wc_if rfl (fun h8 => ?_) (fun h8 => ?_)
  · refine wc_skip ?_
    refine then_go ?_
    refine wc_seq ?_
    refine wc_block ?_
    refine wc_seq ?_
    have hk : k < 32 := by omega
    refine wc_region ?_
    refine wl_val (v_move' (by conv => (lhs; whnf))) rfl ?_
    refine wl_val (v_index_a (v := u8 (d.getD k 0)) Try.underlying24 TF.t5 rfl rfl (by omega) (by omega) (getV_bsd (j := k) (by simp) (by omega))) rfl ?_
    refine wl_val (v_assign' (by conv => (lhs; whnf))) rfl ?_
    refine wl_val (v_assign' (by conv => (lhs; whnf))) rfl ?_
    refine wl_nil ?_
    refine then_go ?_
    refine wc_seq ?_
    refine wc_region ?_
    refine wl_val (v_assign' (by conv => (lhs; whnf))) rfl ?_
    refine wl_nil ?_
    refine then_go ?_
    refine wc_block ?_
    refine wc_loop (S := Nat) (fun q r w' => ∃ j, q + j = 8 ∧ r 0 = .func (.yield l) #[] #[] ∧ r 3 = .int .i64 k ∧ r 4 = u8 (d.getD k 0) ∧ r 5 = .int .i64 j ∧ r 6 = arr d ∧ r 7 = .int .i64 k ∧ J (8 * k + j) w') id 8 ⟨0, rfl, rfl, rfl, rfl, rfl, rfl, rfl, hJ⟩ ?_
    rintro q2 r w3 ⟨j, hqj, h0, h3, h4, h5, h6, h7, hJ⟩
    refine wc_o 0 h0 (wc_o 3 h3 (wc_o 4 h4 (wc_o 5 h5 (wc_o 6 h6 (wc_o 7 h7 ?_)))))
    refine wc_seq ?_
    refine wc_seq ?_
    refine wc_region ?_
    refine wl_val (v_move' (by conv => (lhs; whnf))) rfl ?_
    refine wl_val (v_lss rfl rfl) rfl ?_
    refine wl_nil ?_
    refine then_go ?_
    refine wc_if rfl (fun h12 => ?_) (fun h12 => ?_)
    · refine wc_skip ?_
      refine then_go ?_
      refine wc_seq ?_
      refine wc_block ?_
      refine wc_seq ?_
      have hj : j < 8 := by omega
      have hbit : bit d (8 * k + j) = (d.getD k 0).toNat.testBit (7 - j) := by
        unfold bit
        rw [show (8 * k + j) / 8 = k by omega, show (8 * k + j) % 8 = j by omega]
      refine wc_regionI ?_
      refine wli_val (v_move' (by conv => (lhs; whnf))) rfl ?_
      refine wli_val (v_move' (by conv => (lhs; whnf))) rfl ?_
      refine wli_val (v_mul' (c := ((8 * k : Nat) : Int)) rfl rfl (by omega) (by omega) (by omega)) rfl ?_
      refine wli_val (v_move' (by conv => (lhs; whnf))) rfl ?_
      refine wli_val (v_add' (c := ((8 * k + j : Nat) : Int)) rfl rfl (by omega) (by omega) (by omega)) rfl ?_
      refine wli_val (v_move' (by conv => (lhs; whnf))) rfl ?_
      refine wli_val (v_move' (by conv => (lhs; whnf))) rfl ?_
      refine wli_val (v_shr128 j rfl rfl hj) rfl ?_
      refine wli_val (v_and8 (2 ^ (7 - j)) (Nat.lt_of_le_of_lt (Nat.pow_le_pow_right (by decide) (Nat.sub_le _ _)) (by decide)) rfl rfl) rfl ?_
      refine wli_val (v_neq rfl rfl) rfl ?_
      rw [and_bit, ← hbit]
      refine wli_yield rfl rfl (hy (8 * k + j) _ (by omega) hJ) rfl ?_
      intro v25 w4 hR
      obtain ⟨bb, rfl, hR2⟩ : ∃ bb : Bool, v25 = .bool bb ∧ ((bb = true ∧ J (8 * k + j + 1) w4) ∨ (bb = false ∧ Jx (8 * k + j) w4)) := by
        rcases hR with ⟨rfl, h⟩ | ⟨rfl, h⟩
        · exact ⟨true, rfl, .inl ⟨rfl, h⟩⟩
        · exact ⟨false, rfl, .inr ⟨rfl, h⟩⟩
      refine wli_val (v_not rfl) rfl ?_
      refine wli_nil ?_
      refine then_go ?_
      refine wc_cond rfl (fun h26 => ?_) (fun h26 => ?_)
      · refine wc_exit (block_miss rfl (then_exit (then_exit (block_miss rfl (block_miss rfl (then_exit (then_exit (block_hit ?_))))))))
        refine end0 ?_
        first
        | (rcases hR2 with ⟨rfl, h⟩ | ⟨rfl, h⟩
           · cases h26
           · exact .inr ⟨_, by omega, h⟩)
        | (have hk32 : k = 32 := by omega
           subst hk32
           exact .inl hJ)
      · refine wc_skip ?_
        refine block_go (then_go ?_)
        refine wc_region ?_
        refine wl_val (v_move' (by conv => (lhs; whnf))) rfl ?_
        refine wl_val (v_add' rfl rfl rfl (by first | omega | (dsimp only at *; omega)) (by first | omega | (dsimp only at *; omega))) rfl ?_
        refine wl_val (v_assign' (by conv => (lhs; whnf))) rfl ?_
        refine wl_nil ?_
        refine then_go ?_
        rcases hR2 with ⟨rfl, h⟩ | ⟨rfl, h⟩
        · exact ⟨q2 - 1, by simp; omega, j + 1, by omega, rfl, rfl, rfl, rfl, rfl, rfl, h⟩
        · cases h26
    · refine wc_exit (then_exit (then_exit (block_hit ?_)))
      refine block_go (then_go ?_)
      refine wc_region ?_
      refine wl_val (v_add' rfl rfl rfl (by first | omega | (dsimp only at *; omega)) (by first | omega | (dsimp only at *; omega))) rfl ?_
      refine wl_val (v_move' (by conv => (lhs; whnf))) rfl ?_
      refine wl_nil ?_
      refine then_go ?_
      have hj8 : j = 8 := by omega
      subst hj8
      exact ⟨q - 1, by simp; omega, k + 1, by omega, rfl, rfl, rfl, hJ⟩
  · refine wc_exit (then_exit (then_exit (block_hit ?_)))
    refine end0 ?_
    first
    | (rcases hR2 with ⟨rfl, h⟩ | ⟨rfl, h⟩
       · cases h26
       · exact .inr ⟨_, by omega, h⟩)
    | (have hk32 : k = 32 := by omega
       subst hk32
       exact .inl hJ)

theorem c_bits {d : By} (him : Im m wI) : Ret Try.prog 29 #[arr d] wI fun v w' => ∃ b, v = .func (.func 42) #[] #[.pointer (some ⟨b, 0, none⟩)] ∧ Tch wI w' [] [b] ∧ (K.blk b (arr d).cells 24).holds w' := by
  have st := St.start him
  refine ret_of Try.call29 Try.func29 rfl Try.ntmps29 Try.results29 rfl ?_
  refine wc_seq ?_
  refine wc_region ?_
  refine wl_box (v := arr d) rfl st rfl ?_
  intro b1 w st
  refine wl_val (v_assign' (by conv => (lhs; whnf))) rfl ?_
  refine wl_nil ?_
  refine then_go ?_
  refine wc_seq ?_
  refine wc_region ?_
  refine wl_val (v_mkfunc rfl rfl) rfl ?_
  refine wl_val (v_assign' (by conv => (lhs; whnf))) rfl ?_
  refine wl_nil ?_
  refine then_go ?_
  refine wc_ret ?_
  have hf := (St.finish (Es := []) (l := [_]) st).1
  exact ret1 rfl ⟨b1, rfl, ⟨hf.os, hf.tape, hf.output, hf.size, hf.block, fun k hk => hf.out k (by simpa [joinE, K.blk] using hk)⟩, st.at (i := 0) rfl⟩
end
end Go.Proofs.Ytkbmhhbclbgdpaa
