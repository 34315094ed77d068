/-
  SHA-256: turns and words.
-/
import Derived.Test.YtkbmhhbclbgdpaaU
import Derived.Test.YtkbmhhbclbgdpaaF
namespace Go.Proofs.Ytkbmhhbclbgdpaa
open Go Go.RowKit K

namespace SH
def rotr (x : UInt32) (n : Nat) : UInt32 := shl32 x (32 - n) ||| shr32 x n
def word4 (b0 b1 b2 b3 : UInt8) : UInt32 := shl32 (UInt32.ofNat b0.toNat) 24 ||| shl32 (UInt32.ofNat b1.toNat) 16 ||| shl32 (UInt32.ofNat b2.toNat) 8 ||| UInt32.ofNat b3.toNat
end SH
open SH

section
variable {m : Mem} {wI : World}

theorem c_rotl {x : UInt32} {k : Int} (n : Nat) (hn : n ≤ 32) (hk : IntKind.u64.wrap (BitVec.ofInt 64 (IntKind.u64.wrap k) &&& BitVec.ofInt 64 31).toNat = ((32 - n : Nat) : Int)) (hn0 : 0 < n) :
    Ret Try.prog 69 #[u32 x, .int .i64 k] wI fun v w' => w' = wI ∧ v = u32 (rotr x n) := by
  refine ret_of Try.call69 Try.func69 rfl Try.ntmps69 Try.results69 rfl ?_
  refine wc_seq ?_
  refine wc_region ?_
  refine wl_val (v_assign' (by conv => (lhs; whnf))) rfl ?_
  refine wl_nil ?_
  refine then_go ?_
  refine wc_seq ?_
  refine wc_region ?_
  refine wl_val (v_move' (by conv => (lhs; whnf))) rfl ?_
  refine wl_val (v_conv Try.underlying3 Try.underlying84 rfl) rfl ?_
  refine wl_val (v_and rfl rfl) rfl ?_
  rw [show IntKind.u64.bits = 64 from rfl, hk]
  refine wl_val (v_assign' (by conv => (lhs; whnf))) rfl ?_
  refine wl_nil ?_
  refine then_go ?_
  refine wc_seq ?_
  refine wc_region ?_
  refine wl_val (v_move' (by conv => (lhs; whnf))) rfl ?_
  refine wl_val (v_move' (by conv => (lhs; whnf))) rfl ?_
  refine wl_val (v_shl32 (32 - n) rfl rfl (by first | omega | decide | (dsimp only at *; omega))) rfl ?_
  refine wl_val (v_move' (by conv => (lhs; whnf))) rfl ?_
  refine wl_val (v_move' (by conv => (lhs; whnf))) rfl ?_
  refine wl_val (v_sub rfl rfl) rfl ?_
  rw [show IntKind.u64.wrap ((32 : Int) - ((32 - n : Nat) : Int)) = ((n : Nat) : Int) by
    rw [show (32 : Int) - ((32 - n : Nat) : Int) = ((n : Nat) : Int) by omega, wrap_u64, UInt64.toNat_ofNat', Nat.mod_eq_of_lt (by omega)]]
  refine wl_val (v_shr32 n rfl rfl (by first | omega | decide | (dsimp only at *; omega))) rfl ?_
  refine wl_val (v_or32 rfl rfl) rfl ?_
  refine wl_val (v_assign' (by conv => (lhs; whnf))) rfl ?_
  refine wl_nil ?_
  refine then_go ?_
  refine wc_ret ?_
  exact ret1 rfl ⟨rfl, rfl⟩

theorem c_word {v : Value} {b0 b1 b2 b3 : UInt8} {l : List UInt8} (him : Im m wI) (hv : SlM m v 1 (l.length + 4) (bs (b0 :: b1 :: b2 :: b3 :: l))) :
    Ret Try.prog 70 #[v] wI fun v' w' => Tch wI w' [] [] ∧ v' = u32 (word4 b0 b1 b2 b3) := by
  have st := St.start him
  obtain ⟨b, o, cap, rfl, _⟩ := hv.ptr1 (by omega) (by omega)
  refine ret_of Try.call70 Try.func70 rfl Try.ntmps70 Try.results70 rfl ?_
  refine wc_seq ?_
  refine wc_region ?_
  refine wl_val (v_assign' (by conv => (lhs; whnf))) rfl ?_
  refine wl_nil ?_
  refine then_go ?_
  refine wc_seq ?_
  refine wc_draw TF.mixed ?_
  have st := st.pure (touch_drew _)
  refine fl_val 0 rfl (fun _ => (v_move' (by conv => (lhs; whnf)))) rfl (by kernel_rfl) ?_
  refine fl_val 1 rfl (fun _ => (v_ias 0 Try.underlying66 TF.t5 rfl rfl (by first | rfl | omega) (by first | omega | (dsimp only at *; omega)))) rfl (by kernel_rfl) ?_
  refine fl_ld 2 rfl (v_load rfl (hv.rdB TF.t5 0 (by simp) st.im)) (by kernel_rfl) ?_
  refine fl_val 3 rfl (fun _ => (v_conv8_32 Try.underlying5 Try.underlying80 rfl)) rfl (by kernel_rfl) ?_
  refine fl_val 4 rfl (fun _ => (v_shl32 24 rfl rfl (by first | omega | decide | (dsimp only at *; omega)))) rfl (by kernel_rfl) ?_
  refine fl_val 5 rfl (fun _ => (v_move' (by conv => (lhs; whnf)))) rfl (by kernel_rfl) ?_
  refine fl_val 6 rfl (fun _ => (v_ias 1 Try.underlying66 TF.t5 rfl rfl (by first | rfl | omega) (by first | omega | (dsimp only at *; omega)))) rfl (by kernel_rfl) ?_
  refine fl_ld 7 rfl (v_load rfl (hv.rdB TF.t5 1 (by simp) st.im)) (by kernel_rfl) ?_
  refine fl_val 8 rfl (fun _ => (v_conv8_32 Try.underlying5 Try.underlying80 rfl)) rfl (by kernel_rfl) ?_
  refine fl_val 9 rfl (fun _ => (v_shl32 16 rfl rfl (by first | omega | decide | (dsimp only at *; omega)))) rfl (by kernel_rfl) ?_
  refine fl_val 10 rfl (fun _ => (v_or32 rfl rfl)) rfl (by kernel_rfl) ?_
  refine fl_val 11 rfl (fun _ => (v_move' (by conv => (lhs; whnf)))) rfl (by kernel_rfl) ?_
  refine fl_val 12 rfl (fun _ => (v_ias 2 Try.underlying66 TF.t5 rfl rfl (by first | rfl | omega) (by first | omega | (dsimp only at *; omega)))) rfl (by kernel_rfl) ?_
  refine fl_ld 13 rfl (v_load rfl (hv.rdB TF.t5 2 (by simp) st.im)) (by kernel_rfl) ?_
  refine fl_val 14 rfl (fun _ => (v_conv8_32 Try.underlying5 Try.underlying80 rfl)) rfl (by kernel_rfl) ?_
  refine fl_val 15 rfl (fun _ => (v_shl32 8 rfl rfl (by first | omega | decide | (dsimp only at *; omega)))) rfl (by kernel_rfl) ?_
  refine fl_val 16 rfl (fun _ => (v_or32 rfl rfl)) rfl (by kernel_rfl) ?_
  refine fl_val 17 rfl (fun _ => (v_move' (by conv => (lhs; whnf)))) rfl (by kernel_rfl) ?_
  refine fl_val 18 rfl (fun _ => (v_ias 3 Try.underlying66 TF.t5 rfl rfl (by first | rfl | omega) (by first | omega | (dsimp only at *; omega)))) rfl (by kernel_rfl) ?_
  refine fl_ld 19 rfl (v_load rfl (hv.rdB TF.t5 3 (by simp) st.im)) (by kernel_rfl) ?_
  refine fl_val 20 rfl (fun _ => (v_conv8_32 Try.underlying5 Try.underlying80 rfl)) rfl (by kernel_rfl) ?_
  refine fl_val 21 rfl (fun _ => (v_or32 rfl rfl)) rfl (by kernel_rfl) ?_
  refine fl_eff1 22 [] [] (by kernel_rfl) ⟨obl_ld rfl rfl rfl (v_load rfl (hv.rdB TF.t5 3 (by simp) st.im)), obl_ld rfl rfl rfl (v_load rfl (hv.rdB TF.t5 2 (by simp) st.im)), obl_ld rfl rfl rfl (v_load rfl (hv.rdB TF.t5 1 (by simp) st.im)), obl_ld rfl rfl rfl (v_load rfl (hv.rdB TF.t5 0 (by simp) st.im)), trivial⟩ rfl ?_
  refine wl_val (v_assign' (by conv => (lhs; whnf))) rfl ?_
  refine wl_nil ⟨rfl, ?_⟩
  refine fl_nil (by kernel_rfl) trivial ?_
  refine then_go ?_
  refine wc_ret ?_
  exact ret1 rfl ⟨st.touch, rfl⟩
end
end Go.Proofs.Ytkbmhhbclbgdpaa
