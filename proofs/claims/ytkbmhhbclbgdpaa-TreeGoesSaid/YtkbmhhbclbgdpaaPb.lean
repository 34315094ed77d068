/-
  Digests compared: the reference's Less.
-/
import Derived.Test.YtkbmhhbclbgdpaaPa
namespace Go.Proofs.Ytkbmhhbclbgdpaa
open Go Go.RowKit K

namespace PT
/-- Byte by byte. -/
def lt : By → By → Bool
  | x :: a, y :: b => if x = y then lt a b else decide (x.toNat < y.toNat)
  | _, _ => false

theorem lt_step {a b : By} {i : Nat} (ha : i < a.length) (hb : i < b.length) : lt (a.drop i) (b.drop i) = if a.getD i 0 = b.getD i 0 then lt (a.drop (i + 1)) (b.drop (i + 1)) else decide ((a.getD i 0).toNat < (b.getD i 0).toNat) := by
  rw [List.drop_eq_getElem_cons ha, List.drop_eq_getElem_cons hb]
  simp [lt, List.getD, ha, hb]
end PT
open PT

section
variable {m : Mem} {wI : World}

theorem c_less {a b : By} (him : Im m wI) (ha : a.length = 32) (hb : b.length = 32) : Ret Try.prog 40 #[arr a, arr b] wI fun v w' => Tch wI w' [] [] ∧ v = .bool (lt a b) := by
  have st := St.start him
  refine ret_of Try.call40 Try.func40 rfl Try.ntmps40 Try.results40 rfl ?_
  refine wc_seq ?_
  refine wc_region ?_
  refine wl_box (v := arr a) rfl st rfl ?_
  intro b2 w st
  refine wl_box (v := arr b) rfl st rfl ?_
  intro b3 w st
  refine wl_val (v_assign' (by conv => (lhs; whnf))) rfl ?_
  refine wl_nil ?_
  refine then_go ?_
  refine wc_seq ?_
  refine wc_seq ?_
  refine wc_region ?_
  refine wl_val (v_assign' (by conv => (lhs; whnf))) rfl ?_
  refine wl_nil ?_
  refine then_go ?_
  refine wc_block ?_
  refine wc_loop (S := Nat) (fun q r w' => ∃ i, q + i = 32 ∧ r 2 = .pointer (some ⟨b2, 0, none⟩) ∧ r 3 = .pointer (some ⟨b3, 0, none⟩) ∧ r 5 = .int .i64 i ∧ lt a b = lt (a.drop i) (b.drop i) ∧ St m m [] wI w' [K.blk b3 (arr b).cells 24, K.blk b2 (arr a).cells 24]) id 32 ⟨0, rfl, rfl, rfl, rfl, rfl, st⟩ ?_
  rintro q r w2 ⟨i, hqi, h2, h3, h5, hlt, st⟩
  refine wc_o 2 h2 (wc_o 3 h3 (wc_o 5 h5 ?_))
  refine wc_seq ?_
  refine wc_seq ?_
  refine wc_region ?_
  refine wl_val (v_move' (by conv => (lhs; whnf))) rfl ?_
  refine wl_val (v_lss rfl rfl) rfl ?_
  refine wl_nil ?_
  refine then_go ?_
  refine wc_if rfl (fun h7 => ?_) (fun h7 => ?_)
  · refine wc_skip ?_
    refine then_go ?_
    refine wc_seq ?_
    refine wc_block ?_
    refine wc_seq ?_
    have hi : i < 32 := by omega
    have hst := lt_step (a := a) (b := b) (i := i) (by omega) (by omega)
    refine wc_draw TF.mixed ?_
    have st := st.pure (touch_drew _)
    refine fl_val 0 rfl (fun _ => (v_move' (by conv => (lhs; whnf)))) rfl (by kernel_rfl) ?_
    refine fl_val 1 rfl (fun _ => (v_iaa i Try.underlying24 TF.t5 rfl rfl (by first | rfl | omega) (by first | omega | (dsimp only at *; omega)))) rfl (by kernel_rfl) ?_
    refine fl_ld 2 rfl (v_load rfl (st.reads (v := u8 (a.getD i 0)) 1 rfl TF.t5 (getV_bsd (j := i) (by omega) (by omega)))) (by kernel_rfl) ?_
    refine fl_val 3 rfl (fun _ => (v_move' (by conv => (lhs; whnf)))) rfl (by kernel_rfl) ?_
    refine fl_val 4 rfl (fun _ => (v_iaa i Try.underlying24 TF.t5 rfl rfl (by first | rfl | omega) (by first | omega | (dsimp only at *; omega)))) rfl (by kernel_rfl) ?_
    refine fl_ld 5 rfl (v_load rfl (st.reads (v := u8 (b.getD i 0)) 0 rfl TF.t5 (getV_bsd (j := i) (by omega) (by omega)))) (by kernel_rfl) ?_
    refine fl_val 6 rfl (fun _ => (v_neq rfl rfl)) rfl (by kernel_rfl) ?_
    refine fl_nil (by kernel_rfl) ⟨obl_ld rfl rfl rfl (v_load rfl (st.reads (v := u8 (b.getD i 0)) 0 rfl TF.t5 (getV_bsd (j := i) (by omega) (by omega)))), obl_ld rfl rfl rfl (v_load rfl (st.reads (v := u8 (a.getD i 0)) 1 rfl TF.t5 (getV_bsd (j := i) (by omega) (by omega)))), trivial⟩ ?_
    refine then_go ?_
    refine wc_if rfl (fun h16 => ?_) (fun h16 => ?_)
    · refine wc_seq ?_
      refine wc_draw TF.mixed ?_
      have st := st.pure (touch_drew _)
      refine fl_val 0 rfl (fun _ => (v_move' (by conv => (lhs; whnf)))) rfl (by kernel_rfl) ?_
      refine fl_val 1 rfl (fun _ => (v_iaa i Try.underlying24 TF.t5 rfl rfl (by first | rfl | omega) (by first | omega | (dsimp only at *; omega)))) rfl (by kernel_rfl) ?_
      refine fl_ld 2 rfl (v_load rfl (st.reads (v := u8 (a.getD i 0)) 1 rfl TF.t5 (getV_bsd (j := i) (by omega) (by omega)))) (by kernel_rfl) ?_
      refine fl_val 3 rfl (fun _ => (v_move' (by conv => (lhs; whnf)))) rfl (by kernel_rfl) ?_
      refine fl_val 4 rfl (fun _ => (v_iaa i Try.underlying24 TF.t5 rfl rfl (by first | rfl | omega) (by first | omega | (dsimp only at *; omega)))) rfl (by kernel_rfl) ?_
      refine fl_ld 5 rfl (v_load rfl (st.reads (v := u8 (b.getD i 0)) 0 rfl TF.t5 (getV_bsd (j := i) (by omega) (by omega)))) (by kernel_rfl) ?_
      refine fl_val 6 rfl (fun _ => (v_lss rfl rfl)) rfl (by kernel_rfl) ?_
      refine fl_eff1 7 [] [] (by kernel_rfl) ⟨obl_ld rfl rfl rfl (v_load rfl (st.reads (v := u8 (b.getD i 0)) 0 rfl TF.t5 (getV_bsd (j := i) (by omega) (by omega)))), obl_ld rfl rfl rfl (v_load rfl (st.reads (v := u8 (a.getD i 0)) 1 rfl TF.t5 (getV_bsd (j := i) (by omega) (by omega)))), trivial⟩ rfl ?_
      refine wl_val (v_assign' (by conv => (lhs; whnf))) rfl ?_
      refine wl_nil ⟨rfl, ?_⟩
      refine fl_nil (by kernel_rfl) trivial ?_
      refine then_go ?_
      refine wc_ret (block_ret (then_ret (then_ret (block_ret (then_ret ?_)))))
      have hne : ¬ a.getD i 0 = b.getD i 0 := fun e => h16 (by rw [e])
      refine ret1 rfl ⟨(st.keepOnly (l := []) (List.nil_sublist _)).touch, ?_⟩
      rw [hlt, hst, if_neg hne]
      show Value.bool _ = Value.bool _
      congr 1
      exact decide_eq_decide.2 (by omega)
    · refine wc_skip ?_
      refine block_go (then_go ?_)
      refine wc_region ?_
      refine wl_val (v_move' (by conv => (lhs; whnf))) rfl ?_
      refine wl_val (v_add' rfl rfl rfl (by first | omega | (dsimp only at *; omega)) (by first | omega | (dsimp only at *; omega))) rfl ?_
      refine wl_val (v_assign' (by conv => (lhs; whnf))) rfl ?_
      refine wl_nil ?_
      refine then_go ?_
      have he : a.getD i 0 = b.getD i 0 := UInt8.toNat_inj.mp (by omega)
      exact ⟨q - 1, by simp; omega, i + 1, by omega, rfl, rfl, rfl, by rw [hlt, hst, if_pos he], st⟩
  · refine wc_exit (then_exit (then_exit (block_hit ?_)))
    refine then_go ?_
    refine wc_seq ?_
    refine wc_region ?_
    refine wl_val (v_assign' (by conv => (lhs; whnf))) rfl ?_
    refine wl_nil ?_
    refine then_go ?_
    refine wc_ret ?_
    have hi32 : i = 32 := by omega
    subst hi32
    refine ret1 rfl ⟨(st.keepOnly (l := []) (List.nil_sublist _)).touch, ?_⟩
    rw [hlt, List.drop_eq_nil_of_le (by omega), List.drop_eq_nil_of_le (by omega)]
    rfl
end
end Go.Proofs.Ytkbmhhbclbgdpaa
