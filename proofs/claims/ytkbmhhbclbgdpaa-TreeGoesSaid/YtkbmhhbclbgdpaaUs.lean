/-
  TreeProves answers true.
-/
import Derived.Test.YtkbmhhbclbgdpaaUr
namespace Go.Proofs.Ytkbmhhbclbgdpaa
open Go Go.RowKit K SH PT

section
variable {m : Mem} {wI : World}

theorem c_f4 {va vv : Value} {A V : List By} {x : By} (him : Im m wI) (ha : DigM m va A) (hv : DigM m vv V) (hx : x.length = 32) (hV : V.length ≤ 9223372036854775807) :
    Ret Try.prog 4 #[va, vv, arr x] wI fun v w' => Tch wI w' [] [] ∧ v = .bool true := by
  have st := St.start him
  obtain ⟨a1, c1, rfl⟩ := ha.sl
  obtain ⟨a2, c2, rfl⟩ := hv.sl
  obtain ⟨hD, _⟩ := ofLv_dst (Z := A.zip V) fun x hx => (d32_zip ha.1 hv.1 x hx).1
  have hLl := length_ofLv (A.zip V)
  have hzl : (A.zip V).length ≤ A.length := by simp; omega
  generalize hL : ofLv (A.zip V) = L at hD hLl
  refine ret_of Try.call4 Try.func4 rfl Try.ntmps4 Try.results4 rfl ?_
  refine wc_seq ?_
  refine wc_region ?_
  refine wl_box (v := arr x) rfl st rfl ?_
  intro b5 w st
  refine wl_val (v_assign' (by conv => (lhs; whnf))) rfl ?_
  refine wl_nil ?_
  refine then_go ?_
  refine wc_seq ?_
  refine wc_seq ?_
  refine wc_region ?_
  refine wl_val (v_move' (by conv => (lhs; whnf))) rfl ?_
  refine wl_call rfl (c_few st.im ha) rfl ?_
  rintro v16 w ⟨t16, rfl⟩
  have st := st.pure t16
  refine wl_val (v_not rfl) rfl ?_
  refine wl_nil ?_
  refine then_go ?_
  refine wc_cond rfl (fun h12 => ?_) (fun h12 => ?_)
  · refine wc_seq ?_
    refine wc_region ?_
    refine wl_call rfl (c_works st.im) rfl ?_
    rintro v18 w ⟨t18, rfl⟩
    have st := st.pure t18
    refine wl_val (v_assign' (by conv => (lhs; whnf))) rfl ?_
    refine wl_nil ?_
    refine then_go ?_
    refine wc_ret (then_ret ?_)
    exact ret1 rfl ⟨(st.keepOnly (l := []) (List.nil_sublist _)).touch, rfl⟩
  · refine wc_skip ?_
    refine then_go ?_
    refine wc_seq ?_
    refine wc_region ?_
    refine wl_val (v_move' (by conv => (lhs; whnf))) rfl ?_
    refine wl_val (v_move' (by conv => (lhs; whnf))) rfl ?_
    have hA60 : A.length ≤ 60 := by simp at h12; omega
    refine wl_call rfl (c_tof' st.im ha hv hA60) rfl ?_
    rintro v21 w ⟨t21, m1, hg1, hi1, p, rfl, hp⟩
    have st := st.grown hg1 t21 hi1
    have ha := ha.mono hg1.le
    have hv := hv.mono hg1.le
    rw [hL] at hp
    refine wl_val (v_assign' (by conv => (lhs; whnf))) rfl ?_
    refine wl_nil ?_
    refine then_go ?_
    refine wc_seq ?_
    refine wc_region ?_
    refine wl_val (v_move' (by conv => (lhs; whnf))) rfl ?_
    refine wl_val (v_move' (by conv => (lhs; whnf))) rfl ?_
    refine wl_call rfl (c_rof st.im ha hv (by omega) hV) rfl ?_
    rintro v24 w ⟨t24, m2, hg2, hi2, hl⟩
    have st := st.grown hg2 t24 hi2
    have ha := ha.mono hg2.le
    have hp := hp.mono hg2.le
    rw [hL] at hl
    obtain ⟨l1, k1, l2, k2, rfl, hl1, hl2⟩ := hl.open
    refine wl_alloc TF.z30 st rfl ?_
    intro b8 w st
    refine wl_storeW (cs := #[.slice l1 L.length k1, .slice l2 L.length k2]) 0 st rfl TF.t30 rfl rfl rfl rfl (by simp [Value.oneCell']) ?_
    intro w st
    refine wl_nil ?_
    refine then_go ?_
    refine wc_seq ?_
    refine wc_seq ?_
    refine wc_draw TF.mixed ?_
    have st := st.pure (touch_drew _)
    refine fl_val 0 rfl (fun _ => (v_move' (by conv => (lhs; whnf)))) rfl (by kernel_rfl) ?_
    refine fl_val 1 rfl (fun _ => (v_eq_nil (p := some ⟨p, 0, none⟩) Try.underlying27 rfl rfl)) rfl (by kernel_rfl) ?_
    refine fl_val 2 rfl (fun _ => (v_move' (by conv => (lhs; whnf)))) rfl (by kernel_rfl) ?_
    refine fl_on 3 rfl rfl rfl rfl (fun _ => (v_move' (by conv => (lhs; whnf)))) rfl (by kernel_rfl) ?_
    refine fl_ond 4 rfl rfl rfl rfl (v_load rfl (st.reads (v := arr x) 1 rfl TF.t24 (getV_all (by rw [size_arr, hx])))) rfl (by kernel_rfl) ?_
    refine fl_ond 6 rfl rfl rfl rfl (v_load rfl (st.reads (v := .agg #[.slice l1 L.length k1, .slice l2 L.length k2]) 0 rfl TF.t30 (getV_all rfl))) rfl (by kernel_rfl) ?_
    refine fl_ond 7 rfl rfl rfl rfl (v_load rfl (st.reads (v := arr x) 1 rfl TF.t24 (getV_all (by rw [size_arr, hx])))) rfl (by kernel_rfl) ?_
    refine fl_eff1 5 [1, 0] [7, 6] (by kernel_rfl) ⟨obl_on rfl rfl rfl rfl rfl (v_load rfl (st.reads (v := arr x) 1 rfl TF.t24 (getV_all (by rw [size_arr, hx])))), obl_on rfl rfl rfl rfl rfl (v_load rfl (st.reads (v := .agg #[.slice l1 L.length k1, .slice l2 L.length k2]) 0 rfl TF.t30 (getV_all rfl))), obl_on rfl rfl rfl rfl rfl (v_load rfl (st.reads (v := arr x) 1 rfl TF.t24 (getV_all (by rw [size_arr, hx])))), trivial⟩ rfl ?_
    refine wl_on rfl rfl ?_
    refine wl_call rfl (c_tprove' st.im hp (by first | exact hAi | exact hx) hD (by omega)) rfl ?_
    rintro v25 w ⟨t25, m3, hg3, hi3, hq1⟩
    have st := st.grown hg3 t25 hi3
    have ha := ha.mono hg3.le
    have hp := hp.mono hg3.le
    have hl := hl.mono hg3.le
    refine wl_nil ⟨rfl, ?_⟩
    refine fl_eff1 8 [1, 0] [] (by kernel_rfl) ⟨obl_on rfl rfl rfl rfl rfl (v_load rfl (st.reads (v := arr x) 1 rfl TF.t24 (getV_all (by rw [size_arr, hx])))), obl_on rfl rfl rfl rfl rfl (v_load rfl (st.reads (v := .agg #[.slice l1 L.length k1, .slice l2 L.length k2]) 0 rfl TF.t30 (getV_all rfl))), trivial⟩ rfl ?_
    refine wl_on rfl rfl ?_
    refine wl_call rfl (c_rprove st.im hl (by first | exact hAi | exact hx) (by omega) (hD.ends (g := 256) (by omega))) rfl ?_
    rintro v28 w ⟨t28, m4, hg4, hi4, hq2⟩
    have st := st.grown hg4 t28 hi4
    have ha := ha.mono hg4.le
    have hp := hp.mono hg4.le
    have hl := hl.mono hg4.le
    have hq1 := hq1.mono hg4.le
    refine wl_nil ⟨rfl, ?_⟩
    refine fl_eff1 9 [1, 0] [] (by kernel_rfl) trivial rfl ?_
    refine wl_on rfl rfl ?_
    refine wl_call rfl (c_sameproof st.im hq1 hq2 (Nat.le_trans (length_prvS _ 256 0 L) (by omega))) rfl ?_
    rintro v29 w ⟨t29, rfl⟩
    have st := st.pure t29
    refine wl_nil ⟨rfl, ?_⟩
    refine fl_on 10 rfl rfl rfl rfl (fun _ => (v_not rfl)) rfl (by kernel_rfl) ?_
    refine fl_val 11 rfl (fun _ => (v_pick rfl)) rfl (by kernel_rfl) ?_
    refine fl_nil (by kernel_rfl) trivial ?_
    refine then_go ?_
    refine wc_false rfl ?_
    refine wc_skip ?_
    refine then_go ?_
    refine wc_seq ?_
    refine wc_seq ?_
    refine wc_region ?_
    refine wl_val (v_assign' (by conv => (lhs; whnf))) rfl ?_
    refine wl_nil ?_
    refine then_go ?_
    refine wc_block ?_
    refine wc_loop (S := Nat) (fun q r w' => ∃ (i : Nat) (m2 : Mem), q + i = A.length ∧ r 0 = .slice a1 A.length c1 ∧ r 7 = ptrP p ∧ r 8 = .pointer (some ⟨b8, 0, none⟩) ∧ r 9 = .int .i64 i ∧ DigM m2 (.slice a1 A.length c1) A ∧ TreeM m2 p (treeOf L) ∧ LvM m2 (.agg #[.slice l1 L.length k1, .slice l2 L.length k2]) L ∧
      St m m2 [] wI w' [K.blk b8 #[.slice l1 L.length k1, .slice l2 L.length k2] 30, K.blk b5 (arr x).cells 24]) id A.length ⟨0, _, by omega, rfl, rfl, rfl, rfl, ha, hp, hl, st⟩ ?_
    rintro q r w2 ⟨i, m2, hqi, g0, g7, g8, g9, ha, hp, hl, st⟩
    refine wc_o 0 g0 (wc_o 7 g7 (wc_o 8 g8 (wc_o 9 g9 ?_)))
    refine wc_seq ?_
    refine wc_seq ?_
    refine wc_region ?_
    refine wl_val (v_move' (by conv => (lhs; whnf))) rfl ?_
    refine wl_val (v_move' (by conv => (lhs; whnf))) rfl ?_
    refine wl_val (v_len_s Try.underlying22 rfl) rfl ?_
    refine wl_val (v_lss rfl rfl) rfl ?_
    refine wl_val (v_move' (by conv => (lhs; whnf))) rfl ?_
    by_cases hg4 : (i : Int) < (A.length : Int)
    · rw [show decide ((i : Int) < (A.length : Int)) = true from decide_eq_true hg4]
      refine wl_on rfl rfl ?_
      refine wl_val (v_move' (by conv => (lhs; whnf))) rfl ?_
      refine wl_on rfl rfl ?_
      refine wl_val (v_lss rfl rfl) rfl ?_
      refine wl_val (v_pick rfl) rfl ?_
      refine wl_nil ?_
      refine then_go ?_
      refine wc_if rfl (fun h39 => ?_) (fun h39 => ?_)
      · refine wc_skip ?_
        refine then_go ?_
        refine wc_seq ?_
        refine wc_block ?_
        refine wc_seq ?_
        have hi : i < A.length := by omega
        have hAi := ha.1.get hi
        obtain ⟨ba, oa, hba⟩ := ha.ptr (by omega)
        subst hba
        refine wc_draw TF.mixed ?_
        have st := st.pure (touch_drew _)
        refine fl_val 0 rfl (fun _ => (v_move' (by conv => (lhs; whnf)))) rfl (by kernel_rfl) ?_
        refine fl_val 1 rfl (fun _ => (v_move' (by conv => (lhs; whnf)))) rfl (by kernel_rfl) ?_
        refine fl_val 2 rfl (fun _ => (v_move' (by conv => (lhs; whnf)))) rfl (by kernel_rfl) ?_
        refine fl_val 3 rfl (fun _ => (v_ias i Try.underlying22 TF.t24 rfl rfl (by first | rfl | omega) (by first | omega | (dsimp only at *; omega)))) rfl (by kernel_rfl) ?_
        refine fl_ld 4 rfl (v_load rfl (ha.rd rfl hi rfl st.im)) (by kernel_rfl) ?_
        refine fl_ld 6 rfl (v_load rfl (st.reads (v := .agg #[.slice l1 L.length k1, .slice l2 L.length k2]) 0 rfl TF.t30 (getV_all rfl))) (by kernel_rfl) ?_
        refine fl_val 7 rfl (fun _ => (v_move' (by conv => (lhs; whnf)))) rfl (by kernel_rfl) ?_
        refine fl_val 8 rfl (fun _ => (v_move' (by conv => (lhs; whnf)))) rfl (by kernel_rfl) ?_
        refine fl_val 9 rfl (fun _ => (v_ias i Try.underlying22 TF.t24 rfl rfl (by first | rfl | omega) (by first | omega | (dsimp only at *; omega)))) rfl (by kernel_rfl) ?_
        refine fl_ld 10 rfl (v_load rfl (ha.rd rfl hi rfl st.im)) (by kernel_rfl) ?_
        refine fl_eff1 5 [9, 8, 7, 3, 2, 1] [10, 6] (by kernel_rfl) ⟨obl_ld rfl rfl rfl (v_load rfl (ha.rd rfl hi rfl st.im)), obl_ld rfl rfl rfl (v_load rfl (st.reads (v := .agg #[.slice l1 L.length k1, .slice l2 L.length k2]) 0 rfl TF.t30 (getV_all rfl))), obl_ld rfl rfl rfl (v_load rfl (ha.rd rfl hi rfl st.im)), trivial⟩ rfl ?_
        refine wl_call rfl (c_tprove' st.im hp (by first | exact hAi | exact hx) hD (by omega)) rfl ?_
        rintro v25 w ⟨t25, m3, hg3, hi3, hq1⟩
        have st := st.grown hg3 t25 hi3
        have ha := ha.mono hg3.le
        have hp := hp.mono hg3.le
        have hl := hl.mono hg3.le
        refine wl_nil ⟨rfl, ?_⟩
        refine fl_eff1 11 [9, 8, 7, 3, 2, 1] [] (by kernel_rfl) ⟨obl_ld rfl rfl rfl (v_load rfl (ha.rd rfl hi rfl st.im)), obl_ld rfl rfl rfl (v_load rfl (st.reads (v := .agg #[.slice l1 L.length k1, .slice l2 L.length k2]) 0 rfl TF.t30 (getV_all rfl))), trivial⟩ rfl ?_
        refine wl_call rfl (c_rprove st.im hl (by first | exact hAi | exact hx) (by omega) (hD.ends (g := 256) (by omega))) rfl ?_
        rintro v28 w ⟨t28, m4, hg4, hi4, hq2⟩
        have st := st.grown hg4 t28 hi4
        have ha := ha.mono hg4.le
        have hp := hp.mono hg4.le
        have hl := hl.mono hg4.le
        have hq1 := hq1.mono hg4.le
        refine wl_nil ⟨rfl, ?_⟩
        refine fl_eff1 12 [9, 8, 7, 3, 2, 1] [] (by kernel_rfl) trivial rfl ?_
        refine wl_call rfl (c_sameproof st.im hq1 hq2 (Nat.le_trans (length_prvS _ 256 0 L) (by omega))) rfl ?_
        rintro v29 w ⟨t29, rfl⟩
        have st := st.pure t29
        refine wl_nil ⟨rfl, ?_⟩
        refine fl_val 13 rfl (fun _ => (v_not rfl)) rfl (by kernel_rfl) ?_
        refine fl_nil (by kernel_rfl) trivial ?_
        refine then_go ?_
        refine wc_false rfl ?_
        refine wc_skip ?_
        refine block_go (then_go ?_)
        refine wc_region ?_
        refine wl_val (v_move' (by conv => (lhs; whnf))) rfl ?_
        refine wl_val (v_add' rfl rfl rfl (by first | omega | (dsimp only at *; omega)) (by first | omega | (dsimp only at *; omega))) rfl ?_
        refine wl_val (v_assign' (by conv => (lhs; whnf))) rfl ?_
        refine wl_nil ?_
        refine then_go ?_
        exact ⟨q - 1, by simp; omega, i + 1, _, by omega, rfl, rfl, rfl, rfl, ha, hp, hl, st⟩
      · refine wc_exit (then_exit (then_exit (block_hit ?_)))
        refine then_go ?_
        refine wc_seq ?_
        refine wc_region ?_
        refine wl_call rfl (c_works st.im) rfl ?_
        rintro v18 w ⟨t18, rfl⟩
        have st := st.pure t18
        refine wl_val (v_assign' (by conv => (lhs; whnf))) rfl ?_
        refine wl_nil ?_
        refine then_go ?_
        refine wc_ret ?_
        exact ret1 rfl ⟨(st.keepOnly (l := []) (List.nil_sublist _)).touch, rfl⟩
    · rw [show decide ((i : Int) < (A.length : Int)) = false from decide_eq_false hg4]
      refine wl_off rfl rfl rfl rfl ?_
      refine wl_off rfl rfl rfl rfl ?_
      refine wl_val (v_pick rfl) rfl ?_
      refine wl_nil ?_
      refine then_go ?_
      refine wc_false rfl ?_
      refine wc_exit (then_exit (then_exit (block_hit ?_)))
      refine then_go ?_
      refine wc_seq ?_
      refine wc_region ?_
      refine wl_call rfl (c_works st.im) rfl ?_
      rintro v18 w ⟨t18, rfl⟩
      have st := st.pure t18
      refine wl_val (v_assign' (by conv => (lhs; whnf))) rfl ?_
      refine wl_nil ?_
      refine then_go ?_
      refine wc_ret ?_
      exact ret1 rfl ⟨(st.keepOnly (l := []) (List.nil_sublist _)).touch, rfl⟩
end
end Go.Proofs.Ytkbmhhbclbgdpaa
