/-
  TreeAgain answers true.
-/
import Derived.Test.YtkbmhhbclbgdpaaUt
namespace Go.Proofs.Ytkbmhhbclbgdpaa
open Go Go.RowKit K SH PT

section
variable {m : Mem} {wI : World}

theorem c_f7 {va vv : Value} {A V : List By} {x v u : By} (him : Im m wI) (ha : DigM m va A) (hv : DigM m vv V) (hx : x.length = 32) (hvl : v.length = 32) (hu : u.length = 32) :
    Ret Try.prog 7 #[va, vv, arr x, arr v, arr u] wI fun v w' => Tch wI w' [] [] ∧ v = .bool true := by
  have st := St.start him
  obtain ⟨a1, c1, rfl⟩ := ha.sl
  obtain ⟨a2, c2, rfl⟩ := hv.sl
  obtain ⟨hD, _⟩ := ofLv_dst (Z := A.zip V) fun x hx => (d32_zip ha.1 hv.1 x hx).1
  have hLl := length_ofLv (A.zip V)
  have hzl : (A.zip V).length ≤ A.length := by simp; omega
  generalize hL : ofLv (A.zip V) = L at hD hLl
  have hDa := hD.put (v := v) hx
  have hUa : (putL x v L).length ≤ L.length + 1 := by have := length_putG (x := x) (v := v) (l := L) (b := false); simpa [putL] using this
  have e1 : treeOf (putL x v (putL x v L)) = treeOf (putL x v L) := canon_perm put_put
  have e2 : treeOf (putL x u (putL x v L)) = treeOf (putL x u L) := canon_perm put_put
  refine ret_of Try.call7 Try.func7 rfl Try.ntmps7 Try.results7 rfl ?_
  refine wc_seq ?_
  refine wc_region ?_
  refine wl_box (v := arr x) rfl st rfl ?_
  intro b7 w st
  refine wl_box (v := arr v) rfl st rfl ?_
  intro b8 w st
  refine wl_box (v := arr u) rfl st rfl ?_
  intro b9 w st
  refine wl_val (v_assign' (by conv => (lhs; whnf))) rfl ?_
  refine wl_nil ?_
  refine then_go ?_
  refine wc_seq ?_
  refine wc_seq ?_
  refine wc_region ?_
  refine wl_val (v_move' (by conv => (lhs; whnf))) rfl ?_
  refine wl_call rfl (c_few st.im ha) rfl ?_
  rintro v16 w ⟨t16, rfl⟩
  have st := st.pure t16
  refine wl_val (v_not rfl) rfl ?_
  refine wl_nil ?_
  refine then_go ?_
  refine wc_cond rfl (fun h18 => ?_) (fun h18 => ?_)
  · refine wc_seq ?_
    refine wc_region ?_
    refine wl_call rfl (c_works st.im) rfl ?_
    rintro v18 w ⟨t18, rfl⟩
    have st := st.pure t18
    refine wl_val (v_assign' (by conv => (lhs; whnf))) rfl ?_
    refine wl_nil ?_
    refine then_go ?_
    refine wc_ret (then_ret ?_)
    exact ret1 rfl ⟨(st.keepOnly (l := []) (List.nil_sublist _)).touch, rfl⟩
  · refine wc_skip ?_
    refine then_go ?_
    refine wc_seq ?_
    refine wc_region ?_
    refine wl_val (v_move' (by conv => (lhs; whnf))) rfl ?_
    refine wl_val (v_move' (by conv => (lhs; whnf))) rfl ?_
    have hA60 : A.length ≤ 60 := by simp at h18; omega
    refine wl_call rfl (c_tof' st.im ha hv hA60) rfl ?_
    rintro v21 w ⟨t21, m1, hg1, hi1, p, rfl, hp⟩
    have st := st.grown hg1 t21 hi1
    rw [hL] at hp
    refine wl_val (v_assign' (by conv => (lhs; whnf))) rfl ?_
    refine wl_nil ?_
    refine then_go ?_
    refine wc_seq ?_
    refine wc_seq ?_
    refine wc_region ?_
    refine wl_val (v_move' (by conv => (lhs; whnf))) rfl ?_
    refine wl_val (v_eq_nil (p := some ⟨p, 0, none⟩) Try.underlying27 rfl rfl) rfl ?_
    refine wl_nil ?_
    refine then_go ?_
    refine wc_false rfl ?_
    refine wc_skip ?_
    refine then_go ?_
    refine wc_seq ?_
    refine wc_draw TF.mixed ?_
    have st := st.pure (touch_drew _)
    refine fl_val 0 rfl (fun _ => (v_move' (by conv => (lhs; whnf)))) rfl (by kernel_rfl) ?_
    refine fl_ld 1 rfl (v_load rfl (st.reads (v := arr x) 2 rfl TF.t24 (getV_all (by rw [size_arr, hx])))) (by kernel_rfl) ?_
    refine fl_ld 2 rfl (v_load rfl (st.reads (v := arr v) 1 rfl TF.t24 (getV_all (by rw [size_arr, hvl])))) (by kernel_rfl) ?_
    refine fl_val 4 rfl (fun _ => (v_move' (by conv => (lhs; whnf)))) rfl (by kernel_rfl) ?_
    refine fl_ld 5 rfl (v_load rfl (st.reads (v := arr x) 2 rfl TF.t24 (getV_all (by rw [size_arr, hx])))) (by kernel_rfl) ?_
    refine fl_ld 6 rfl (v_load rfl (st.reads (v := arr u) 0 rfl TF.t24 (getV_all (by rw [size_arr, hu])))) (by kernel_rfl) ?_
    refine fl_eff1 3 [4] [6, 5] (by kernel_rfl) ⟨obl_ld rfl rfl rfl (v_load rfl (st.reads (v := arr u) 0 rfl TF.t24 (getV_all (by rw [size_arr, hu])))), obl_ld rfl rfl rfl (v_load rfl (st.reads (v := arr x) 2 rfl TF.t24 (getV_all (by rw [size_arr, hx])))), obl_ld rfl rfl rfl (v_load rfl (st.reads (v := arr v) 1 rfl TF.t24 (getV_all (by rw [size_arr, hvl])))), obl_ld rfl rfl rfl (v_load rfl (st.reads (v := arr x) 2 rfl TF.t24 (getV_all (by rw [size_arr, hx])))), trivial⟩ rfl ?_
    refine wl_call rfl (c_tput' st.im hp hx hvl hD (by omega)) rfl ?_
    rintro v28 w ⟨t28, m2, hg2, hi2, qa, rfl, ha⟩
    have st := st.grown hg2 t28 hi2
    have hp := hp.mono hg2.le
    refine wl_nil ⟨rfl, ?_⟩
    refine fl_eff1 7 [] [] (by kernel_rfl) ⟨obl_ld rfl rfl rfl (v_load rfl (st.reads (v := arr u) 0 rfl TF.t24 (getV_all (by rw [size_arr, hu])))), obl_ld rfl rfl rfl (v_load rfl (st.reads (v := arr x) 2 rfl TF.t24 (getV_all (by rw [size_arr, hx])))), trivial⟩ rfl ?_
    refine wl_call rfl (c_tput' st.im hp hx hu hD (by omega)) rfl ?_
    rintro v32 w ⟨t32, m3, hg3, hi3, qb, rfl, hb⟩
    have st := st.grown hg3 t32 hi3
    have ha := ha.mono hg3.le
    refine wl_nil ⟨rfl, ?_⟩
    refine fl_eff1 8 [] [] (by kernel_rfl) trivial rfl ?_
    refine wl_val (v_assign' (by conv => (lhs; whnf))) rfl ?_
    refine wl_nil ⟨rfl, ?_⟩
    refine fl_eff1 9 [] [] (by kernel_rfl) trivial rfl ?_
    refine wl_val (v_assign' (by conv => (lhs; whnf))) rfl ?_
    refine wl_nil ⟨rfl, ?_⟩
    refine fl_nil (by kernel_rfl) trivial ?_
    refine then_go ?_
    refine wc_seq ?_
    refine wc_seq ?_
    refine wc_region ?_
    refine wl_val (v_move' (by conv => (lhs; whnf))) rfl ?_
    refine wl_val (v_eq_nil (p := some ⟨qa, 0, none⟩) Try.underlying27 rfl rfl) rfl ?_
    refine wl_val (v_move' (by conv => (lhs; whnf))) rfl ?_
    refine wl_on rfl rfl ?_
    refine wl_val (v_move' (by conv => (lhs; whnf))) rfl ?_
    refine wl_on rfl rfl ?_
    refine wl_val (v_eq_nil (p := some ⟨qb, 0, none⟩) Try.underlying27 rfl rfl) rfl ?_
    refine wl_val (v_pick rfl) rfl ?_
    refine wl_nil ?_
    refine then_go ?_
    refine wc_false rfl ?_
    refine wc_skip ?_
    refine then_go ?_
    refine wc_seq ?_
    refine wc_draw TF.mixed ?_
    have st := st.pure (touch_drew _)
    refine fl_val 0 rfl (fun _ => (v_move' (by conv => (lhs; whnf)))) rfl (by kernel_rfl) ?_
    refine fl_ld 1 rfl (v_load rfl (st.reads (v := arr x) 2 rfl TF.t24 (getV_all (by rw [size_arr, hx])))) (by kernel_rfl) ?_
    refine fl_ld 2 rfl (v_load rfl (st.reads (v := arr v) 1 rfl TF.t24 (getV_all (by rw [size_arr, hvl])))) (by kernel_rfl) ?_
    refine fl_val 4 rfl (fun _ => (v_move' (by conv => (lhs; whnf)))) rfl (by kernel_rfl) ?_
    refine fl_ld 5 rfl (v_load rfl (st.reads (v := arr x) 2 rfl TF.t24 (getV_all (by rw [size_arr, hx])))) (by kernel_rfl) ?_
    refine fl_ld 6 rfl (v_load rfl (st.reads (v := arr u) 0 rfl TF.t24 (getV_all (by rw [size_arr, hu])))) (by kernel_rfl) ?_
    refine fl_eff1 3 [4] [6, 5] (by kernel_rfl) ⟨obl_ld rfl rfl rfl (v_load rfl (st.reads (v := arr u) 0 rfl TF.t24 (getV_all (by rw [size_arr, hu])))), obl_ld rfl rfl rfl (v_load rfl (st.reads (v := arr x) 2 rfl TF.t24 (getV_all (by rw [size_arr, hx])))), obl_ld rfl rfl rfl (v_load rfl (st.reads (v := arr v) 1 rfl TF.t24 (getV_all (by rw [size_arr, hvl])))), obl_ld rfl rfl rfl (v_load rfl (st.reads (v := arr x) 2 rfl TF.t24 (getV_all (by rw [size_arr, hx])))), trivial⟩ rfl ?_
    refine wl_call rfl (c_tput' st.im ha hx hvl hDa (by omega)) rfl ?_
    rintro v42 w ⟨t42, m4, hg4, hi4, qc, rfl, hc⟩
    have st := st.grown hg4 t42 hi4
    have ha := ha.mono hg4.le
    have hb := hb.mono hg4.le
    rw [e1] at hc
    refine wl_nil ⟨rfl, ?_⟩
    refine fl_eff1 7 [] [] (by kernel_rfl) ⟨obl_ld rfl rfl rfl (v_load rfl (st.reads (v := arr u) 0 rfl TF.t24 (getV_all (by rw [size_arr, hu])))), obl_ld rfl rfl rfl (v_load rfl (st.reads (v := arr x) 2 rfl TF.t24 (getV_all (by rw [size_arr, hx])))), trivial⟩ rfl ?_
    refine wl_call rfl (c_tput' st.im ha hx hu hDa (by omega)) rfl ?_
    rintro v46 w ⟨t46, m5, hg5, hi5, qd, rfl, hd⟩
    have st := st.grown hg5 t46 hi5
    have ha := ha.mono hg5.le
    have hb := hb.mono hg5.le
    have hc := hc.mono hg5.le
    rw [e2] at hd
    refine wl_nil ⟨rfl, ?_⟩
    refine fl_eff1 8 [] [] (by kernel_rfl) trivial rfl ?_
    refine wl_val (v_assign' (by conv => (lhs; whnf))) rfl ?_
    refine wl_nil ⟨rfl, ?_⟩
    refine fl_eff1 9 [] [] (by kernel_rfl) trivial rfl ?_
    refine wl_val (v_assign' (by conv => (lhs; whnf))) rfl ?_
    refine wl_nil ⟨rfl, ?_⟩
    refine fl_nil (by kernel_rfl) trivial ?_
    refine then_go ?_
    refine wc_seq ?_
    refine wc_region ?_
    refine wl_val (v_move' (by conv => (lhs; whnf))) rfl ?_
    refine wl_val (v_ne_nil (p := some ⟨qc, 0, none⟩) Try.underlying27 rfl rfl) rfl ?_
    refine wl_val (v_move' (by conv => (lhs; whnf))) rfl ?_
    refine wl_on rfl rfl ?_
    refine wl_val (v_move' (by conv => (lhs; whnf))) rfl ?_
    refine wl_on rfl rfl ?_
    refine wl_val (v_ne_nil (p := some ⟨qd, 0, none⟩) Try.underlying27 rfl rfl) rfl ?_
    refine wl_val (v_pick rfl) rfl ?_
    refine wl_val (v_move' (by conv => (lhs; whnf))) rfl ?_
    refine wl_on rfl rfl ?_
    refine wl_val (v_move' (by conv => (lhs; whnf))) rfl ?_
    refine wl_on rfl rfl ?_
    refine wl_call rfl (by first | exact c_troot st.im ha | exact c_troot st.im hb | exact c_troot st.im hc | exact c_troot st.im hd) rfl ?_
    rintro v31 w ⟨t31, rfl⟩
    have st := st.pure t31
    refine wl_on rfl rfl ?_
    refine wl_val (v_move' (by conv => (lhs; whnf))) rfl ?_
    refine wl_on rfl rfl ?_
    refine wl_call rfl (by first | exact c_troot st.im ha | exact c_troot st.im hb | exact c_troot st.im hc | exact c_troot st.im hd) rfl ?_
    rintro v31 w ⟨t31, rfl⟩
    have st := st.pure t31
    refine wl_on rfl rfl ?_
    refine wl_val (v_eqDT rfl rfl (length_root _)) rfl ?_
    refine wl_val (v_pick rfl) rfl ?_
    refine wl_val (v_move' (by conv => (lhs; whnf))) rfl ?_
    refine wl_on rfl rfl ?_
    refine wl_val (v_move' (by conv => (lhs; whnf))) rfl ?_
    refine wl_on rfl rfl ?_
    refine wl_call rfl (by first | exact c_tlen st.im ha | exact c_tlen st.im hb | exact c_tlen st.im hc | exact c_tlen st.im hd) rfl ?_
    rintro v33 w ⟨t33, rfl⟩
    have st := st.pure t33
    refine wl_on rfl rfl ?_
    refine wl_val (v_move' (by conv => (lhs; whnf))) rfl ?_
    refine wl_on rfl rfl ?_
    refine wl_call rfl (by first | exact c_tlen st.im ha | exact c_tlen st.im hb | exact c_tlen st.im hc | exact c_tlen st.im hd) rfl ?_
    rintro v33 w ⟨t33, rfl⟩
    have st := st.pure t33
    refine wl_on rfl rfl ?_
    refine wl_val (v_eqlT (a := ((treeOf (putL x v L)).n : Int)) rfl rfl rfl) rfl ?_
    refine wl_val (v_pick rfl) rfl ?_
    refine wl_val (v_move' (by conv => (lhs; whnf))) rfl ?_
    refine wl_on rfl rfl ?_
    refine wl_val (v_move' (by conv => (lhs; whnf))) rfl ?_
    refine wl_on rfl rfl ?_
    refine wl_call rfl (by first | exact c_troot st.im ha | exact c_troot st.im hb | exact c_troot st.im hc | exact c_troot st.im hd) rfl ?_
    rintro v31 w ⟨t31, rfl⟩
    have st := st.pure t31
    refine wl_on rfl rfl ?_
    refine wl_val (v_move' (by conv => (lhs; whnf))) rfl ?_
    refine wl_on rfl rfl ?_
    refine wl_call rfl (by first | exact c_troot st.im ha | exact c_troot st.im hb | exact c_troot st.im hc | exact c_troot st.im hd) rfl ?_
    rintro v31 w ⟨t31, rfl⟩
    have st := st.pure t31
    refine wl_on rfl rfl ?_
    refine wl_val (v_eqDT rfl rfl (length_root _)) rfl ?_
    refine wl_val (v_pick rfl) rfl ?_
    refine wl_val (v_move' (by conv => (lhs; whnf))) rfl ?_
    refine wl_on rfl rfl ?_
    refine wl_val (v_move' (by conv => (lhs; whnf))) rfl ?_
    refine wl_on rfl rfl ?_
    refine wl_call rfl (by first | exact c_tlen st.im ha | exact c_tlen st.im hb | exact c_tlen st.im hc | exact c_tlen st.im hd) rfl ?_
    rintro v33 w ⟨t33, rfl⟩
    have st := st.pure t33
    refine wl_on rfl rfl ?_
    refine wl_val (v_move' (by conv => (lhs; whnf))) rfl ?_
    refine wl_on rfl rfl ?_
    refine wl_call rfl (by first | exact c_tlen st.im ha | exact c_tlen st.im hb | exact c_tlen st.im hc | exact c_tlen st.im hd) rfl ?_
    rintro v33 w ⟨t33, rfl⟩
    have st := st.pure t33
    refine wl_on rfl rfl ?_
    refine wl_val (v_eqlT (a := ((treeOf (putL x u L)).n : Int)) rfl rfl rfl) rfl ?_
    refine wl_val (v_pick rfl) rfl ?_
    refine wl_val (v_move' (by conv => (lhs; whnf))) rfl ?_
    refine wl_on rfl rfl ?_
    refine wl_call rfl (c_works st.im) rfl ?_
    rintro v18 w ⟨t18, rfl⟩
    have st := st.pure t18
    refine wl_val (v_pick rfl) rfl ?_
    refine wl_val (v_assign' (by conv => (lhs; whnf))) rfl ?_
    refine wl_nil ?_
    refine then_go ?_
    refine wc_ret ?_
    exact ret1 rfl ⟨(st.keepOnly (l := []) (List.nil_sublist _)).touch, rfl⟩
end
end Go.Proofs.Ytkbmhhbclbgdpaa
