/-
  The law DiskLoads.
-/
import Derived.Test.YtekhcjgmgflmkaaDk
namespace Go.Proofs.Ytekhcjgmgflmkaa
open Go Go.RowKit K DK

section
variable {m : Mem} {wI : World}

theorem l_loads {n : Int} {bv : Value} {l : By} (him : Im m wI) (hv : SlM m bv 1 l.length (bs l)) : Ret Try.prog 3 #[bv, .int .i64 n] wI fun v w' => Tch wI w' [] [] ∧ v = .bool true := by
  have st := St.start him
  have hv0 := hv
  obtain ⟨hvl, va, vc, rfl, hvk, hv1⟩ := hv
  by_cases h0 : loadE l = 0
  · clear hv1
    refine ret_of Try.call3 Try.func3 rfl Try.ntmps3 Try.results3 rfl ?_
    refine wc_seq ?_
    refine wc_region ?_
    refine wl_val (v_assign' (by conv => (lhs; whnf))) rfl ?_
    refine wl_nil ?_
    refine then_go ?_
    refine wc_seq ?_
    refine wc_seq ?_
    refine wc_region ?_
    refine wl_val (v_move' (by conv => (lhs; whnf))) rfl ?_
    refine wl_val (v_len_s Try.underlying22 rfl) rfl ?_
    refine wl_val (v_gtr rfl rfl) rfl ?_
    refine wl_nil ?_
    refine then_go ?_
    refine wc_if rfl (fun h14 => ?_) (fun h14 => ?_)
    · refine wc_seq ?_
      refine wc_region ?_
      refine wl_call rfl (c_works st.im) rfl ?_
      rintro v65 w ⟨t, rfl⟩
      have st := st.pure t
      refine wl_val (v_assign' (by conv => (lhs; whnf))) rfl ?_
      refine wl_nil ?_
      refine then_go ?_
      refine wc_ret (then_ret ?_)
      exact ret1 rfl ⟨(st.keepOnly (l := []) (List.nil_sublist _)).touch, rfl⟩
    · refine wc_skip ?_
      refine then_go ?_
      refine wc_seq ?_
      refine wc_region ?_
      refine wl_val (v_move' (by conv => (lhs; whnf))) rfl ?_
      refine wl_call rfl (c_load st.im hv0 (by omega)) rfl ?_
      intro v18 w hR
      rw [if_neg (by simp [h0])] at hR
      obtain ⟨_, ⟨b, s, wv, rfl, t, hE⟩, rfl⟩ := hR
      have st := st.new t hE
      refine wl_val (v_move' (by conv => (lhs; whnf))) rfl ?_
      refine wl_val (v_extract rfl rfl) rfl ?_
      refine wl_val (v_extract rfl rfl) rfl ?_
      refine wl_val (v_assign' (by conv => (lhs; whnf))) rfl ?_
      refine wl_val (v_assign' (by conv => (lhs; whnf))) rfl ?_
      refine wl_nil ?_
      refine then_go ?_
      refine wc_seq ?_
      refine wc_region ?_
      refine wl_val (v_move' (by conv => (lhs; whnf))) rfl ?_
      refine wl_call rfl (c_rload st.im hv0 (by omega)) rfl ?_
      rintro v23 w ⟨t, m2, hg2, hi2, rv, rfl, _, hR⟩
      have hR := hR h0
      obtain ⟨sv, wtv, rfl, hs, hw, hso, hwo⟩ := refM_agg hR
      have st := st.grown hg2 t hi2
      rw [h0]
      refine wl_val (v_move' (by conv => (lhs; whnf))) rfl ?_
      refine wl_val (v_extract rfl rfl) rfl ?_
      refine wl_val (v_extract rfl rfl) rfl ?_
      refine wl_alloc TF.z30 st rfl ?_
      intro b7 w st
      refine wl_storeW (cs := #[sv, wtv, .int .i64 (-1), .bool false]) 0 st rfl TF.t30 rfl rfl rfl rfl (by simp [hso, hwo, one_int, one_bool]) ?_
      intro w st
      refine wl_val (v_assign' (by conv => (lhs; whnf))) rfl ?_
      refine wl_nil ?_
      refine then_go ?_
      refine wc_seq ?_
      refine wc_seq ?_
      refine wc_region ?_
      refine wl_val (v_move' (by conv => (lhs; whnf))) rfl ?_
      refine wl_val (v_move' (by conv => (lhs; whnf))) rfl ?_
      refine wl_val (v_neq rfl rfl) rfl ?_
      refine wl_val (v_move' (by conv => (lhs; whnf))) rfl ?_
      refine wl_on rfl rfl ?_
      refine wl_val (v_move' (by conv => (lhs; whnf))) rfl ?_
      refine wl_on rfl rfl ?_
      refine wl_val (v_eq_nil Try.underlying24 rfl rfl) rfl ?_
      refine wl_on rfl rfl ?_
      refine wl_val (v_move' (by conv => (lhs; whnf))) rfl ?_
      refine wl_on rfl rfl ?_
      refine wl_val (v_neq rfl rfl) rfl ?_
      refine wl_on rfl rfl ?_
      refine wl_val (v_neb Try.underlying4 rfl rfl) rfl ?_
      refine wl_val (v_pick rfl) rfl ?_
      refine wl_nil ?_
      refine then_go ?_
      refine wc_false rfl ?_
      refine wc_skip ?_
      refine then_go ?_
      refine wc_seq ?_
      refine wc_seq ?_
      refine wc_draw TF.mixed ?_
      have st := st.pure (touch_drew _)
      refine fl_val 0 rfl (fun _ => (v_move' (by conv => (lhs; whnf)))) rfl (by kernel_rfl) ?_
      refine fl_val 1 rfl (fun _ => (v_ne_nil Try.underlying24 rfl rfl)) rfl (by kernel_rfl) ?_
      refine fl_val 2 rfl (fun _ => (v_move' (by conv => (lhs; whnf)))) rfl (by kernel_rfl) ?_
      refine fl_on 3 rfl rfl rfl rfl (fun _ => (v_move' (by conv => (lhs; whnf)))) rfl (by kernel_rfl) ?_
      refine fl_on 5 rfl rfl rfl rfl (fun _ => (v_fa TF.f30_0 rfl)) rfl (by kernel_rfl) ?_
      refine fl_ond 6 rfl rfl rfl rfl (v_load rfl (st.reads 0 rfl TF.t22 rfl)) rfl (by kernel_rfl) ?_
      refine fl_eff1 4 [5, 1, 0] [6] (by kernel_rfl) ⟨obl_on rfl rfl rfl rfl rfl (v_load rfl (st.reads 0 rfl TF.t22 rfl)), trivial⟩ rfl ?_
      refine wl_on rfl rfl ?_
      refine wl_call rfl (c_dump (im_heapM _) (diskAt 1 st rfl hR.ok)) rfl ?_
      rintro v40 w ⟨t, m4, hfr, him4, hs4⟩
      obtain ⟨m5, hle3, hle4, st⟩ := st.absorb t hfr him4
      refine wl_nil ⟨rfl, ?_⟩
      refine fl_eff1 7 [5, 1, 0] [] (by kernel_rfl) ⟨obl_on rfl rfl rfl rfl rfl (v_load rfl (st.reads 0 rfl TF.t22 rfl)), trivial⟩ rfl ?_
      refine wl_on rfl rfl ?_
      refine wl_call rfl (c_same st.im (hs4.mono hle4) (hs.mono hle3)) rfl ?_
      rintro v43 w ⟨rfl, rfl⟩
      rw [show decide (dump ⟨l, [], -1, false⟩ = l) = true from decide_eq_true rfl]
      refine wl_nil ⟨rfl, ?_⟩
      refine fl_on 8 rfl rfl rfl rfl (fun _ => (v_not rfl)) rfl (by kernel_rfl) ?_
      refine fl_on 9 rfl rfl rfl rfl (fun _ => (v_move' (by conv => (lhs; whnf)))) rfl (by kernel_rfl) ?_
      refine fl_on 10 rfl rfl rfl rfl (fun _ => (v_move' (by conv => (lhs; whnf)))) rfl (by kernel_rfl) ?_
      refine fl_on 12 rfl rfl rfl rfl (fun _ => (v_move' (by conv => (lhs; whnf)))) rfl (by kernel_rfl) ?_
      refine fl_on 13 rfl rfl rfl rfl (fun _ => (v_len_s Try.underlying22 rfl)) rfl (by kernel_rfl) ?_
      refine fl_on 14 rfl rfl rfl rfl (fun _ => (v_quo' (c := ((l.length / 64 : Nat) : Int)) rfl rfl (by omega) (by omega) (by omega) (by omega))) rfl (by kernel_rfl) ?_
      refine fl_eff1 11 [14, 13, 12, 8, 5, 1, 0] [] (by kernel_rfl) trivial rfl ?_
      refine wl_on rfl rfl ?_
      refine wl_call rfl (c_size (im_heapM _) (diskAt 1 st rfl hR.ok)) rfl ?_
      rintro v47 w ⟨rfl, rfl⟩
      refine wl_nil ⟨rfl, ?_⟩
      refine fl_on 15 rfl rfl rfl rfl (fun _ => (v_neq rfl rfl)) rfl (by kernel_rfl) ?_
      rw [show decide (¬ ((l.length / 64 : Nat) : Int) = ((l.length / 64 : Nat) : Int)) = false from decide_eq_false (fun h => h rfl)]
      refine fl_on 16 rfl rfl rfl rfl (fun _ => (v_pick rfl)) rfl (by kernel_rfl) ?_
      refine fl_on 17 rfl rfl rfl rfl (fun _ => (v_move' (by conv => (lhs; whnf)))) rfl (by kernel_rfl) ?_
      refine fl_on 18 rfl rfl rfl rfl (fun _ => (v_move' (by conv => (lhs; whnf)))) rfl (by kernel_rfl) ?_
      refine fl_eff1 19 [16, 15, 14, 13, 12, 8, 5, 1, 0] [] (by kernel_rfl) trivial rfl ?_
      refine wl_on rfl rfl ?_
      refine wl_call rfl (c_pending (im_heapM _) (diskAt 1 st rfl hR.ok)) rfl ?_
      rintro v55 w ⟨rfl, rfl⟩
      refine wl_nil ⟨rfl, ?_⟩
      refine fl_on 20 rfl rfl rfl rfl (fun _ => (v_neq rfl rfl)) rfl (by kernel_rfl) ?_
      refine fl_on 21 rfl rfl rfl rfl (fun _ => (v_pick rfl)) rfl (by kernel_rfl) ?_
      refine fl_val 22 rfl (fun _ => (v_pick rfl)) rfl (by kernel_rfl) ?_
      refine fl_nil (by kernel_rfl) trivial ?_
      refine then_go ?_
      refine wc_false rfl ?_
      refine wc_skip ?_
      refine then_go ?_
      refine wc_cut (fun r w' => w' = w ∧ r 1 = .int .i64 n) ?_ ?_
      · refine wc_seq ?_
        refine wc_region ?_
        refine wl_val (v_move' (by conv => (lhs; whnf))) rfl ?_
        refine wl_val (v_gtr rfl rfl) rfl ?_
        refine wl_val (v_move' (by conv => (lhs; whnf))) rfl ?_
        by_cases hg2 : n > 300
        · rw [show decide (n > 300) = true from decide_eq_true hg2]
          refine wl_on rfl rfl ?_
          refine wl_val (v_move' (by conv => (lhs; whnf))) rfl ?_
          refine wl_on rfl rfl ?_
          refine wl_val (v_leq rfl rfl) rfl ?_
          refine wl_val (v_pick rfl) rfl ?_
          refine wl_nil ?_
          refine then_go ?_
          refine wc_if rfl (fun h64 => ?_) (fun h64 => ?_)
          · refine wc_seq ?_
            refine wc_region ?_
            refine wl_call rfl (c_works st.im) rfl ?_
            rintro v65 w ⟨t, rfl⟩
            have st := st.pure t
            refine wl_val (v_assign' (by conv => (lhs; whnf))) rfl ?_
            refine wl_nil ?_
            refine then_go ?_
            refine wc_ret (then_ret ?_)
            exact ret1 rfl ⟨(st.keepOnly (l := []) (List.nil_sublist _)).touch, rfl⟩
          · refine wc_skip ?_
            refine then_go ?_
            exact ⟨rfl, rfl⟩
        · rw [show decide (n > 300) = false from decide_eq_false hg2]
          refine wl_off rfl rfl rfl rfl ?_
          refine wl_off rfl rfl rfl rfl ?_
          refine wl_val (v_pick rfl) rfl ?_
          refine wl_nil ?_
          refine then_go ?_
          refine wc_false rfl ?_
          refine wc_skip ?_
          refine then_go ?_
          exact ⟨rfl, rfl⟩
      · rintro r w ⟨rfl, h1⟩
        refine wc_o 1 h1 ?_
        refine wc_seq ?_
        refine wc_region ?_
        refine wl_val (v_move' (by conv => (lhs; whnf))) rfl ?_
        refine wl_call rfl (c_new n st.im) rfl ?_
        intro v68 w hR
        have hbd : ∃ bd : Bool, bd = decide (n < 1 ∨ n > 16384) := ⟨_, rfl⟩
        obtain ⟨bd, hbd⟩ := hbd
        obtain ⟨oa, e, rfl, he, hoa, t⟩ : ∃ oa e, v68 = .tuple #[.pointer oa, .int .i64 e] ∧ e = (if bd then 2 else 0) ∧ oa.isNone = bd ∧ Tch _ w [] [] := by
          split at hR
          · rename_i hc
            have : bd = true := by rw [hbd]; exact decide_eq_true hc
            exact ⟨none, 2, hR.2, by rw [this]; rfl, by rw [this]; rfl, hR.1⟩
          · rename_i hc
            have : bd = false := by rw [hbd]; exact decide_eq_false hc
            obtain ⟨p, ⟨b', s', wv', rfl, t', _⟩, h2⟩ := hR
            exact ⟨_, 0, h2, by rw [this]; rfl, by rw [this]; rfl, pure_of_new t'⟩
        have st := st.pure t
        refine wl_val (v_move' (by conv => (lhs; whnf))) rfl ?_
        refine wl_val (v_extract rfl rfl) rfl ?_
        refine wl_val (v_extract rfl rfl) rfl ?_
        refine wl_val (v_assign' (by conv => (lhs; whnf))) rfl ?_
        refine wl_val (v_assign' (by conv => (lhs; whnf))) rfl ?_
        refine wl_nil ?_
        refine then_go ?_
        refine wc_cut (fun r w' => w' = w ∧ r 9 = .pointer oa ∧ r 10 = .int .i64 e ∧ r 11 = .bool bd) ?_ ?_
        · refine wc_region ?_
          refine wl_val (v_move' (by conv => (lhs; whnf))) rfl ?_
          refine wl_val (v_lss rfl rfl) rfl ?_
          refine wl_val (v_move' (by conv => (lhs; whnf))) rfl ?_
          by_cases hg2 : n < 1
          · rw [show decide (n < 1) = true from decide_eq_true hg2]
            refine wl_off rfl rfl rfl rfl ?_
            refine wl_off rfl rfl rfl rfl ?_
            refine wl_val (v_pick rfl) rfl ?_
            refine wl_val (v_assign' (by conv => (lhs; whnf))) rfl ?_
            refine wl_nil ?_
            refine then_go ?_
            exact ⟨rfl, rfl, rfl, by rw [show bd = true from hbd.trans (decide_eq_true (.inl hg2))]; rfl⟩
          · rw [show decide (n < 1) = false from decide_eq_false hg2]
            refine wl_on rfl rfl ?_
            refine wl_val (v_move' (by conv => (lhs; whnf))) rfl ?_
            refine wl_on rfl rfl ?_
            refine wl_val (v_gtr rfl rfl) rfl ?_
            refine wl_val (v_pick rfl) rfl ?_
            refine wl_val (v_assign' (by conv => (lhs; whnf))) rfl ?_
            refine wl_nil ?_
            refine then_go ?_
            refine ⟨rfl, rfl, rfl, ?_⟩
            have : bd = decide (n > 16384) := by
              rw [hbd]
              exact decide_eq_decide.2 ⟨fun h => h.resolve_left hg2, .inr⟩
            rw [this]
            rfl
        · rintro r w ⟨rfl, h9, h10, h11⟩
          refine wc_o 9 h9 (wc_o 10 h10 (wc_o 11 h11 ?_))
          refine wc_seq ?_
          refine wc_region ?_
          refine wl_val (v_move' (by conv => (lhs; whnf))) rfl ?_
          refine wl_val (v_move' (by conv => (lhs; whnf))) rfl ?_
          refine wl_val (v_eql rfl rfl) rfl ?_
          refine wl_val (v_eqb Try.underlying4 rfl rfl) rfl ?_
          rw [show (bd == decide (e = 2)) = true by rw [he]; cases bd <;> rfl]
          refine wl_val (v_move' (by conv => (lhs; whnf))) rfl ?_
          refine wl_on rfl rfl ?_
          refine wl_val (v_move' (by conv => (lhs; whnf))) rfl ?_
          refine wl_on rfl rfl ?_
          refine wl_val (v_move' (by conv => (lhs; whnf))) rfl ?_
          refine wl_on rfl rfl ?_
          refine wl_val (v_eq_nil Try.underlying24 rfl rfl) rfl ?_
          refine wl_on rfl rfl ?_
          refine wl_val (v_eqb Try.underlying4 rfl rfl) rfl ?_
          rw [show (bd == oa.isNone) = true by rw [hoa]; cases bd <;> rfl]
          refine wl_val (v_pick rfl) rfl ?_
          refine wl_val (v_move' (by conv => (lhs; whnf))) rfl ?_
          refine wl_on rfl rfl ?_
          refine wl_call rfl (c_works st.im) rfl ?_
          rintro v65 w ⟨t, rfl⟩
          have st := st.pure t
          refine wl_val (v_pick rfl) rfl ?_
          refine wl_val (v_assign' (by conv => (lhs; whnf))) rfl ?_
          refine wl_nil ?_
          refine then_go ?_
          refine wc_ret ?_
          exact ret1 rfl ⟨(st.keepOnly (l := []) (List.nil_sublist _)).touch, rfl⟩
  · clear hv1
    refine ret_of Try.call3 Try.func3 rfl Try.ntmps3 Try.results3 rfl ?_
    refine wc_seq ?_
    refine wc_region ?_
    refine wl_val (v_assign' (by conv => (lhs; whnf))) rfl ?_
    refine wl_nil ?_
    refine then_go ?_
    refine wc_seq ?_
    refine wc_seq ?_
    refine wc_region ?_
    refine wl_val (v_move' (by conv => (lhs; whnf))) rfl ?_
    refine wl_val (v_len_s Try.underlying22 rfl) rfl ?_
    refine wl_val (v_gtr rfl rfl) rfl ?_
    refine wl_nil ?_
    refine then_go ?_
    refine wc_if rfl (fun h14 => ?_) (fun h14 => ?_)
    · refine wc_seq ?_
      refine wc_region ?_
      refine wl_call rfl (c_works st.im) rfl ?_
      rintro v65 w ⟨t, rfl⟩
      have st := st.pure t
      refine wl_val (v_assign' (by conv => (lhs; whnf))) rfl ?_
      refine wl_nil ?_
      refine then_go ?_
      refine wc_ret (then_ret ?_)
      exact ret1 rfl ⟨(st.keepOnly (l := []) (List.nil_sublist _)).touch, rfl⟩
    · refine wc_skip ?_
      refine then_go ?_
      refine wc_seq ?_
      refine wc_region ?_
      refine wl_val (v_move' (by conv => (lhs; whnf))) rfl ?_
      refine wl_call rfl (c_load st.im hv0 (by omega)) rfl ?_
      intro v18 w hR
      rw [if_pos h0] at hR
      obtain ⟨t, rfl⟩ := hR
      have st := st.pure t
      refine wl_val (v_move' (by conv => (lhs; whnf))) rfl ?_
      refine wl_val (v_extract rfl rfl) rfl ?_
      refine wl_val (v_extract rfl rfl) rfl ?_
      refine wl_val (v_assign' (by conv => (lhs; whnf))) rfl ?_
      refine wl_val (v_assign' (by conv => (lhs; whnf))) rfl ?_
      refine wl_nil ?_
      refine then_go ?_
      refine wc_seq ?_
      refine wc_region ?_
      refine wl_val (v_move' (by conv => (lhs; whnf))) rfl ?_
      refine wl_call rfl (c_rload st.im hv0 (by omega)) rfl ?_
      rintro v23 w ⟨t, m2, hg2, hi2, rv, rfl, ⟨cs, rfl, hcs, hone⟩, _⟩
      have st := st.grown hg2 t hi2
      obtain ⟨e0, he0⟩ : ∃ e0, e0 = loadE l := ⟨_, rfl⟩
      rw [← he0] at h0 ⊢
      refine wl_val (v_move' (by conv => (lhs; whnf))) rfl ?_
      refine wl_val (v_extract rfl rfl) rfl ?_
      refine wl_val (v_extract rfl rfl) rfl ?_
      refine wl_alloc TF.z30 st rfl ?_
      intro b7 w st
      refine wl_storeW (cs := cs) 0 st rfl TF.t30 rfl rfl hcs rfl hone ?_
      intro w st
      refine wl_val (v_assign' (by conv => (lhs; whnf))) rfl ?_
      refine wl_nil ?_
      refine then_go ?_
      refine wc_seq ?_
      refine wc_seq ?_
      refine wc_region ?_
      refine wl_val (v_move' (by conv => (lhs; whnf))) rfl ?_
      refine wl_val (v_move' (by conv => (lhs; whnf))) rfl ?_
      refine wl_val (v_neq rfl rfl) rfl ?_
      rw [show decide (¬ e0 = e0) = false from decide_eq_false (fun h => h rfl)]
      refine wl_val (v_move' (by conv => (lhs; whnf))) rfl ?_
      refine wl_on rfl rfl ?_
      refine wl_val (v_move' (by conv => (lhs; whnf))) rfl ?_
      refine wl_on rfl rfl ?_
      refine wl_val (v_eq_nil Try.underlying24 rfl rfl) rfl ?_
      refine wl_on rfl rfl ?_
      refine wl_val (v_move' (by conv => (lhs; whnf))) rfl ?_
      refine wl_on rfl rfl ?_
      refine wl_val (v_neq rfl rfl) rfl ?_
      rw [show decide (¬ e0 = 0) = true from decide_eq_true h0]
      refine wl_on rfl rfl ?_
      refine wl_val (v_neb Try.underlying4 rfl rfl) rfl ?_
      refine wl_val (v_pick rfl) rfl ?_
      refine wl_nil ?_
      refine then_go ?_
      refine wc_false rfl ?_
      refine wc_skip ?_
      refine then_go ?_
      refine wc_seq ?_
      refine wc_seq ?_
      refine wc_draw TF.mixed ?_
      have st := st.pure (touch_drew _)
      refine fl_val 0 rfl (fun _ => (v_move' (by conv => (lhs; whnf)))) rfl (by kernel_rfl) ?_
      refine fl_val 1 rfl (fun _ => (v_ne_nil Try.underlying24 rfl rfl)) rfl (by kernel_rfl) ?_
      refine fl_val 2 rfl (fun _ => (v_move' (by conv => (lhs; whnf)))) rfl (by kernel_rfl) ?_
      refine fl_off 3 rfl rfl rfl rfl rfl rfl (by kernel_rfl) ?_
      refine fl_off 5 rfl rfl rfl rfl rfl rfl (by kernel_rfl) ?_
      refine fl_offd 6 rfl rfl rfl rfl rfl rfl (by kernel_rfl) ?_
      refine fl_eff1 4 [5, 1, 0] [6] (by kernel_rfl) ⟨obl_off rfl rfl rfl rfl rfl rfl, trivial⟩ rfl ?_
      refine wl_off rfl rfl rfl rfl ?_
      refine wl_nil ⟨rfl, ?_⟩
      refine fl_eff1 7 [5, 1, 0] [] (by kernel_rfl) ⟨obl_off rfl rfl rfl rfl rfl rfl, trivial⟩ rfl ?_
      refine wl_off rfl rfl rfl rfl ?_
      refine wl_nil ⟨rfl, ?_⟩
      refine fl_off 8 rfl rfl rfl rfl rfl rfl (by kernel_rfl) ?_
      refine fl_off 9 rfl rfl rfl rfl rfl rfl (by kernel_rfl) ?_
      refine fl_u 10 rfl rfl rfl rfl rfl (by kernel_rfl) ?_
      refine fl_u 12 rfl rfl rfl rfl rfl (by kernel_rfl) ?_
      refine fl_u 13 rfl rfl rfl rfl rfl (by kernel_rfl) ?_
      refine fl_u 14 rfl rfl rfl rfl rfl (by kernel_rfl) ?_
      refine fl_eff1 11 [14, 13, 12, 8, 5, 1, 0] [] (by kernel_rfl) trivial rfl ?_
      refine offU rfl rfl rfl ?_
      refine wl_nil ⟨rfl, ?_⟩
      refine fl_u 15 rfl rfl rfl rfl rfl (by kernel_rfl) ?_
      refine fl_off 16 rfl rfl rfl rfl rfl rfl (by kernel_rfl) ?_
      refine fl_off 17 rfl rfl rfl rfl rfl rfl (by kernel_rfl) ?_
      refine fl_u 18 rfl rfl rfl rfl rfl (by kernel_rfl) ?_
      refine fl_eff1 19 [16, 15, 14, 13, 12, 8, 5, 1, 0] [] (by kernel_rfl) trivial rfl ?_
      refine offU rfl rfl rfl ?_
      refine wl_nil ⟨rfl, ?_⟩
      refine fl_u 20 rfl rfl rfl rfl rfl (by kernel_rfl) ?_
      refine fl_off 21 rfl rfl rfl rfl rfl rfl (by kernel_rfl) ?_
      refine fl_val 22 rfl (fun _ => (v_pick rfl)) rfl (by kernel_rfl) ?_
      refine fl_nil (by kernel_rfl) trivial ?_
      obtain ⟨w, hw⟩ : ∃ w3, w3 = World.drew w := ⟨_, rfl⟩
      rw [← hw] at st ⊢
      refine then_go ?_
      refine wc_false rfl ?_
      refine wc_skip ?_
      refine then_go ?_
      refine wc_cut (fun r w' => w' = w ∧ r 1 = .int .i64 n) ?_ ?_
      · refine wc_seq ?_
        refine wc_region ?_
        refine wl_val (v_move' (by conv => (lhs; whnf))) rfl ?_
        refine wl_val (v_gtr rfl rfl) rfl ?_
        refine wl_val (v_move' (by conv => (lhs; whnf))) rfl ?_
        by_cases hg2 : n > 300
        · rw [show decide (n > 300) = true from decide_eq_true hg2]
          refine wl_on rfl rfl ?_
          refine wl_val (v_move' (by conv => (lhs; whnf))) rfl ?_
          refine wl_on rfl rfl ?_
          refine wl_val (v_leq rfl rfl) rfl ?_
          refine wl_val (v_pick rfl) rfl ?_
          refine wl_nil ?_
          refine then_go ?_
          refine wc_if rfl (fun h64 => ?_) (fun h64 => ?_)
          · refine wc_seq ?_
            refine wc_region ?_
            refine wl_call rfl (c_works st.im) rfl ?_
            rintro v65 w ⟨t, rfl⟩
            have st := st.pure t
            refine wl_val (v_assign' (by conv => (lhs; whnf))) rfl ?_
            refine wl_nil ?_
            refine then_go ?_
            refine wc_ret (then_ret ?_)
            exact ret1 rfl ⟨(st.keepOnly (l := []) (List.nil_sublist _)).touch, rfl⟩
          · refine wc_skip ?_
            refine then_go ?_
            exact ⟨rfl, rfl⟩
        · rw [show decide (n > 300) = false from decide_eq_false hg2]
          refine wl_off rfl rfl rfl rfl ?_
          refine wl_off rfl rfl rfl rfl ?_
          refine wl_val (v_pick rfl) rfl ?_
          refine wl_nil ?_
          refine then_go ?_
          refine wc_false rfl ?_
          refine wc_skip ?_
          refine then_go ?_
          exact ⟨rfl, rfl⟩
      · rintro r w ⟨rfl, h1⟩
        refine wc_o 1 h1 ?_
        refine wc_seq ?_
        refine wc_region ?_
        refine wl_val (v_move' (by conv => (lhs; whnf))) rfl ?_
        refine wl_call rfl (c_new n st.im) rfl ?_
        intro v68 w hR
        have hbd : ∃ bd : Bool, bd = decide (n < 1 ∨ n > 16384) := ⟨_, rfl⟩
        obtain ⟨bd, hbd⟩ := hbd
        obtain ⟨oa, e, rfl, he, hoa, t⟩ : ∃ oa e, v68 = .tuple #[.pointer oa, .int .i64 e] ∧ e = (if bd then 2 else 0) ∧ oa.isNone = bd ∧ Tch _ w [] [] := by
          split at hR
          · rename_i hc
            have : bd = true := by rw [hbd]; exact decide_eq_true hc
            exact ⟨none, 2, hR.2, by rw [this]; rfl, by rw [this]; rfl, hR.1⟩
          · rename_i hc
            have : bd = false := by rw [hbd]; exact decide_eq_false hc
            obtain ⟨p, ⟨b', s', wv', rfl, t', _⟩, h2⟩ := hR
            exact ⟨_, 0, h2, by rw [this]; rfl, by rw [this]; rfl, pure_of_new t'⟩
        have st := st.pure t
        refine wl_val (v_move' (by conv => (lhs; whnf))) rfl ?_
        refine wl_val (v_extract rfl rfl) rfl ?_
        refine wl_val (v_extract rfl rfl) rfl ?_
        refine wl_val (v_assign' (by conv => (lhs; whnf))) rfl ?_
        refine wl_val (v_assign' (by conv => (lhs; whnf))) rfl ?_
        refine wl_nil ?_
        refine then_go ?_
        refine wc_cut (fun r w' => w' = w ∧ r 9 = .pointer oa ∧ r 10 = .int .i64 e ∧ r 11 = .bool bd) ?_ ?_
        · refine wc_region ?_
          refine wl_val (v_move' (by conv => (lhs; whnf))) rfl ?_
          refine wl_val (v_lss rfl rfl) rfl ?_
          refine wl_val (v_move' (by conv => (lhs; whnf))) rfl ?_
          by_cases hg2 : n < 1
          · rw [show decide (n < 1) = true from decide_eq_true hg2]
            refine wl_off rfl rfl rfl rfl ?_
            refine wl_off rfl rfl rfl rfl ?_
            refine wl_val (v_pick rfl) rfl ?_
            refine wl_val (v_assign' (by conv => (lhs; whnf))) rfl ?_
            refine wl_nil ?_
            refine then_go ?_
            exact ⟨rfl, rfl, rfl, by rw [show bd = true from hbd.trans (decide_eq_true (.inl hg2))]; rfl⟩
          · rw [show decide (n < 1) = false from decide_eq_false hg2]
            refine wl_on rfl rfl ?_
            refine wl_val (v_move' (by conv => (lhs; whnf))) rfl ?_
            refine wl_on rfl rfl ?_
            refine wl_val (v_gtr rfl rfl) rfl ?_
            refine wl_val (v_pick rfl) rfl ?_
            refine wl_val (v_assign' (by conv => (lhs; whnf))) rfl ?_
            refine wl_nil ?_
            refine then_go ?_
            refine ⟨rfl, rfl, rfl, ?_⟩
            have : bd = decide (n > 16384) := by
              rw [hbd]
              exact decide_eq_decide.2 ⟨fun h => h.resolve_left hg2, .inr⟩
            rw [this]
            rfl
        · rintro r w ⟨rfl, h9, h10, h11⟩
          refine wc_o 9 h9 (wc_o 10 h10 (wc_o 11 h11 ?_))
          refine wc_seq ?_
          refine wc_region ?_
          refine wl_val (v_move' (by conv => (lhs; whnf))) rfl ?_
          refine wl_val (v_move' (by conv => (lhs; whnf))) rfl ?_
          refine wl_val (v_eql rfl rfl) rfl ?_
          refine wl_val (v_eqb Try.underlying4 rfl rfl) rfl ?_
          rw [show (bd == decide (e = 2)) = true by rw [he]; cases bd <;> rfl]
          refine wl_val (v_move' (by conv => (lhs; whnf))) rfl ?_
          refine wl_on rfl rfl ?_
          refine wl_val (v_move' (by conv => (lhs; whnf))) rfl ?_
          refine wl_on rfl rfl ?_
          refine wl_val (v_move' (by conv => (lhs; whnf))) rfl ?_
          refine wl_on rfl rfl ?_
          refine wl_val (v_eq_nil Try.underlying24 rfl rfl) rfl ?_
          refine wl_on rfl rfl ?_
          refine wl_val (v_eqb Try.underlying4 rfl rfl) rfl ?_
          rw [show (bd == oa.isNone) = true by rw [hoa]; cases bd <;> rfl]
          refine wl_val (v_pick rfl) rfl ?_
          refine wl_val (v_move' (by conv => (lhs; whnf))) rfl ?_
          refine wl_on rfl rfl ?_
          refine wl_call rfl (c_works st.im) rfl ?_
          rintro v65 w ⟨t, rfl⟩
          have st := st.pure t
          refine wl_val (v_pick rfl) rfl ?_
          refine wl_val (v_assign' (by conv => (lhs; whnf))) rfl ?_
          refine wl_nil ?_
          refine then_go ?_
          refine wc_ret ?_
          exact ret1 rfl ⟨(st.keepOnly (l := []) (List.nil_sublist _)).touch, rfl⟩
end
end Go.Proofs.Ytekhcjgmgflmkaa
