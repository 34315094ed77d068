/-
  The law DiskTorn.
-/
import Derived.Test.YtekhcjgmgflmkaaDo
namespace Go.Proofs.Ytekhcjgmgflmkaa
open Go Go.RowKit K DK

section
variable {m : Mem} {wI : World}

theorem l_torn {n : Int} {lv kv : Value} {L : List (Act × Value)} {keep : List Int} (him : Im m wI) (hl : OpsM m lv L) (hk : SlM m kv 1 keep.length (ints keep)) : Ret Try.prog 6 #[.int .i64 n, lv, kv] wI fun v w' => Tch wI w' [] [] ∧ v = .bool true := by
  have st := St.start him
  obtain ⟨_, la, lc, rfl, hlk, _⟩ := hl.1
  refine ret_of Try.call6 Try.func6 rfl Try.ntmps6 Try.results6 rfl ?_
  refine wc_seq ?_
  refine wc_region ?_
  refine wl_val (v_assign' (by conv => (lhs; whnf))) rfl ?_
  refine wl_nil ?_
  refine then_go ?_
  refine wc_seq ?_
  refine wc_region ?_
  refine wl_val (v_move' (by conv => (lhs; whnf))) rfl ?_
  refine wl_call rfl (c_start n st) rfl ?_
  rintro v18 w ⟨k, m1, b, s, wv, rv, hk1, hk8, rfl, hm1, st, hR⟩
  obtain ⟨cs, rfl, hcs, hcone⟩ := refM_one hR
  refine wl_val (v_move' (by conv => (lhs; whnf))) rfl ?_
  refine wl_val (v_extract rfl rfl) rfl ?_
  refine wl_val (v_extract rfl rfl) rfl ?_
  refine wl_alloc TF.z30 st rfl ?_
  intro b8 w st
  refine wl_val (v_assign' (by conv => (lhs; whnf))) rfl ?_
  refine wl_storeW (cs := cs) 0 st rfl TF.t30 rfl rfl hcs rfl hcone ?_
  intro w st
  have st := st.perm (List.Perm.swap _ _ _)
  refine wl_nil ?_
  refine then_go ?_
  refine wc_seq ?_
  refine wc_seq ?_
  refine wc_region ?_
  refine wl_val (v_move' (by conv => (lhs; whnf))) rfl ?_
  refine wl_val (v_eq_nil Try.underlying24 rfl rfl) rfl ?_
  refine wl_nil ?_
  refine then_go ?_
  refine wc_false rfl ?_
  refine wc_skip ?_
  refine then_go ?_
  refine wc_seq ?_
  refine wc_seq ?_
  refine wc_region ?_
  refine wl_val (v_move' (by conv => (lhs; whnf))) rfl ?_
  refine wl_call rfl (c_few (v := .slice la L.length lc) st.im) rfl ?_
  rintro v24 w ⟨rfl, rfl⟩
  refine wl_val (v_not rfl) rfl ?_
  refine wl_nil ?_
  refine then_go ?_
  refine wc_cond rfl (fun h25 => ?_) (fun h25 => ?_)
  · refine wc_seq ?_
    refine wc_region ?_
    refine wl_call rfl (c_works st.im) rfl ?_
    rintro v26 w ⟨t, rfl⟩
    have st := st.pure t
    refine wl_val (v_assign' (by conv => (lhs; whnf))) rfl ?_
    refine wl_nil ?_
    refine then_go ?_
    refine wc_ret (then_ret ?_)
    exact ret1 rfl ⟨(st.keepOnly (l := []) (List.nil_sublist _)).touch, rfl⟩
  · refine wc_skip ?_
    refine then_go ?_
    refine wc_seq ?_
    refine wc_seq ?_
    refine wc_region ?_
    refine wl_val (v_assign' (by conv => (lhs; whnf))) rfl ?_
    refine wl_nil ?_
    refine then_go ?_
    refine wc_block ?_
    have hf0 : Few (newD k) 0 := ⟨Nat.le_refl _, by show (-1 : Int) ≤ -1; omega, by show (-1 : Int) ≤ _; omega⟩
    have hL60 : L.length ≤ 60 := by
      have : (L.length : Int) ≤ 60 := by simpa using h25
      omega
    refine wc_loop (S := Nat) (fun q r w' => ∃ j m2 wv d cs, q + j = L.length ∧ r 1 = .slice la L.length lc ∧ r 2 = kv ∧ r 7 = .pointer (some ⟨b, 0, none⟩) ∧ r 8 = .pointer (some ⟨b8, 0, none⟩) ∧ r 9 = .int .i64 j ∧ RefM m2 (.agg cs) k d ∧ cs.size = 4 ∧ (∀ u ∈ cs.toList, u.oneCell' = true) ∧ Few d j ∧ (∀ k o, m k = some o → m2 k = some o) ∧
      St m m2 [] wI w' [diskO b s k wv d, blk b8 cs 30]) id L.length ⟨0, m1, wv, _, cs, rfl, rfl, rfl, rfl, rfl, rfl, hR, hcs, hcone, hf0, hm1, st⟩ ?_
    rintro q r w2 ⟨j, m2, wv2, d, cs, hqj, h1, h2, h7, h8, h9, hR, hcs, hcone, hf, hm2, st⟩
    refine wc_o 1 h1 (wc_o 2 h2 (wc_o 7 h7 (wc_o 8 h8 (wc_o 9 h9 ?_))))
    refine wc_seq ?_
    refine wc_seq ?_
    refine wc_region ?_
    refine wl_val (v_move' (by conv => (lhs; whnf))) rfl ?_
    refine wl_val (v_move' (by conv => (lhs; whnf))) rfl ?_
    refine wl_val (v_len_s Try.underlying38 rfl) rfl ?_
    refine wl_val (v_lss rfl rfl) rfl ?_
    refine wl_nil ?_
    refine then_go ?_
    refine wc_if rfl (fun h30 => ?_) (fun h30 => ?_)
    · refine wc_skip ?_
      refine then_go ?_
      refine wc_seq ?_
      refine wc_block ?_
      have hj : j < L.length := by omega
      obtain ⟨xv, lb, lo, lcap, hlv, hkv, hNb, hrd⟩ := (hl.mono hm2).elem hj
      cases hlv
      refine wc_draw TF.mixed ?_
      have st := st.pure (touch_drew _)
      refine fl_val 0 rfl (fun _ => (v_move' (by conv => (lhs; whnf)))) rfl (by kernel_rfl) ?_
      refine fl_ld 1 rfl (v_load rfl (st.reads 1 rfl TF.t30 (getV_all hcs))) (by kernel_rfl) ?_
      refine fl_val 2 rfl (fun _ => (v_move' (by conv => (lhs; whnf)))) rfl (by kernel_rfl) ?_
      refine fl_val 3 rfl (fun _ => (v_move' (by conv => (lhs; whnf)))) rfl (by kernel_rfl) ?_
      refine fl_val 4 rfl (fun _ => (v_ias j Try.underlying38 TF.t46 rfl rfl (by first | rfl | omega) (by first | omega | (dsimp only at *; omega)))) rfl (by kernel_rfl) ?_
      refine fl_ld 5 rfl (v_load rfl ((hrd st.im).1)) (by kernel_rfl) ?_
      refine fl_eff1 6 [4, 3, 2] [] (by kernel_rfl) ⟨obl_ld rfl rfl rfl (v_load rfl ((hrd st.im).1)), obl_ld rfl rfl rfl (v_load rfl (st.reads 1 rfl TF.t30 (getV_all hcs))), trivial⟩ rfl ?_
      refine wl_call rfl (c_step st hR hf (by omega) hkv hNb) rfl ?_
      rintro v40 w ⟨m3, wv3, d3, rv3, rfl, hm3, st, hR3, hf3⟩
      obtain ⟨cs3, rfl, hcs3, hcone3⟩ := refM_one hR3
      refine wl_nil ⟨rfl, ?_⟩
      refine fl_val 7 rfl (fun _ => (v_move' (by conv => (lhs; whnf)))) rfl (by kernel_rfl) ?_
      refine fl_val 8 rfl (fun _ => (v_extract rfl rfl)) rfl (by kernel_rfl) ?_
      refine fl_val 9 rfl (fun _ => (v_extract rfl rfl)) rfl (by kernel_rfl) ?_
      refine fl_eff1 10 [9] [] (by kernel_rfl) trivial rfl ?_
      refine wl_storeW (cs := cs3) 1 st rfl TF.t30 rfl rfl hcs3 hcs hcone3 ?_
      intro w st
      refine wl_nil ⟨rfl, ?_⟩
      refine fl_nil (by kernel_rfl) trivial ?_
      refine block_go (then_go ?_)
      refine wc_region ?_
      refine wl_val (v_move' (by conv => (lhs; whnf))) rfl ?_
      refine wl_val (v_add' rfl rfl rfl (by first | omega | (dsimp only at *; omega)) (by first | omega | (dsimp only at *; omega))) rfl ?_
      refine wl_val (v_assign' (by conv => (lhs; whnf))) rfl ?_
      refine wl_nil ?_
      refine then_go ?_
      exact ⟨q - 1, by simp; omega, j + 1, m3, wv3, d3, cs3, by omega, rfl, rfl, rfl, rfl, rfl, hR3, hcs3, hcone3, hf3, fun k o h => hm3 k o (hm2 k o h), st⟩
    · refine wc_exit (then_exit (then_exit (block_hit ?_)))
      refine then_go ?_
      refine wc_seq ?_
      obtain ⟨sv, wtv, hcse, hs, hwm, hso, hwo⟩ := refM_agg hR
      cases hcse
      have hs0 := hs
      have hSl := hR.ok.len
      obtain ⟨sb, so, sc, rfl⟩ := hs.ptr (by omega)
      have hwm0 := hwm
      obtain ⟨wa, wc, rfl, _⟩ := hwm.len
      have hwt := hR.ok.wt
      have hwl : d.wt.length ≤ 60 := by have := hf.wt; omega
      refine wc_draw TF.mixed ?_
      have st := st.pure (touch_drew _)
      refine fl_val 0 rfl (fun _ => (v_fa TF.f30_0 rfl)) rfl (by kernel_rfl) ?_
      refine fl_ld 1 rfl (v_load rfl (st.reads 1 rfl TF.t22 rfl)) (by kernel_rfl) ?_
      refine fl_val 2 rfl (fun _ => (v_fa TF.f30_1 rfl)) rfl (by kernel_rfl) ?_
      refine fl_ld 3 rfl (v_load rfl (st.reads 1 rfl TF.t28 rfl)) (by kernel_rfl) ?_
      refine fl_eff1 4 [2] [3] (by kernel_rfl) ⟨obl_ld rfl rfl rfl (v_load rfl (st.reads 1 rfl TF.t28 rfl)), obl_ld rfl rfl rfl (v_load rfl (st.reads 1 rfl TF.t22 rfl)), trivial⟩ rfl ?_
      refine wl_val (v_assign' (by conv => (lhs; whnf))) rfl ?_
      refine wl_nil ⟨rfl, ?_⟩
      refine fl_eff1 5 [] [] (by kernel_rfl) ⟨obl_ld rfl rfl rfl (v_load rfl (st.reads 1 rfl TF.t28 rfl)), trivial⟩ rfl ?_
      refine wl_val (v_assign' (by conv => (lhs; whnf))) rfl ?_
      refine wl_nil ⟨rfl, ?_⟩
      refine fl_nil (by kernel_rfl) trivial ?_
      refine then_go ?_
      refine wc_seq ?_
      refine wc_region ?_
      refine wl_val (v_move' (by conv => (lhs; whnf))) rfl ?_
      refine wl_val (v_move' (by conv => (lhs; whnf))) rfl ?_
      refine wl_call rfl (disk_callAt 0 st rfl (c_crash st.im (st.at (i := 0) rfl) (st.none (i := 0) rfl) hR.ok (by have := hf.wt; omega) (hk.mono hm2))) rfl ?_
      rintro v49 w ⟨wv4, d4, st, rfl⟩
      change St _ _ _ _ _ [diskO b s k wv4 _, _] at st
      obtain ⟨C, hC⟩ : ∃ C, C = crashS keep 0 d.S d.wt := ⟨_, rfl⟩
      have hCl : C.length = 64 * k := by rw [hC]; exact crashS_len _ _ _ hSl hwt
      have hok4 : (crashD d keep).ok k := ⟨hR.ok.pos, by show (crashS keep 0 d.S d.wt).length = _; rw [← hC, hCl], hR.ok.le, by simp [crashD]⟩
      refine wl_nil ?_
      refine then_go ?_
      refine wc_seq ?_
      refine wc_region ?_
      refine wl_val (v_move' (by conv => (lhs; whnf))) rfl ?_
      refine wl_call rfl (c_dump (im_heapM _) (diskAt 0 st rfl hok4)) rfl ?_
      rintro v51 w ⟨t, m4, hfr, him4, hs4⟩
      rw [show dump (crashD d keep) = C from hC.symm] at hs4
      obtain ⟨m5, hle3, hle4, st⟩ := st.absorb t hfr him4
      have hs4 := hs4.mono hle4
      have hs4' := hs4
      obtain ⟨cb, co, cc, rfl⟩ := hs4.ptr (by omega)
      have hs5 := hs0.mono hle3
      have hw5 := hwm0.mono hle3
      refine wl_val (v_assign' (by conv => (lhs; whnf))) rfl ?_
      refine wl_nil ?_
      refine then_go ?_
      refine wc_seq ?_
      refine wc_seq ?_
      refine wc_region ?_
      refine wl_val (v_move' (by conv => (lhs; whnf))) rfl ?_
      refine wl_val (v_len_s Try.underlying22 rfl) rfl ?_
      refine wl_val (v_move' (by conv => (lhs; whnf))) rfl ?_
      refine wl_val (v_len_s Try.underlying22 rfl) rfl ?_
      refine wl_val (v_neq rfl rfl) rfl ?_
      rw [show decide (¬ ((C.length : Nat) : Int) = d.S.length) = false from decide_eq_false (fun h => h (by rw [hCl, hSl]))]
      refine wl_nil ?_
      refine then_go ?_
      refine wc_false rfl ?_
      refine wc_skip ?_
      refine then_go ?_
      refine wc_seq ?_
      refine wc_seq ?_
      refine wc_region ?_
      refine wl_val (v_assign' (by conv => (lhs; whnf))) rfl ?_
      refine wl_nil ?_
      refine then_go ?_
      refine wc_block ?_
      refine wc_loop (S := Nat) (fun q r w' => ∃ p, q + p = 64 * k ∧ r 10 = .slice (some ⟨sb, so, none⟩) d.S.length sc ∧ r 11 = .slice wa d.wt.length wc ∧ r 12 = .slice (some ⟨cb, co, none⟩) C.length cc ∧ r 13 = .int .i64 p ∧ St m m5 [] wI w' []) id (64 * k) ⟨0, by omega, rfl, rfl, rfl, rfl, st.keepOnly (List.nil_sublist _)⟩ ?_
      clear st
      rintro q2 r w3 ⟨p, hqp, h10, h11, h12, h13, st⟩
      refine wc_o 10 h10 (wc_o 11 h11 (wc_o 12 h12 (wc_o 13 h13 ?_)))
      refine wc_seq ?_
      refine wc_seq ?_
      refine wc_region ?_
      refine wl_val (v_move' (by conv => (lhs; whnf))) rfl ?_
      refine wl_val (v_move' (by conv => (lhs; whnf))) rfl ?_
      refine wl_val (v_len_s Try.underlying22 rfl) rfl ?_
      refine wl_val (v_lss rfl rfl) rfl ?_
      refine wl_nil ?_
      refine then_go ?_
      refine wc_if rfl (fun h60 => ?_) (fun h60 => ?_)
      · refine wc_skip ?_
        refine then_go ?_
        refine wc_seq ?_
        refine wc_block ?_
        refine wc_seq ?_
        have hpC : p < C.length := by omega
        have hpS : p < d.S.length := by omega
        refine wc_draw TF.mixed ?_
        have st := st.pure (touch_drew _)
        refine fl_val 0 rfl (fun _ => (v_move' (by conv => (lhs; whnf)))) rfl (by kernel_rfl) ?_
        refine fl_val 1 rfl (fun _ => (v_move' (by conv => (lhs; whnf)))) rfl (by kernel_rfl) ?_
        refine fl_val 2 rfl (fun _ => (v_ias p Try.underlying22 TF.t5 rfl rfl (by first | rfl | omega) (by first | omega | (dsimp only at *; omega)))) rfl (by kernel_rfl) ?_
        refine fl_ld 3 rfl (v_load rfl (hs4'.byteAt hpC st.im)) (by kernel_rfl) ?_
        refine fl_val 4 rfl (fun _ => (v_move' (by conv => (lhs; whnf)))) rfl (by kernel_rfl) ?_
        refine fl_val 5 rfl (fun _ => (v_move' (by conv => (lhs; whnf)))) rfl (by kernel_rfl) ?_
        refine fl_val 6 rfl (fun _ => (v_ias p Try.underlying22 TF.t5 rfl rfl (by first | rfl | omega) (by first | omega | (dsimp only at *; omega)))) rfl (by kernel_rfl) ?_
        refine fl_ld 7 rfl (v_load rfl (hs5.byteAt hpS st.im)) (by kernel_rfl) ?_
        refine fl_val 8 rfl (fun _ => (v_eql rfl rfl)) rfl (by kernel_rfl) ?_
        refine fl_eff1 9 [] [] (by kernel_rfl) ⟨obl_ld rfl rfl rfl (v_load rfl (hs5.byteAt hpS st.im)), obl_ld rfl rfl rfl (v_load rfl (hs4'.byteAt hpC st.im)), trivial⟩ rfl ?_
        refine wl_val (v_assign' (by conv => (lhs; whnf))) rfl ?_
        refine wl_nil ⟨rfl, ?_⟩
        refine fl_nil (by kernel_rfl) trivial ?_
        refine then_go ?_
        refine wc_seq ?_
        refine wc_seq ?_
        refine wc_region ?_
        refine wl_val (v_assign' (by conv => (lhs; whnf))) rfl ?_
        refine wl_nil ?_
        refine then_go ?_
        refine wc_block ?_
        obtain ⟨b0, hb0⟩ : ∃ b0, b0 = decide ((C[p].toNat : Int) = (d.S[p].toNat : Int)) := ⟨_, rfl⟩
        obtain ⟨f, hf'⟩ : ∃ f : Nat × By → Bool, f = fun y => y.1 == p / 64 && decide (((y.2[p % 64]?.getD 0).toNat : Int) = (C[p].toNat : Int)) := ⟨_, rfl⟩
        refine wc_loop (S := Nat) (fun q r w' => ∃ x : Nat, q + x = d.wt.length ∧ r 10 = .slice (some ⟨sb, so, none⟩) d.S.length sc ∧ r 11 = .slice wa d.wt.length wc ∧ r 12 = .slice (some ⟨cb, co, none⟩) C.length cc ∧ r 13 = .int .i64 p ∧ r 14 = .bool (b0 || (d.wt.take x).any f) ∧ r 15 = .int .i64 x ∧ St m m5 [] wI w' []) id d.wt.length ⟨0, by omega, rfl, rfl, rfl, rfl, by rw [hb0]; simp; rfl, rfl, st⟩ ?_
        rintro q3 r w4 ⟨x, hqx, h10, h11, h12, h13, h14, h15, st⟩
        refine wc_o 10 h10 (wc_o 11 h11 (wc_o 12 h12 (wc_o 13 h13 (wc_o 14 h14 (wc_o 15 h15 ?_)))))
        refine wc_seq ?_
        refine wc_seq ?_
        refine wc_region ?_
        refine wl_val (v_move' (by conv => (lhs; whnf))) rfl ?_
        refine wl_val (v_move' (by conv => (lhs; whnf))) rfl ?_
        refine wl_val (v_len_s Try.underlying28 rfl) rfl ?_
        refine wl_val (v_lss rfl rfl) rfl ?_
        refine wl_nil ?_
        refine then_go ?_
        refine wc_if rfl (fun h75 => ?_) (fun h75 => ?_)
        · refine wc_skip ?_
          refine then_go ?_
          refine wc_seq ?_
          refine wc_block ?_
          have hx : x < d.wt.length := by omega
          obtain ⟨bv, wb, wo, wcap, hwv, hbv, hrw⟩ := hw5.elemF hx
          simp only [Value.slice.injEq] at hwv
          obtain ⟨hwa, _, _⟩ := hwv
          rw [hwa]
          have hxw := (hwt d.wt[x] (List.getElem_mem _)).2
          have hpx : p % 64 < d.wt[x].2.length := by omega
          obtain ⟨bb, bo, bc, rfl⟩ := hbv.ptr (by omega)
          have htk : (d.wt.take (x + 1)).any f = ((d.wt.take x).any f || f d.wt[x]) := by
            rw [List.take_succ_eq_append_getElem hx, List.any_append]
            simp only [List.any_cons, List.any_nil, Bool.or_false]
          rcases Bool.eq_false_or_eq_true (b0 || (d.wt.take x).any f) with hg1 | hg1
          · rw [hg1]
            refine wc_draw TF.mixed ?_
            have st := st.pure (touch_drew _)
            refine fl_val 0 rfl (fun _ => (v_move' (by conv => (lhs; whnf)))) rfl (by kernel_rfl) ?_
            refine fl_val 1 rfl (fun _ => (v_move' (by conv => (lhs; whnf)))) rfl (by kernel_rfl) ?_
            refine fl_off 2 rfl rfl rfl rfl rfl rfl (by kernel_rfl) ?_
            refine fl_off 3 rfl rfl rfl rfl rfl rfl (by kernel_rfl) ?_
            refine fl_off 4 rfl rfl rfl rfl rfl rfl (by kernel_rfl) ?_
            refine fl_off 5 rfl rfl rfl rfl rfl rfl (by kernel_rfl) ?_
            refine fl_offd 6 rfl rfl rfl rfl rfl rfl (by kernel_rfl) ?_
            refine fl_off 7 rfl rfl rfl rfl rfl rfl (by kernel_rfl) ?_
            refine fl_off 8 rfl rfl rfl rfl rfl rfl (by kernel_rfl) ?_
            refine fl_off 9 rfl rfl rfl rfl rfl rfl (by kernel_rfl) ?_
            refine fl_off 10 rfl rfl rfl rfl rfl rfl (by kernel_rfl) ?_
            refine fl_u 11 rfl rfl rfl rfl rfl (by kernel_rfl) ?_
            refine fl_u 12 rfl rfl rfl rfl rfl (by kernel_rfl) ?_
            refine fl_u 13 rfl rfl rfl rfl rfl (by kernel_rfl) ?_
            refine fl_u 14 rfl rfl rfl rfl rfl (by kernel_rfl) ?_
            refine fl_ud 15 rfl rfl rfl rfl rfl (by kernel_rfl) ?_
            refine fl_u 16 rfl rfl rfl rfl rfl (by kernel_rfl) ?_
            refine fl_u 17 rfl rfl rfl rfl rfl (by kernel_rfl) ?_
            refine fl_u 18 rfl rfl rfl rfl rfl (by kernel_rfl) ?_
            refine fl_ud 19 rfl rfl rfl rfl rfl (by kernel_rfl) ?_
            refine fl_u 20 rfl rfl rfl rfl rfl (by kernel_rfl) ?_
            refine fl_u 21 rfl rfl rfl rfl rfl (by kernel_rfl) ?_
            refine fl_u 22 rfl rfl rfl rfl rfl (by kernel_rfl) ?_
            refine fl_ud 23 rfl rfl rfl rfl rfl (by kernel_rfl) ?_
            refine fl_u 24 rfl rfl rfl rfl rfl (by kernel_rfl) ?_
            refine fl_off 25 rfl rfl rfl rfl rfl rfl (by kernel_rfl) ?_
            refine fl_val 26 rfl (fun _ => (v_pick rfl)) rfl (by kernel_rfl) ?_
            refine fl_eff1 27 [] [] (by kernel_rfl) ⟨obl_u rfl rfl rfl rfl rfl, obl_u rfl rfl rfl rfl rfl, obl_u rfl rfl rfl rfl rfl, obl_off rfl rfl rfl rfl rfl rfl, trivial⟩ rfl ?_
            refine wl_val (v_assign' (by conv => (lhs; whnf))) rfl ?_
            refine wl_nil ⟨rfl, ?_⟩
            refine fl_nil (by kernel_rfl) trivial ?_
            refine block_go (then_go ?_)
            refine wc_region ?_
            refine wl_val (v_move' (by conv => (lhs; whnf))) rfl ?_
            refine wl_val (v_add' rfl rfl rfl (by first | omega | (dsimp only at *; omega)) (by first | omega | (dsimp only at *; omega))) rfl ?_
            refine wl_val (v_assign' (by conv => (lhs; whnf))) rfl ?_
            refine wl_nil ?_
            refine then_go ?_
            exact ⟨q3 - 1, by simp; omega, x + 1, by omega, rfl, rfl, rfl, rfl, by rw [htk, ← Bool.or_assoc, hg1]; rfl, rfl, st⟩
          · by_cases hq : d.wt[x].1 = p / 64
            · rw [hg1]
              refine wc_draw TF.mixed ?_
              have st := st.pure (touch_drew _)
              refine fl_val 0 rfl (fun _ => (v_move' (by conv => (lhs; whnf)))) rfl (by kernel_rfl) ?_
              refine fl_val 1 rfl (fun _ => (v_move' (by conv => (lhs; whnf)))) rfl (by kernel_rfl) ?_
              refine fl_on 2 rfl rfl rfl rfl (fun _ => (v_move' (by conv => (lhs; whnf)))) rfl (by kernel_rfl) ?_
              refine fl_on 3 rfl rfl rfl rfl (fun _ => (v_move' (by conv => (lhs; whnf)))) rfl (by kernel_rfl) ?_
              refine fl_on 4 rfl rfl rfl rfl (fun _ => (v_ias x Try.underlying28 TF.t51 rfl rfl (by first | rfl | omega) (by first | omega | (dsimp only at *; omega)))) rfl (by kernel_rfl) ?_
              refine fl_on 5 rfl rfl rfl rfl (fun _ => (v_fa TF.f51_0 rfl)) rfl (by kernel_rfl) ?_
              refine fl_ond 6 rfl rfl rfl rfl (v_load rfl ((hrw st.im).1)) rfl (by kernel_rfl) ?_
              refine fl_on 7 rfl rfl rfl rfl (fun _ => (v_move' (by conv => (lhs; whnf)))) rfl (by kernel_rfl) ?_
              refine fl_on 8 rfl rfl rfl rfl (fun _ => (v_quo' (c := ((p / 64 : Nat) : Int)) rfl rfl (by omega) (by omega) (by omega) (by omega))) rfl (by kernel_rfl) ?_
              refine fl_on 9 rfl rfl rfl rfl (fun _ => (v_eql rfl rfl)) rfl (by kernel_rfl) ?_
              rw [show decide ((d.wt[x].1 : Int) = ((p / 64 : Nat) : Int)) = true from decide_eq_true (by omega)]
              refine fl_on 10 rfl rfl rfl rfl (fun _ => (v_move' (by conv => (lhs; whnf)))) rfl (by kernel_rfl) ?_
              refine fl_on 11 rfl rfl rfl rfl (fun _ => (v_move' (by conv => (lhs; whnf)))) rfl (by kernel_rfl) ?_
              refine fl_on 12 rfl rfl rfl rfl (fun _ => (v_move' (by conv => (lhs; whnf)))) rfl (by kernel_rfl) ?_
              refine fl_on 13 rfl rfl rfl rfl (fun _ => (v_ias x Try.underlying28 TF.t51 rfl rfl (by first | rfl | omega) (by first | omega | (dsimp only at *; omega)))) rfl (by kernel_rfl) ?_
              refine fl_on 14 rfl rfl rfl rfl (fun _ => (v_fa TF.f51_1 rfl)) rfl (by kernel_rfl) ?_
              refine fl_ond 15 rfl rfl rfl rfl (v_load rfl ((hrw st.im).2)) rfl (by kernel_rfl) ?_
              refine fl_on 16 rfl rfl rfl rfl (fun _ => (v_move' (by conv => (lhs; whnf)))) rfl (by kernel_rfl) ?_
              refine fl_on 17 rfl rfl rfl rfl (fun _ => (v_rem' (c := ((p % 64 : Nat) : Int)) rfl rfl (by omega) (by omega) (by omega))) rfl (by kernel_rfl) ?_
              refine fl_on 18 rfl rfl rfl rfl (fun _ => (v_ias (p % 64) Try.underlying22 TF.t5 rfl rfl (by first | rfl | omega) (by first | omega | (dsimp only at *; omega)))) rfl (by kernel_rfl) ?_
              refine fl_ond 19 rfl rfl rfl rfl (v_load rfl (hbv.byteAt hpx st.im)) rfl (by kernel_rfl) ?_
              refine fl_on 20 rfl rfl rfl rfl (fun _ => (v_move' (by conv => (lhs; whnf)))) rfl (by kernel_rfl) ?_
              refine fl_on 21 rfl rfl rfl rfl (fun _ => (v_move' (by conv => (lhs; whnf)))) rfl (by kernel_rfl) ?_
              refine fl_on 22 rfl rfl rfl rfl (fun _ => (v_ias p Try.underlying22 TF.t5 rfl rfl (by first | rfl | omega) (by first | omega | (dsimp only at *; omega)))) rfl (by kernel_rfl) ?_
              refine fl_ond 23 rfl rfl rfl rfl (v_load rfl (hs4'.byteAt hpC st.im)) rfl (by kernel_rfl) ?_
              refine fl_on 24 rfl rfl rfl rfl (fun _ => (v_eql rfl rfl)) rfl (by kernel_rfl) ?_
              refine fl_on 25 rfl rfl rfl rfl (fun _ => (v_pick rfl)) rfl (by kernel_rfl) ?_
              refine fl_val 26 rfl (fun _ => (v_pick rfl)) rfl (by kernel_rfl) ?_
              refine fl_eff1 27 [] [] (by kernel_rfl) ⟨obl_on rfl rfl rfl rfl rfl (v_load rfl (hs4'.byteAt hpC st.im)), obl_on rfl rfl rfl rfl rfl (v_load rfl (hbv.byteAt hpx st.im)), obl_on rfl rfl rfl rfl rfl (v_load rfl ((hrw st.im).2)), obl_on rfl rfl rfl rfl rfl (v_load rfl ((hrw st.im).1)), trivial⟩ rfl ?_
              refine wl_val (v_assign' (by conv => (lhs; whnf))) rfl ?_
              refine wl_nil ⟨rfl, ?_⟩
              refine fl_nil (by kernel_rfl) trivial ?_
              refine block_go (then_go ?_)
              refine wc_region ?_
              refine wl_val (v_move' (by conv => (lhs; whnf))) rfl ?_
              refine wl_val (v_add' rfl rfl rfl (by first | omega | (dsimp only at *; omega)) (by first | omega | (dsimp only at *; omega))) rfl ?_
              refine wl_val (v_assign' (by conv => (lhs; whnf))) rfl ?_
              refine wl_nil ?_
              refine then_go ?_
              refine ⟨q3 - 1, by simp; omega, x + 1, by omega, rfl, rfl, rfl, rfl, ?_, rfl, st⟩
              rw [htk, ← Bool.or_assoc, hg1, hf']
              simp only [hq, beq_self_eq_true, Bool.true_and, Bool.false_or, List.getElem?_eq_getElem hpx, Option.getD_some]
              rfl
            · rw [hg1]
              refine wc_draw TF.mixed ?_
              have st := st.pure (touch_drew _)
              refine fl_val 0 rfl (fun _ => (v_move' (by conv => (lhs; whnf)))) rfl (by kernel_rfl) ?_
              refine fl_val 1 rfl (fun _ => (v_move' (by conv => (lhs; whnf)))) rfl (by kernel_rfl) ?_
              refine fl_on 2 rfl rfl rfl rfl (fun _ => (v_move' (by conv => (lhs; whnf)))) rfl (by kernel_rfl) ?_
              refine fl_on 3 rfl rfl rfl rfl (fun _ => (v_move' (by conv => (lhs; whnf)))) rfl (by kernel_rfl) ?_
              refine fl_on 4 rfl rfl rfl rfl (fun _ => (v_ias x Try.underlying28 TF.t51 rfl rfl (by first | rfl | omega) (by first | omega | (dsimp only at *; omega)))) rfl (by kernel_rfl) ?_
              refine fl_on 5 rfl rfl rfl rfl (fun _ => (v_fa TF.f51_0 rfl)) rfl (by kernel_rfl) ?_
              refine fl_ond 6 rfl rfl rfl rfl (v_load rfl ((hrw st.im).1)) rfl (by kernel_rfl) ?_
              refine fl_on 7 rfl rfl rfl rfl (fun _ => (v_move' (by conv => (lhs; whnf)))) rfl (by kernel_rfl) ?_
              refine fl_on 8 rfl rfl rfl rfl (fun _ => (v_quo' (c := ((p / 64 : Nat) : Int)) rfl rfl (by omega) (by omega) (by omega) (by omega))) rfl (by kernel_rfl) ?_
              refine fl_on 9 rfl rfl rfl rfl (fun _ => (v_eql rfl rfl)) rfl (by kernel_rfl) ?_
              rw [show decide ((d.wt[x].1 : Int) = ((p / 64 : Nat) : Int)) = false from decide_eq_false (by omega)]
              refine fl_on 10 rfl rfl rfl rfl (fun _ => (v_move' (by conv => (lhs; whnf)))) rfl (by kernel_rfl) ?_
              refine fl_off 11 rfl rfl rfl rfl rfl rfl (by kernel_rfl) ?_
              refine fl_off 12 rfl rfl rfl rfl rfl rfl (by kernel_rfl) ?_
              refine fl_off 13 rfl rfl rfl rfl rfl rfl (by kernel_rfl) ?_
              refine fl_off 14 rfl rfl rfl rfl rfl rfl (by kernel_rfl) ?_
              refine fl_offd 15 rfl rfl rfl rfl rfl rfl (by kernel_rfl) ?_
              refine fl_off 16 rfl rfl rfl rfl rfl rfl (by kernel_rfl) ?_
              refine fl_off 17 rfl rfl rfl rfl rfl rfl (by kernel_rfl) ?_
              refine fl_off 18 rfl rfl rfl rfl rfl rfl (by kernel_rfl) ?_
              refine fl_offd 19 rfl rfl rfl rfl rfl rfl (by kernel_rfl) ?_
              refine fl_off 20 rfl rfl rfl rfl rfl rfl (by kernel_rfl) ?_
              refine fl_off 21 rfl rfl rfl rfl rfl rfl (by kernel_rfl) ?_
              refine fl_off 22 rfl rfl rfl rfl rfl rfl (by kernel_rfl) ?_
              refine fl_offd 23 rfl rfl rfl rfl rfl rfl (by kernel_rfl) ?_
              refine fl_off 24 rfl rfl rfl rfl rfl rfl (by kernel_rfl) ?_
              refine fl_on 25 rfl rfl rfl rfl (fun _ => (v_pick rfl)) rfl (by kernel_rfl) ?_
              refine fl_val 26 rfl (fun _ => (v_pick rfl)) rfl (by kernel_rfl) ?_
              refine fl_eff1 27 [] [] (by kernel_rfl) ⟨obl_off rfl rfl rfl rfl rfl rfl, obl_off rfl rfl rfl rfl rfl rfl, obl_off rfl rfl rfl rfl rfl rfl, obl_on rfl rfl rfl rfl rfl (v_load rfl ((hrw st.im).1)), trivial⟩ rfl ?_
              refine wl_val (v_assign' (by conv => (lhs; whnf))) rfl ?_
              refine wl_nil ⟨rfl, ?_⟩
              refine fl_nil (by kernel_rfl) trivial ?_
              refine block_go (then_go ?_)
              refine wc_region ?_
              refine wl_val (v_move' (by conv => (lhs; whnf))) rfl ?_
              refine wl_val (v_add' rfl rfl rfl (by first | omega | (dsimp only at *; omega)) (by first | omega | (dsimp only at *; omega))) rfl ?_
              refine wl_val (v_assign' (by conv => (lhs; whnf))) rfl ?_
              refine wl_nil ?_
              refine then_go ?_
              refine ⟨q3 - 1, by simp; omega, x + 1, by omega, rfl, rfl, rfl, rfl, ?_, rfl, st⟩
              rw [htk, ← Bool.or_assoc, hg1, hf']
              simp only [beq_eq_false_iff_ne.2 hq, Bool.false_and, Bool.false_or]
              rfl
        · refine wc_exit (then_exit (then_exit (block_hit ?_)))
          refine then_go ?_
          refine wc_seq ?_
          have hxe : x = d.wt.length := by omega
          have hall : (b0 || (d.wt.take x).any f) = true := by
            rw [hxe, List.take_length]
            have hp64 : p < 64 * k := by omega
            have hCp : C[p]? = some C[p] := List.getElem?_eq_getElem hpC
            have hSp : d.S[p]? = some d.S[p] := List.getElem?_eq_getElem hpS
            rcases crash_byte (keep := keep) d.wt 0 d.S hSl hwt hp64 with h | ⟨y, hy, h1, h2⟩
            · rw [← hC, hCp, hSp] at h
              have : b0 = true := by rw [hb0, Option.some.inj h]; exact decide_eq_true rfl
              rw [this]
              rfl
            · rw [← hC, hCp] at h2
              have : d.wt.any f = true := List.any_eq_true.2 ⟨y, hy, by rw [hf']; simp [h1, ← h2]⟩
              rw [this, Bool.or_true]
          rw [hall]
          refine wc_region ?_
          refine wl_val (v_move' (by conv => (lhs; whnf))) rfl ?_
          refine wl_val (v_not rfl) rfl ?_
          refine wl_nil ?_
          refine then_go ?_
          refine wc_false rfl ?_
          refine wc_skip ?_
          refine block_go (then_go ?_)
          refine wc_region ?_
          refine wl_val (v_move' (by conv => (lhs; whnf))) rfl ?_
          refine wl_val (v_add' rfl rfl rfl (by first | omega | (dsimp only at *; omega)) (by first | omega | (dsimp only at *; omega))) rfl ?_
          refine wl_val (v_assign' (by conv => (lhs; whnf))) rfl ?_
          refine wl_nil ?_
          refine then_go ?_
          exact ⟨q2 - 1, by simp; omega, p + 1, by omega, rfl, rfl, rfl, rfl, st⟩
      · refine wc_exit (then_exit (then_exit (block_hit ?_)))
        refine then_go ?_
        refine wc_seq ?_
        refine wc_region ?_
        refine wl_call rfl (c_works st.im) rfl ?_
        rintro v26 w ⟨t, rfl⟩
        have st := st.pure t
        refine wl_val (v_assign' (by conv => (lhs; whnf))) rfl ?_
        refine wl_nil ?_
        refine then_go ?_
        refine wc_ret ?_
        exact ret1 rfl ⟨(st.keepOnly (l := []) (List.nil_sublist _)).touch, rfl⟩
end
end Go.Proofs.Ytekhcjgmgflmkaa
