/-
  The law DiskFused.
-/
import Derived.Test.YtekhcjgmgflmkaaDo
namespace Go.Proofs.Ytekhcjgmgflmkaa
open Go Go.RowKit K DK

section
variable {m : Mem} {wI : World}

/-- A disk whose fuse has burned down: nothing turns it. -/
theorem dead_write {d : DS} (h : d.down = true) (n : Nat) (i : Int) (l : By) : writeD d n i l = (d, 14) := by simp [writeD, h]
theorem dead_sync {d : DS} (h : d.down = true) : syncD d = (d, 14) := by simp [syncD, h]
theorem dead_read {d : DS} (h : d.down = true) (n : Nat) (i : Int) : readD d n i = ([], 14) := by simp [readD, h]

theorem l_fused {n : Int} {lv mv : Value} {L Mo : List (Act × Value)} (him : Im m wI) (hl : OpsM m lv L) (hmo : OpsM m mv Mo) : Ret Try.prog 7 #[.int .i64 n, lv, mv] wI fun v w' => Tch wI w' [] [] ∧ v = .bool true := by
  have st := St.start him
  obtain ⟨_, la, lc, rfl, hlk, _⟩ := hl.1
  obtain ⟨_, ma, mc, rfl, hmk, _⟩ := hmo.1
  refine ret_of Try.call7 Try.func7 rfl Try.ntmps7 Try.results7 rfl ?_
  refine wc_seq ?_
  refine wc_region ?_
  refine wl_val (v_assign' (by conv => (lhs; whnf))) rfl ?_
  refine wl_nil ?_
  refine then_go ?_
  refine wc_seq ?_
  refine wc_region ?_
  refine wl_val (v_move' (by conv => (lhs; whnf))) rfl ?_
  refine wl_call rfl (c_start n st) rfl ?_
  rintro v18 w ⟨k, m1, b, s, wv, rv, hk1, hk8, rfl, hm1, st, hR⟩
  obtain ⟨cs, rfl, hcs, hcone⟩ := refM_one hR
  refine wl_val (v_move' (by conv => (lhs; whnf))) rfl ?_
  refine wl_val (v_extract rfl rfl) rfl ?_
  refine wl_val (v_extract rfl rfl) rfl ?_
  refine wl_alloc TF.z30 st rfl ?_
  intro b8 w st
  refine wl_val (v_assign' (by conv => (lhs; whnf))) rfl ?_
  refine wl_storeW (cs := cs) 0 st rfl TF.t30 rfl rfl hcs rfl hcone ?_
  intro w st
  have st := st.perm (List.Perm.swap _ _ _)
  refine wl_nil ?_
  refine then_go ?_
  refine wc_seq ?_
  refine wc_seq ?_
  refine wc_region ?_
  refine wl_val (v_move' (by conv => (lhs; whnf))) rfl ?_
  refine wl_val (v_eq_nil Try.underlying24 rfl rfl) rfl ?_
  refine wl_nil ?_
  refine then_go ?_
  refine wc_false rfl ?_
  refine wc_skip ?_
  refine then_go ?_
  refine wc_cut (fun r w' => St m m1 [] wI w' [diskO b s k wv (newD k), blk b8 cs 30] ∧ r 1 = .slice la L.length lc ∧ r 2 = .slice ma Mo.length mc ∧ r 7 = .pointer (some ⟨b, 0, none⟩) ∧ r 8 = .pointer (some ⟨b8, 0, none⟩) ∧ (L.length : Int) ≤ 60 ∧ (Mo.length : Int) ≤ 60) ?_ ?_
  · refine wc_seq ?_
    refine wc_region ?_
    refine wl_val (v_move' (by conv => (lhs; whnf))) rfl ?_
    refine wl_call rfl (c_few (v := .slice la L.length lc) st.im) rfl ?_
    rintro v24 w ⟨rfl, rfl⟩
    refine wl_val (v_not rfl) rfl ?_
    refine wl_val (v_move' (by conv => (lhs; whnf))) rfl ?_
    rcases Bool.eq_false_or_eq_true (!decide ((L.length : Int) ≤ 60)) with hg3 | hg3
    · rw [hg3]
      refine wl_off rfl rfl rfl rfl ?_
      refine wl_off rfl rfl rfl rfl ?_
      refine wl_off rfl rfl rfl rfl ?_
      refine wl_val (v_pick rfl) rfl ?_
      refine wl_nil ?_
      refine then_go ?_
      refine wc_true rfl ?_
      refine wc_seq ?_
      refine wc_region ?_
      refine wl_call rfl (c_works st.im) rfl ?_
      rintro v26 w ⟨t, rfl⟩
      have st := st.pure t
      refine wl_val (v_assign' (by conv => (lhs; whnf))) rfl ?_
      refine wl_nil ?_
      refine then_go ?_
      refine wc_ret (then_ret ?_)
      exact ret1 rfl ⟨(st.keepOnly (l := []) (List.nil_sublist _)).touch, rfl⟩
    · rw [hg3]
      refine wl_on rfl rfl ?_
      refine wl_val (v_move' (by conv => (lhs; whnf))) rfl ?_
      refine wl_on rfl rfl ?_
      refine wl_call rfl (c_few (v := .slice ma Mo.length mc) st.im) rfl ?_
      rintro v28 w ⟨rfl, rfl⟩
      refine wl_on rfl rfl ?_
      refine wl_val (v_not rfl) rfl ?_
      refine wl_val (v_pick rfl) rfl ?_
      refine wl_nil ?_
      refine then_go ?_
      refine wc_cond rfl (fun h30 => ?_) (fun h30 => ?_)
      · refine wc_seq ?_
        refine wc_region ?_
        refine wl_call rfl (c_works st.im) rfl ?_
        rintro v26 w ⟨t, rfl⟩
        have st := st.pure t
        refine wl_val (v_assign' (by conv => (lhs; whnf))) rfl ?_
        refine wl_nil ?_
        refine then_go ?_
        refine wc_ret (then_ret ?_)
        exact ret1 rfl ⟨(st.keepOnly (l := []) (List.nil_sublist _)).touch, rfl⟩
      · refine wc_skip ?_
        refine then_go ?_
        exact ⟨st, rfl, rfl, rfl, rfl, by simpa using hg3, by simpa using h30⟩
  · clear st
    rintro r w ⟨st, h1, h2, h7, h8, hLf, hMf⟩
    refine wc_o 1 h1 (wc_o 2 h2 (wc_o 7 h7 (wc_o 8 h8 ?_)))
    refine wc_seq ?_
    refine wc_seq ?_
    refine wc_region ?_
    refine wl_val (v_assign' (by conv => (lhs; whnf))) rfl ?_
    refine wl_nil ?_
    refine then_go ?_
    refine wc_block ?_
    have hf0 : Few (newD k) 0 := ⟨Nat.le_refl _, by show (-1 : Int) ≤ -1; omega, by show (-1 : Int) ≤ _; omega⟩
    have hL60 : L.length ≤ 60 := by
      omega
    refine wc_loop (S := Nat) (fun q r w' => ∃ j m2 wv d cs, q + j = L.length ∧ r 1 = .slice la L.length lc ∧ r 2 = .slice ma Mo.length mc ∧ r 7 = .pointer (some ⟨b, 0, none⟩) ∧ r 8 = .pointer (some ⟨b8, 0, none⟩) ∧ r 9 = .int .i64 j ∧ RefM m2 (.agg cs) k d ∧ cs.size = 4 ∧ (∀ u ∈ cs.toList, u.oneCell' = true) ∧ Few d j ∧ (∀ k o, m k = some o → m2 k = some o) ∧
      St m m2 [] wI w' [diskO b s k wv d, blk b8 cs 30]) id L.length ⟨0, m1, wv, _, cs, rfl, rfl, rfl, rfl, rfl, rfl, hR, hcs, hcone, hf0, hm1, st⟩ ?_
    rintro q r w2 ⟨j, m2, wv2, d, cs, hqj, h1, h2, h7, h8, h9, hR, hcs, hcone, hf, hm2, st⟩
    refine wc_o 1 h1 (wc_o 2 h2 (wc_o 7 h7 (wc_o 8 h8 (wc_o 9 h9 ?_))))
    refine wc_seq ?_
    refine wc_seq ?_
    refine wc_region ?_
    refine wl_val (v_move' (by conv => (lhs; whnf))) rfl ?_
    refine wl_val (v_move' (by conv => (lhs; whnf))) rfl ?_
    refine wl_val (v_len_s Try.underlying38 rfl) rfl ?_
    refine wl_val (v_lss rfl rfl) rfl ?_
    refine wl_nil ?_
    refine then_go ?_
    refine wc_if rfl (fun h35 => ?_) (fun h35 => ?_)
    · refine wc_skip ?_
      refine then_go ?_
      refine wc_seq ?_
      refine wc_block ?_
      have hj : j < L.length := by omega
      obtain ⟨xv, lb, lo, lcap, hlv, hkv, hNb, hrd⟩ := (hl.mono hm2).elem hj
      cases hlv
      refine wc_draw TF.mixed ?_
      have st := st.pure (touch_drew _)
      refine fl_val 0 rfl (fun _ => (v_move' (by conv => (lhs; whnf)))) rfl (by kernel_rfl) ?_
      refine fl_ld 1 rfl (v_load rfl (st.reads 1 rfl TF.t30 (getV_all hcs))) (by kernel_rfl) ?_
      refine fl_val 2 rfl (fun _ => (v_move' (by conv => (lhs; whnf)))) rfl (by kernel_rfl) ?_
      refine fl_val 3 rfl (fun _ => (v_move' (by conv => (lhs; whnf)))) rfl (by kernel_rfl) ?_
      refine fl_val 4 rfl (fun _ => (v_ias j Try.underlying38 TF.t46 rfl rfl (by first | rfl | omega) (by first | omega | (dsimp only at *; omega)))) rfl (by kernel_rfl) ?_
      refine fl_ld 5 rfl (v_load rfl ((hrd st.im).1)) (by kernel_rfl) ?_
      refine fl_eff1 6 [4, 3, 2] [] (by kernel_rfl) ⟨obl_ld rfl rfl rfl (v_load rfl ((hrd st.im).1)), obl_ld rfl rfl rfl (v_load rfl (st.reads 1 rfl TF.t30 (getV_all hcs))), trivial⟩ rfl ?_
      refine wl_call rfl (c_step st hR hf (by omega) hkv hNb) rfl ?_
      rintro v40 w ⟨m3, wv3, d3, rv3, rfl, hm3, st, hR3, hf3⟩
      obtain ⟨cs3, rfl, hcs3, hcone3⟩ := refM_one hR3
      refine wl_nil ⟨rfl, ?_⟩
      refine fl_val 7 rfl (fun _ => (v_move' (by conv => (lhs; whnf)))) rfl (by kernel_rfl) ?_
      refine fl_val 8 rfl (fun _ => (v_extract rfl rfl)) rfl (by kernel_rfl) ?_
      refine fl_val 9 rfl (fun _ => (v_extract rfl rfl)) rfl (by kernel_rfl) ?_
      refine fl_eff1 10 [9] [] (by kernel_rfl) trivial rfl ?_
      refine wl_storeW (cs := cs3) 1 st rfl TF.t30 rfl rfl hcs3 hcs hcone3 ?_
      intro w st
      refine wl_nil ⟨rfl, ?_⟩
      refine fl_nil (by kernel_rfl) trivial ?_
      refine block_go (then_go ?_)
      refine wc_region ?_
      refine wl_val (v_move' (by conv => (lhs; whnf))) rfl ?_
      refine wl_val (v_add' rfl rfl rfl (by first | omega | (dsimp only at *; omega)) (by first | omega | (dsimp only at *; omega))) rfl ?_
      refine wl_val (v_assign' (by conv => (lhs; whnf))) rfl ?_
      refine wl_nil ?_
      refine then_go ?_
      exact ⟨q - 1, by simp; omega, j + 1, m3, wv3, d3, cs3, by omega, rfl, rfl, rfl, rfl, rfl, hR3, hcs3, hcone3, hf3, fun k o h => hm3 k o (hm2 k o h), st⟩
    · refine wc_exit (then_exit (then_exit (block_hit ?_)))
      refine then_go ?_
      refine wc_seq ?_
      refine wc_region ?_
      refine wl_val (v_move' (by conv => (lhs; whnf))) rfl ?_
      refine wl_call rfl (disk_callAt 0 st rfl (c_fuse 0 st.im (st.at (i := 0) rfl) (st.none (i := 0) rfl))) rfl ?_
      rintro v49 w ⟨wv4, d4, st, hd4⟩
      change St _ _ _ _ _ [diskO b s k wv4 d4, _] at st
      have ok4 : d4.ok k := by rw [hd4]; exact ⟨hR.ok.pos, hR.ok.len, hR.ok.le, hR.ok.wt⟩
      have f4 : d4.fuse = 0 := by rw [hd4]; rfl
      have w4 : d4.wt.length ≤ 60 := by rw [hd4]; have := hf.wt; show d.wt.length ≤ _; omega
      have hsy : (syncD d4).2 = 14 ∧ (syncD d4).1.down = true ∧ (syncD d4).1.S = d4.S ∧ (syncD d4).1.wt = d4.wt ∧ (syncD d4).1.fuse = 0 := by
        unfold syncD
        split
        · rename_i h
          exact ⟨rfl, h, rfl, rfl, f4⟩
        · exact ⟨rfl, by simp [burn, f4], rfl, rfl, by simp [burn, f4]⟩
      refine wl_nil ?_
      refine then_go ?_
      refine wc_seq ?_
      refine wc_seq ?_
      refine wc_region ?_
      refine wl_val (v_move' (by conv => (lhs; whnf))) rfl ?_
      refine wl_call rfl (disk_callAt 0 st rfl (c_sync st.im (st.at (i := 0) rfl) (st.none (i := 0) rfl) ok4 (by rw [f4]; decide) (by omega))) rfl ?_
      rintro v51 w ⟨wv5, d5, st, hd5, rfl⟩
      change St _ _ _ _ _ [diskO b s k wv5 d5, _] at st
      rw [hsy.1]
      have dn5 : d5.down = true := by rw [hd5]; exact hsy.2.1
      have w5 : d5.wt.length ≤ 60 := by rw [hd5, hsy.2.2.2.1]; exact w4
      have f5 : d5.fuse = 0 := by rw [hd5]; exact hsy.2.2.2.2
      have ok5 : d5.ok k := by rw [hd5]; exact ⟨ok4.pos, by rw [hsy.2.2.1]; exact ok4.len, ok4.le, by rw [hsy.2.2.2.1]; exact ok4.wt⟩
      refine wl_val (v_neq rfl rfl) rfl ?_
      refine wl_nil ?_
      refine then_go ?_
      refine wc_false rfl ?_
      refine wc_skip ?_
      refine then_go ?_
      refine wc_seq ?_
      refine wc_region ?_
      refine wl_val (v_move' (by conv => (lhs; whnf))) rfl ?_
      refine wl_call rfl (c_dump (im_heapM _) (diskAt 0 st rfl ok5)) rfl ?_
      rintro v54 w ⟨t, m4, hfr, him4, hs4⟩
      obtain ⟨m5, hle3, hle4, st⟩ := st.absorb t hfr him4
      have hs4 := hs4.mono hle4
      refine wl_val (v_move' (by conv => (lhs; whnf))) rfl ?_
      refine wl_call rfl (c_pending (im_heapM _) (diskAt 0 st rfl ok5)) rfl ?_
      rintro v56 w ⟨rfl, rfl⟩
      refine wl_val (v_assign' (by conv => (lhs; whnf))) rfl ?_
      refine wl_val (v_assign' (by conv => (lhs; whnf))) rfl ?_
      refine wl_nil ?_
      refine then_go ?_
      refine wc_seq ?_
      refine wc_seq ?_
      refine wc_region ?_
      refine wl_val (v_assign' (by conv => (lhs; whnf))) rfl ?_
      refine wl_nil ?_
      refine then_go ?_
      refine wc_block ?_
      refine wc_loop (S := Nat) (fun q r w' => ∃ x m6 wv6, q + x = Mo.length ∧ r 2 = .slice ma Mo.length mc ∧ r 7 = .pointer (some ⟨b, 0, none⟩) ∧ r 10 = v54 ∧ r 11 = .int .i64 d5.wt.length ∧ r 12 = .int .i64 x ∧ (∀ k o, m5 k = some o → m6 k = some o) ∧ St m m6 [] wI w' [diskO b s k wv6 d5]) id Mo.length ⟨0, m5, wv5, by omega, rfl, rfl, rfl, rfl, rfl, fun _ _ h => h, st.drop 1⟩ ?_
      clear st
      rintro q2 r w3 ⟨x, m6, wv6, hqx, h2, h7, h10, h11, h12, hm6, st⟩
      refine wc_o 2 h2 (wc_o 7 h7 (wc_o 10 h10 (wc_o 11 h11 (wc_o 12 h12 ?_))))
      refine wc_seq ?_
      refine wc_seq ?_
      refine wc_region ?_
      refine wl_val (v_move' (by conv => (lhs; whnf))) rfl ?_
      refine wl_val (v_move' (by conv => (lhs; whnf))) rfl ?_
      refine wl_val (v_len_s Try.underlying38 rfl) rfl ?_
      refine wl_val (v_lss rfl rfl) rfl ?_
      refine wl_nil ?_
      refine then_go ?_
      refine wc_if rfl (fun h60 => ?_) (fun h60 => ?_)
      · refine wc_skip ?_
        refine then_go ?_
        refine wc_seq ?_
        refine wc_block ?_
        refine wc_seq ?_
        refine wc_region ?_
        refine wl_val (v_assign' (by conv => (lhs; whnf))) rfl ?_
        refine wl_nil ?_
        refine then_go ?_
        refine wc_seq ?_
        refine wc_seq ?_
        have hx : x < Mo.length := by omega
        obtain ⟨xv, mb, mo, mcap, hmv, hkv, hNb, hrd⟩ := (hmo.mono (fun k o h => hm6 k o (hle3 k o (hm2 k o h)))).elem hx
        simp only [Value.slice.injEq] at hmv
        obtain ⟨hma, _, _⟩ := hmv
        rw [hma]
        refine wc_region ?_
        refine wl_val (v_move' (by conv => (lhs; whnf))) rfl ?_
        refine wl_val (v_move' (by conv => (lhs; whnf))) rfl ?_
        refine wl_val (v_ias x Try.underlying38 TF.t46 rfl rfl (by first | rfl | omega) (by first | omega | (dsimp only at *; omega))) rfl ?_
        refine wl_val (v_fa TF.f46_0 rfl) rfl ?_
        refine wl_val (v_load rfl ((hrd st.im).2.1)) rfl ?_
        refine wl_nil ?_
        refine then_go ?_
        refine wc_block ?_
        refine wc_seq ?_
        refine wc_region ?_
        refine wl_val (v_eql rfl rfl) rfl ?_
        refine wl_val (v_assign' (by conv => (lhs; whnf))) rfl ?_
        refine wl_nil ?_
        refine then_go ?_
        refine wc_if rfl (fun h68 => ?_) (fun h68 => ?_)
        · refine wc_region ?_
          refine wl_val (v_move' (by conv => (lhs; whnf))) rfl ?_
          refine wl_val (v_move' (by conv => (lhs; whnf))) rfl ?_
          refine wl_val (v_move' (by conv => (lhs; whnf))) rfl ?_
          refine wl_val (v_ias x Try.underlying38 TF.t46 rfl rfl (by first | rfl | omega) (by first | omega | (dsimp only at *; omega))) rfl ?_
          refine wl_val (v_fa TF.f46_1 rfl) rfl ?_
          refine wl_val (v_load rfl ((hrd st.im).2.2)) rfl ?_
          refine wl_call rfl (c_read _ (im_heapM _) (diskAt 0 st rfl ok5)) rfl ?_
          rintro v77 w ⟨t, sv8, _, rfl⟩
          have st := st.pure t
          rw [dead_read dn5]
          refine wl_val (v_move' (by conv => (lhs; whnf))) rfl ?_
          refine wl_val (v_extract rfl rfl) rfl ?_
          refine wl_val (v_extract rfl rfl) rfl ?_
          refine wl_val (v_assign' (by conv => (lhs; whnf))) rfl ?_
          refine wl_nil ?_
          refine block_go (then_go ?_)
          refine wc_seq ?_
          refine wc_region ?_
          refine wl_val (v_move' (by conv => (lhs; whnf))) rfl ?_
          refine wl_val (v_neq rfl rfl) rfl ?_
          refine wl_nil ?_
          refine then_go ?_
          refine wc_false rfl ?_
          refine wc_skip ?_
          refine block_go (then_go ?_)
          refine wc_region ?_
          refine wl_val (v_move' (by conv => (lhs; whnf))) rfl ?_
          refine wl_val (v_add' rfl rfl rfl (by first | omega | (dsimp only at *; omega)) (by first | omega | (dsimp only at *; omega))) rfl ?_
          refine wl_val (v_assign' (by conv => (lhs; whnf))) rfl ?_
          refine wl_nil ?_
          refine then_go ?_
          exact ⟨q2 - 1, by simp; omega, x + 1, m6, _, by omega, rfl, rfl, rfl, rfl, rfl, hm6, st⟩
        · refine wc_seq ?_
          refine wc_region ?_
          refine wl_val (v_eql rfl rfl) rfl ?_
          refine wl_val (v_assign' (by conv => (lhs; whnf))) rfl ?_
          refine wl_nil ?_
          refine then_go ?_
          refine wc_if rfl (fun h80 => ?_) (fun h80 => ?_)
          · refine wc_draw TF.mixed ?_
            have st := st.pure (touch_drew _)
            refine fl_val 0 rfl (fun _ => (v_move' (by conv => (lhs; whnf)))) rfl (by kernel_rfl) ?_
            refine fl_val 1 rfl (fun _ => (v_move' (by conv => (lhs; whnf)))) rfl (by kernel_rfl) ?_
            refine fl_val 2 rfl (fun _ => (v_move' (by conv => (lhs; whnf)))) rfl (by kernel_rfl) ?_
            refine fl_val 3 rfl (fun _ => (v_ias x Try.underlying38 TF.t46 rfl rfl (by first | rfl | omega) (by first | omega | (dsimp only at *; omega)))) rfl (by kernel_rfl) ?_
            refine fl_val 4 rfl (fun _ => (v_fa TF.f46_1 rfl)) rfl (by kernel_rfl) ?_
            refine fl_ld 5 rfl (v_load rfl ((hrd (by first | exact st.im | exact fun _ _ h => st.im _ _ (hg7.le _ _ h))).2.2)) (by kernel_rfl) ?_
            refine fl_val 6 rfl (fun _ => (v_move' (by conv => (lhs; whnf)))) rfl (by kernel_rfl) ?_
            refine fl_val 7 rfl (fun _ => (v_move' (by conv => (lhs; whnf)))) rfl (by kernel_rfl) ?_
            refine fl_val 8 rfl (fun _ => (v_ias x Try.underlying38 TF.t46 rfl rfl (by first | rfl | omega) (by first | omega | (dsimp only at *; omega)))) rfl (by kernel_rfl) ?_
            refine fl_ld 9 rfl (v_load rfl ((hrd (by first | exact st.im | exact fun _ _ h => st.im _ _ (hg7.le _ _ h))).1)) (by kernel_rfl) ?_
            refine fl_eff1 10 [8, 7, 6, 4, 3, 2, 1, 0] [5] (by kernel_rfl) ⟨obl_ld rfl rfl rfl (v_load rfl ((hrd (by first | exact st.im | exact fun _ _ h => st.im _ _ (hg7.le _ _ h))).1)), obl_ld rfl rfl rfl (v_load rfl ((hrd (by first | exact st.im | exact fun _ _ h => st.im _ _ (hg7.le _ _ h))).2.2)), trivial⟩ rfl ?_
            refine wl_call rfl (c_opbytes st.im (by obtain ⟨_, a, c, rfl, _⟩ := hkv; rfl)) rfl ?_
            rintro v92 w ⟨b92, rfl, t, hb92⟩
            have st := st.new (E := blk b92 _ _) t hb92
            obtain ⟨m7, hg7, hm7, st⟩ := st.freeze (i := 0) rfl (by simp)
            change St _ _ _ _ _ [_] at st
            have hlen : (List.replicate (opN Mo[x].1.N) Mo[x].1.c).length = opN Mo[x].1.N := List.length_replicate
            have hbm : SlM m7 (.slice (some ⟨b92, 0, none⟩) (opN Mo[x].1.N) (opN Mo[x].1.N)) 1 (List.replicate (opN Mo[x].1.N) Mo[x].1.c).length (bs (List.replicate (opN Mo[x].1.N) Mo[x].1.c)) := by
              rw [hlen]
              exact SlM.of hm7 (by simp [bs]) (Nat.le_refl _) (fun j u hj => by simpa using hj)
            refine wl_nil ⟨rfl, ?_⟩
            refine fl_eff1 11 [8, 7, 6, 4, 3, 2, 1] [] (by kernel_rfl) ⟨obl_ld rfl rfl rfl (v_load rfl ((hrd (by first | exact st.im | exact fun _ _ h => st.im _ _ (hg7.le _ _ h))).2.2)), trivial⟩ rfl ?_
            refine wl_call rfl (disk_callAt 0 st rfl (c_write _ st.im (st.at (i := 0) rfl) (st.none (i := 0) rfl) ok5 (by rw [f5]; decide) (by omega) hbm)) rfl ?_
            rintro v93 w ⟨wv7, d7, st, hd7, rfl⟩
            rw [dead_write dn5] at hd7 ⊢
            rw [hd7] at st
            change St _ _ _ _ _ [diskO b s k wv7 d5] at st
            refine wl_nil ⟨rfl, ?_⟩
            refine fl_eff1 12 [] [] (by kernel_rfl) trivial rfl ?_
            refine wl_val (v_assign' (by conv => (lhs; whnf))) rfl ?_
            refine wl_nil ⟨rfl, ?_⟩
            refine fl_nil (by kernel_rfl) trivial ?_
            refine block_go (then_go ?_)
            refine wc_seq ?_
            refine wc_region ?_
            refine wl_val (v_move' (by conv => (lhs; whnf))) rfl ?_
            refine wl_val (v_neq rfl rfl) rfl ?_
            refine wl_nil ?_
            refine then_go ?_
            refine wc_false rfl ?_
            refine wc_skip ?_
            refine block_go (then_go ?_)
            refine wc_region ?_
            refine wl_val (v_move' (by conv => (lhs; whnf))) rfl ?_
            refine wl_val (v_add' rfl rfl rfl (by first | omega | (dsimp only at *; omega)) (by first | omega | (dsimp only at *; omega))) rfl ?_
            refine wl_val (v_assign' (by conv => (lhs; whnf))) rfl ?_
            refine wl_nil ?_
            refine then_go ?_
            exact ⟨q2 - 1, by simp; omega, x + 1, m7, _, by omega, rfl, rfl, rfl, rfl, rfl, fun k o h => hg7.le k o (hm6 k o h), st⟩
          · refine wc_seq ?_
            refine wc_region ?_
            refine wl_val (v_eql rfl rfl) rfl ?_
            refine wl_val (v_assign' (by conv => (lhs; whnf))) rfl ?_
            refine wl_nil ?_
            refine then_go ?_
            refine wc_if rfl (fun h94 => ?_) (fun h94 => ?_)
            · refine wc_region ?_
              refine wl_val (v_move' (by conv => (lhs; whnf))) rfl ?_
              refine wl_call rfl (disk_callAt 0 st rfl (c_sync st.im (st.at (i := 0) rfl) (st.none (i := 0) rfl) ok5 (by rw [f5]; decide) (by omega))) rfl ?_
              rintro v97 w ⟨wv7, d7, st, hd7, rfl⟩
              rw [dead_sync dn5] at hd7 ⊢
              rw [hd7] at st
              change St _ _ _ _ _ [diskO b s k wv7 d5] at st
              refine wl_val (v_assign' (by conv => (lhs; whnf))) rfl ?_
              refine wl_nil ?_
              refine block_go (then_go ?_)
              refine wc_seq ?_
              refine wc_region ?_
              refine wl_val (v_move' (by conv => (lhs; whnf))) rfl ?_
              refine wl_val (v_neq rfl rfl) rfl ?_
              refine wl_nil ?_
              refine then_go ?_
              refine wc_false rfl ?_
              refine wc_skip ?_
              refine block_go (then_go ?_)
              refine wc_region ?_
              refine wl_val (v_move' (by conv => (lhs; whnf))) rfl ?_
              refine wl_val (v_add' rfl rfl rfl (by first | omega | (dsimp only at *; omega)) (by first | omega | (dsimp only at *; omega))) rfl ?_
              refine wl_val (v_assign' (by conv => (lhs; whnf))) rfl ?_
              refine wl_nil ?_
              refine then_go ?_
              exact ⟨q2 - 1, by simp; omega, x + 1, m6, _, by omega, rfl, rfl, rfl, rfl, rfl, hm6, st⟩
            · refine wc_skip ?_
              refine block_go (then_go ?_)
              refine wc_seq ?_
              refine wc_region ?_
              refine wl_val (v_move' (by conv => (lhs; whnf))) rfl ?_
              refine wl_val (v_neq rfl rfl) rfl ?_
              refine wl_nil ?_
              refine then_go ?_
              refine wc_false rfl ?_
              refine wc_skip ?_
              refine block_go (then_go ?_)
              refine wc_region ?_
              refine wl_val (v_move' (by conv => (lhs; whnf))) rfl ?_
              refine wl_val (v_add' rfl rfl rfl (by first | omega | (dsimp only at *; omega)) (by first | omega | (dsimp only at *; omega))) rfl ?_
              refine wl_val (v_assign' (by conv => (lhs; whnf))) rfl ?_
              refine wl_nil ?_
              refine then_go ?_
              exact ⟨q2 - 1, by simp; omega, x + 1, m6, _, by omega, rfl, rfl, rfl, rfl, rfl, hm6, st⟩
      · refine wc_exit (then_exit (then_exit (block_hit ?_)))
        refine then_go ?_
        refine wc_seq ?_
        refine wc_seq ?_
        refine wc_region ?_
        refine wl_val (v_move' (by conv => (lhs; whnf))) rfl ?_
        refine wl_call rfl (c_dump (im_heapM _) (diskAt 0 st rfl ok5)) rfl ?_
        rintro v101 w ⟨t, m8, hfr8, him8, hs8⟩
        obtain ⟨m9, hle8, hle9, st⟩ := st.absorb t hfr8 him8
        refine wl_val (v_move' (by conv => (lhs; whnf))) rfl ?_
        refine wl_call rfl (c_same st.im (hs8.mono hle9) ((hs4.mono hm6).mono hle8)) rfl ?_
        rintro v103 w ⟨rfl, rfl⟩
        rw [show decide (dump d5 = dump d5) = true from decide_eq_true rfl]
        refine wl_val (v_not rfl) rfl ?_
        refine wl_val (v_move' (by conv => (lhs; whnf))) rfl ?_
        refine wl_on rfl rfl ?_
        refine wl_val (v_move' (by conv => (lhs; whnf))) rfl ?_
        refine wl_on rfl rfl ?_
        refine wl_call rfl (c_pending (im_heapM _) (diskAt 0 st rfl ok5)) rfl ?_
        rintro v107 w ⟨rfl, rfl⟩
        refine wl_on rfl rfl ?_
        refine wl_val (v_move' (by conv => (lhs; whnf))) rfl ?_
        refine wl_on rfl rfl ?_
        refine wl_val (v_neq rfl rfl) rfl ?_
        rw [show decide (¬ ((d5.wt.length : Nat) : Int) = d5.wt.length) = false from decide_eq_false (fun h => h rfl)]
        refine wl_val (v_pick rfl) rfl ?_
        refine wl_nil ?_
        refine then_go ?_
        refine wc_false rfl ?_
        refine wc_skip ?_
        refine then_go ?_
        refine wc_seq ?_
        refine wc_region ?_
        refine wl_val (v_move' (by conv => (lhs; whnf))) rfl ?_
        refine wl_call rfl (disk_callAt 0 st rfl (c_crash (keep := []) st.im (st.at (i := 0) rfl) (st.none (i := 0) rfl) ok5 (by omega) SlM.nil)) rfl ?_
        rintro v112 w ⟨wv8, d8, st, hd8⟩
        change St _ _ _ _ _ [diskO b s k wv8 d8] at st
        have ok8 : d8.ok k := by
          rw [hd8]
          exact ⟨ok5.pos, crashS_len _ _ _ ok5.len ok5.wt, ok5.le, by simp [crashD]⟩
        have hrd8 : (readD d8 k 0).2 = 0 := by
          have hk0 : ¬ ((0 : Int) < 0 ∨ (0 : Int) ≥ k) := by omega
          rw [hd8]
          unfold readD
          rw [if_neg (by simp [crashD]), if_neg hk0]
        refine wl_nil ?_
        refine then_go ?_
        refine wc_seq ?_
        refine wc_region ?_
        refine wl_val (v_move' (by conv => (lhs; whnf))) rfl ?_
        refine wl_call rfl (c_read 0 (im_heapM _) (diskAt 0 st rfl ok8)) rfl ?_
        rintro v115 w ⟨t, sv9, _, rfl⟩
        have st := st.pure t
        rw [hrd8]
        refine wl_val (v_move' (by conv => (lhs; whnf))) rfl ?_
        refine wl_val (v_extract rfl rfl) rfl ?_
        refine wl_val (v_extract rfl rfl) rfl ?_
        refine wl_val (v_assign' (by conv => (lhs; whnf))) rfl ?_
        refine wl_val (v_assign' (by conv => (lhs; whnf))) rfl ?_
        refine wl_nil ?_
        refine then_go ?_
        refine wc_seq ?_
        refine wc_region ?_
        refine wl_val (v_move' (by conv => (lhs; whnf))) rfl ?_
        refine wl_val (v_eql rfl rfl) rfl ?_
        refine wl_val (v_move' (by conv => (lhs; whnf))) rfl ?_
        refine wl_on rfl rfl ?_
        refine wl_call rfl (c_works st.im) rfl ?_
        rintro v26 w ⟨t, rfl⟩
        have st := st.pure t
        refine wl_val (v_pick rfl) rfl ?_
        refine wl_val (v_assign' (by conv => (lhs; whnf))) rfl ?_
        refine wl_nil ?_
        refine then_go ?_
        refine wc_ret ?_
        exact ret1 rfl ⟨(st.keepOnly (l := []) (List.nil_sublist _)).touch, rfl⟩
end
end Go.Proofs.Ytekhcjgmgflmkaa
