/-
  The reference's disk: Sync, Crash, Load; texts compared; acts.
-/
import Derived.Test.YtekhcjgmgflmkaaDh
import Derived.Laws.BytesArg
namespace Go.Proofs.Ytekhcjgmgflmkaa
open Go Go.RowKit K DK

section
variable {m : Mem} {wI : World} {n : Nat} {d : DS}

theorem c_rsync {v : Value} (him : Im m wI) (hd : RefM m v n d) (hfew : d.wt.length ≤ 1000000) (hf : -1 ≤ d.fuse ∧ d.fuse ≤ 9223372036854775807) :
    Ret Try.prog 28 #[v] wI fun v' w' => Out m wI w' fun m' => ∃ rv, v' = .tuple #[rv, .int .i64 (syncD d).2] ∧ RefM m' rv n (syncD d).1 := by
  have hd0 := hd
  obtain ⟨ok, sv, wv, rfl, hs, hw⟩ := hd
  have ok3 := ok.len
  have hso : sv.oneCell' = true := by obtain ⟨_, a, c, rfl, _⟩ := hs; rfl
  have hwo : wv.oneCell' = true := by obtain ⟨a, c, rfl, _⟩ := hw.len; rfl
  have hf1 := hf.1
  have hf2 := hf.2
  have st := St.start him
  refine ret_of Try.call28 Try.func28 rfl Try.ntmps28 Try.results28 rfl ?_
  refine wc_seq ?_
  refine wc_region ?_
  refine wl_box (v := .agg #[sv, wv, .int .i64 d.fuse, .bool d.down]) rfl st rfl ?_
  intro b1 w st
  refine wl_alloc TF.z30 st rfl ?_
  intro b2 w st
  refine wl_val (v_assign' (by conv => (lhs; whnf))) rfl ?_
  refine wl_nil ?_
  refine then_go ?_
  refine wc_seq ?_
  refine wc_seq ?_
  refine wc_region ?_
  refine wl_val (v_fa TF.f30_3 rfl) rfl ?_
  refine wl_val (v_load rfl (st.reads 1 rfl TF.t4 rfl)) rfl ?_
  refine wl_nil ?_
  refine then_go ?_
  refine wc_cond rfl (fun h5 => ?_) (fun h5 => ?_)
  · refine wc_seq ?_
    refine wc_region ?_
    refine wl_val (v_load rfl (st.reads 1 rfl TF.t30 (getV_all rfl))) rfl ?_
    refine wl_storeW 0 st rfl TF.t30 rfl (cs := #[sv, wv, .int .i64 d.fuse, .bool d.down]) rfl rfl rfl (by simp [hso, hwo, one_int, one_bool]) ?_
    intro w st
    refine wl_val (v_assign' (by conv => (lhs; whnf))) rfl ?_
    refine wl_nil ?_
    refine then_go ?_
    refine wc_ret (then_ret ?_)
    have he : syncD d = (d, 14) := by unfold syncD; rw [if_pos h5]
    refine ret2c rfl (st.reads 0 rfl TF.t30 (getV_all rfl)) rfl (st.out ⟨_, by rw [he]; rfl, ?_⟩)
    rw [he]
    exact hd0.mono st.grow.le
  · refine wc_skip ?_
    refine then_go ?_
    refine wc_seq ?_
    refine wc_seq ?_
    refine wc_region ?_
    refine wl_val (v_fa TF.f30_2 rfl) rfl ?_
    refine wl_val (v_load rfl (st.reads 1 rfl TF.t3 rfl)) rfl ?_
    refine wl_val (v_eql rfl rfl) rfl ?_
    refine wl_nil ?_
    refine then_go ?_
    refine wc_if rfl (fun h9 => ?_) (fun h9 => ?_)
    · refine wc_seq ?_
      refine wc_region ?_
      refine wl_val (v_fa TF.f30_3 rfl) rfl ?_
      refine wl_store1 1 st rfl TF.t4 rfl (by conv => (lhs; whnf)) rfl (by first | exact lt_ok rfl | decide | simp) ?_
      intro w st
      refine wl_nil ?_
      refine then_go ?_
      refine wc_seq ?_
      refine wc_region ?_
      refine wl_val (v_load rfl (st.reads 1 rfl TF.t30 (getV_all rfl))) rfl ?_
      refine wl_storeW 0 st rfl TF.t30 rfl (cs := #[sv, wv, .int .i64 d.fuse, .bool true]) rfl rfl rfl (by simp [hso, hwo, one_int, one_bool]) ?_
      intro w st
      refine wl_val (v_assign' (by conv => (lhs; whnf))) rfl ?_
      refine wl_nil ?_
      refine then_go ?_
      refine wc_ret (then_ret ?_)
      have hb1 : burn d = ⟨d.S, d.wt, d.fuse, true⟩ := by simp [burn, h9]
      have he : syncD d = (⟨d.S, d.wt, d.fuse, true⟩, 14) := by unfold syncD; rw [if_neg (by simp [h5]), if_pos h9, hb1]
      refine ret2c rfl (st.reads 0 rfl TF.t30 (getV_all rfl)) rfl (st.out ⟨_, by rw [he]; rfl, ?_⟩)
      rw [he]
      exact ⟨⟨ok.pos, ok.len, ok.le, ok.wt⟩, _, _, rfl, hs.mono st.grow.le, hw.mono st.grow.le⟩
    · refine wc_skip ?_
      refine then_go ?_
      refine wc_seq ?_
      refine wc_seq ?_
      have he : syncD d = (⟨dump d, [], if 0 < d.fuse then d.fuse - 1 else d.fuse, false⟩, 0) := by
        unfold syncD
        rw [if_neg (by simp [h5]), if_neg h9]
        simp [burn, h9]
      have okd : ∀ f, (⟨dump d, [], f, false⟩ : DS).ok n := fun f => ⟨ok.pos, by rw [← dumpK_all]; exact length_dumpK ok _ (Nat.le_refl _), ok.le, by simp⟩
      refine wc_region ?_
      refine wl_val (v_fa TF.f30_2 rfl) rfl ?_
      refine wl_val (v_load rfl (st.reads 1 rfl TF.t3 rfl)) rfl ?_
      refine wl_val (v_gtr rfl rfl) rfl ?_
      refine wl_nil ?_
      refine then_go ?_
      refine wc_mid (fun r w' => ∃ f, f = (if 0 < d.fuse then d.fuse - 1 else d.fuse) ∧ r 1 = .pointer (some ⟨b1, 0, none⟩) ∧ r 2 = .pointer (some ⟨b2, 0, none⟩) ∧ St m m [] wI w' [blk b2 #[.slice none 0 0, .slice none 0 0, .int .i64 0, .bool false] 30, blk b1 #[sv, wv, .int .i64 f, .bool d.down] 30]) ?_ ?_
      · refine wc_if rfl (fun h14 => ?_) (fun h14 => ?_)
        · refine wc_region ?_
          refine wl_val (v_fa TF.f30_2 rfl) rfl ?_
          refine wl_val (v_load rfl (st.reads 1 rfl TF.t3 rfl)) rfl ?_
          refine wl_val (v_sub' rfl rfl rfl (by first | omega | (dsimp only at *; omega)) (by first | omega | (dsimp only at *; omega))) rfl ?_
          refine wl_val (v_fa TF.f30_2 rfl) rfl ?_
          refine wl_store1 1 st rfl TF.t3 rfl (by conv => (lhs; whnf)) rfl (by first | exact lt_ok rfl | decide | simp) ?_
          intro w st
          refine wl_nil ?_
          refine then_go ?_
          exact ⟨_, by rw [if_pos h14], rfl, rfl, st⟩
        · refine wc_skip ?_
          refine then_go ?_
          exact ⟨_, by rw [if_neg h14], rfl, rfl, st⟩
      · rintro r w ⟨f, hf', h1, h2, st⟩
        refine wc_o 1 h1 (wc_o 2 h2 ?_)
        refine wc_seq ?_
        refine wc_region ?_
        refine wl_val (v_load rfl (st.reads 1 rfl TF.t30 (getV_all rfl))) rfl ?_
        have hdd : RefM m (.agg #[sv, wv, .int .i64 f, .bool d.down]) n { d with fuse := f } := ⟨⟨ok.pos, ok.len, ok.le, ok.wt⟩, sv, wv, rfl, hs, hw⟩
        refine wl_call rfl (c_rdump st.im (hdd.mono st.grow.le) hfew) rfl ?_
        rintro v20 w ⟨t, m2, hg, hi, hR⟩
        have st := st.grown hg t hi
        have hv20 : v20.oneCell' = true := by obtain ⟨_, a, c, rfl, _⟩ := hR; rfl
        refine wl_val (v_fa TF.f30_0 rfl) rfl ?_
        refine wl_store1 1 st rfl TF.t22 rfl rfl hv20 (lt_ok rfl) ?_
        intro w st
        refine wl_nil ?_
        refine then_go ?_
        refine wc_seq ?_
        refine wc_region ?_
        refine wl_val (v_fa TF.f30_1 rfl) rfl ?_
        refine wl_store1 1 st rfl TF.t28 rfl (by conv => (lhs; whnf)) rfl (by first | exact lt_ok rfl | decide | simp) ?_
        intro w st
        refine wl_nil ?_
        refine then_go ?_
        refine wc_seq ?_
        refine wc_region ?_
        refine wl_val (v_load rfl (st.reads 1 rfl TF.t30 (getV_all rfl))) rfl ?_
        refine wl_storeW 0 st rfl TF.t30 rfl (cs := #[v20, .slice none 0 0, .int .i64 f, .bool d.down]) rfl rfl rfl (by simp [hv20, one_slice, one_int, one_bool]) ?_
        intro w st
        refine wl_val (v_assign' (by conv => (lhs; whnf))) rfl ?_
        refine wl_nil ?_
        refine then_go ?_
        refine wc_ret ?_
        refine ret2c rfl (st.reads 0 rfl TF.t30 (getV_all rfl)) rfl (st.out ⟨_, by rw [he]; rfl, ?_⟩)
        rw [he, ← hf']
        refine ⟨okd f, v20, .slice none 0 0, by rw [h5], ?_, [], rfl, SlM.nil, by simp⟩
        exact hR

theorem crashS_len {keep : List Int} {n : Nat} : ∀ (l : List (Nat × By)) (i : Nat) (S : By), S.length = 64 * n → (∀ x ∈ l, x.1 < n ∧ x.2.length = 64) → (crashS keep i S l).length = 64 * n
  | [], _, _, h, _ => h
  | x :: l, i, S, h, hx => by
    have h1 := hx x List.mem_cons_self
    exact crashS_len l (i + 1) _ (by rw [length_splice (by simp; omega), h]) fun y hy => hx y (List.mem_cons_of_mem _ hy)

theorem c_rcrash {v kv : Value} {keep : List Int} (him : Im m wI) (hd : RefM m v n d) (hfew : d.wt.length ≤ 1000000) (hk : SlM m kv 1 keep.length (ints keep)) :
    Ret Try.prog 30 #[v, kv] wI fun v' w' => Out m wI w' fun m' => RefM m' v' n (crashD d keep) := by
  have hS := hd.few
  obtain ⟨ok, sv, wv, rfl, hs, hw⟩ := hd
  have ok' := ok.wt
  have ok3 := ok.len
  have hso : sv.oneCell' = true := by obtain ⟨_, a, c, rfl, _⟩ := hs; rfl
  have hw0 := hw
  obtain ⟨wa, wc, rfl, hwc⟩ := hw.len
  have hk0 := hk
  obtain ⟨hkl, ka, kc, rfl, hkc, hk1⟩ := hk
  have st := St.start him
  refine ret_of Try.call30 Try.func30 rfl Try.ntmps30 Try.results30 rfl ?_
  refine wc_seq ?_
  refine wc_region ?_
  refine wl_box (v := .agg #[sv, .slice wa d.wt.length wc, .int .i64 d.fuse, .bool d.down]) rfl st rfl ?_
  intro b2 w st
  refine wl_alloc TF.z30 st rfl ?_
  intro b4 w st
  refine wl_nil ?_
  refine then_go ?_
  refine wc_seq ?_
  refine wc_region ?_
  refine wl_val (v_fa TF.f30_0 rfl) rfl ?_
  refine wl_val (v_load rfl (st.reads 1 rfl TF.t22 rfl)) rfl ?_
  refine wl_val (v_assign' (by conv => (lhs; whnf))) rfl ?_
  refine wl_nil ?_
  refine then_go ?_
  refine wc_seq ?_
  refine wc_seq ?_
  refine wc_region ?_
  refine wl_val (v_assign' (by conv => (lhs; whnf))) rfl ?_
  refine wl_nil ?_
  refine then_go ?_
  refine wc_block ?_
  refine wc_loop (S := Nat) (fun q r w' => ∃ j m' v S, q + j = d.wt.length ∧ r 1 = .slice ka keep.length kc ∧ r 2 = .pointer (some ⟨b2, 0, none⟩) ∧ r 4 = .pointer (some ⟨b4, 0, none⟩) ∧ r 5 = v ∧ r 6 = .int .i64 j ∧ SlM m' v 1 S.length (bs S) ∧ S.length = 64 * n ∧ crashS keep 0 d.S d.wt = crashS keep j S (d.wt.drop j) ∧
    St m m' [] wI w' [blk b4 #[.slice none 0 0, .slice none 0 0, .int .i64 0, .bool false] 30, blk b2 #[sv, .slice wa d.wt.length wc, .int .i64 d.fuse, .bool d.down] 30]) id d.wt.length ⟨0, m, sv, d.S, rfl, rfl, rfl, rfl, rfl, rfl, hs, ok3, rfl, st⟩ ?_
  rintro q r w2 ⟨j, m', v, S, hqj, h1, h2, h4, h5, h6, hv, hSl, hcr, st⟩
  refine wc_o 1 h1 (wc_o 2 h2 (wc_o 4 h4 (wc_o 5 h5 (wc_o 6 h6 ?_))))
  refine wc_seq ?_
  refine wc_seq ?_
  refine wc_region ?_
  refine wl_val (v_move' (by conv => (lhs; whnf))) rfl ?_
  refine wl_val (v_fa TF.f30_1 rfl) rfl ?_
  refine wl_val (v_load rfl (st.reads 1 rfl TF.t28 rfl)) rfl ?_
  refine wl_val (v_len_s Try.underlying28 rfl) rfl ?_
  refine wl_val (v_lss rfl rfl) rfl ?_
  refine wl_nil ?_
  refine then_go ?_
  refine wc_if rfl (fun h14 => ?_) (fun h14 => ?_)
  · refine wc_skip ?_
    refine then_go ?_
    refine wc_seq ?_
    refine wc_block ?_
    refine wc_seq ?_
    have hj : j < d.wt.length := by omega
    have hx := ok' d.wt[j] (List.getElem_mem _)
    refine wc_region ?_
    refine wl_val (v_assign' (by conv => (lhs; whnf))) rfl ?_
    refine wl_nil ?_
    refine then_go ?_
    refine wc_seq ?_
    refine wc_seq ?_
    refine wc_region ?_
    refine wl_val (v_move' (by conv => (lhs; whnf))) rfl ?_
    refine wl_val (v_move' (by conv => (lhs; whnf))) rfl ?_
    refine wl_val (v_len_s Try.underlying44 rfl) rfl ?_
    refine wl_val (v_lss rfl rfl) rfl ?_
    refine wl_nil ?_
    refine then_go ?_
    refine wc_mid (fun r w' => w' = w2 ∧ r 1 = .slice ka keep.length kc ∧ r 2 = .pointer (some ⟨b2, 0, none⟩) ∧ r 4 = .pointer (some ⟨b4, 0, none⟩) ∧ r 5 = v ∧ r 6 = .int .i64 j ∧ r 7 = .int .i64 (keep[j]?.getD 0)) ?_ ?_
    · refine wc_if rfl (fun h20 => ?_) (fun h20 => ?_)
      · have hjk : j < keep.length := by omega
        obtain ⟨kb, ko, kcap, hkv, _, hkr⟩ := (hk0.mono st.grow.le).elem Try.prog (i := j) hjk (by omega)
        cases hkv
        have hkel : cellsAt (ints keep) 1 j = [Value.int .i64 keep[j]] := by simp [cellsAt, ints, List.drop_eq_getElem_cons, hjk]
        refine wc_region ?_
        refine wl_val (v_move' (by conv => (lhs; whnf))) rfl ?_
        refine wl_val (v_move' (by conv => (lhs; whnf))) rfl ?_
        refine wl_val (v_ias j Try.underlying44 TF.t3 rfl rfl (by first | rfl | omega) (by first | omega | (dsimp only at *; omega))) rfl ?_
        refine wl_val (v_load rfl (hkr st.im (off := 0) TF.t3 (by rw [hkel]; rfl))) rfl ?_
        refine wl_val (v_assign' (by conv => (lhs; whnf))) rfl ?_
        refine wl_nil ?_
        refine then_go ?_
        exact ⟨rfl, rfl, rfl, rfl, rfl, rfl, by rw [List.getElem?_eq_getElem hjk]; rfl⟩
      · refine wc_skip ?_
        refine then_go ?_
        exact ⟨rfl, rfl, rfl, rfl, rfl, rfl, by rw [List.getElem?_eq_none (by omega)]; rfl⟩
    · rintro r w ⟨rfl, h1, h2, h4, h5, h6, h7⟩
      refine wc_o 1 h1 (wc_o 2 h2 (wc_o 4 h4 (wc_o 5 h5 (wc_o 6 h6 (wc_o 7 h7 ?_)))))
      refine wc_seq ?_
      refine wc_seq ?_
      refine wc_region ?_
      refine wl_val (v_move' (by conv => (lhs; whnf))) rfl ?_
      refine wl_val (v_lss rfl rfl) rfl ?_
      refine wl_nil ?_
      refine then_go ?_
      refine wc_mid (fun r w' => w' = w ∧ r 1 = .slice ka keep.length kc ∧ r 2 = .pointer (some ⟨b2, 0, none⟩) ∧ r 4 = .pointer (some ⟨b4, 0, none⟩) ∧ r 5 = v ∧ r 6 = .int .i64 j ∧ r 7 = .int .i64 (max (keep[j]?.getD 0) 0)) ?_ ?_
      · refine wc_if rfl (fun h26 => ?_) (fun h26 => ?_)
        · refine wc_region ?_
          refine wl_val (v_assign' (by conv => (lhs; whnf))) rfl ?_
          refine wl_nil ?_
          refine then_go ?_
          exact ⟨rfl, rfl, rfl, rfl, rfl, rfl, by rw [show max (keep[j]?.getD 0) 0 = 0 by omega]; rfl⟩
        · refine wc_skip ?_
          refine then_go ?_
          exact ⟨rfl, rfl, rfl, rfl, rfl, rfl, by rw [show max (keep[j]?.getD 0) 0 = keep[j]?.getD 0 by omega]; rfl⟩
      · rintro r w ⟨rfl, h1, h2, h4, h5, h6, h7⟩
        refine wc_o 1 h1 (wc_o 2 h2 (wc_o 4 h4 (wc_o 5 h5 (wc_o 6 h6 (wc_o 7 h7 ?_)))))
        refine wc_seq ?_
        refine wc_seq ?_
        refine wc_region ?_
        refine wl_val (v_move' (by conv => (lhs; whnf))) rfl ?_
        refine wl_val (v_gtr rfl rfl) rfl ?_
        refine wl_nil ?_
        refine then_go ?_
        refine wc_mid (fun r w' => w' = w ∧ r 1 = .slice ka keep.length kc ∧ r 2 = .pointer (some ⟨b2, 0, none⟩) ∧ r 4 = .pointer (some ⟨b4, 0, none⟩) ∧ r 5 = v ∧ r 6 = .int .i64 j ∧ r 7 = .int .i64 (keepN keep j)) ?_ ?_
        · refine wc_if rfl (fun h28 => ?_) (fun h28 => ?_)
          · refine wc_region ?_
            refine wl_val (v_assign' (by conv => (lhs; whnf))) rfl ?_
            refine wl_nil ?_
            refine then_go ?_
            exact ⟨rfl, rfl, rfl, rfl, rfl, rfl, by rw [show (keepN keep j : Int) = 64 by unfold keepN; omega]; rfl⟩
          · refine wc_skip ?_
            refine then_go ?_
            exact ⟨rfl, rfl, rfl, rfl, rfl, rfl, by rw [show (keepN keep j : Int) = max (keep[j]?.getD 0) 0 by unfold keepN; omega]; rfl⟩
        · rintro r w ⟨rfl, h1, h2, h4, h5, h6, h7⟩
          refine wc_o 1 h1 (wc_o 2 h2 (wc_o 4 h4 (wc_o 5 h5 (wc_o 6 h6 (wc_o 7 h7 ?_)))))
          obtain ⟨bv, wb, wo, wcap, hwv, hbv, hrd⟩ := (hw0.mono st.grow.le).elem hj
          cases hwv
          refine wc_region ?_
          refine wl_val (v_move' (by conv => (lhs; whnf))) rfl ?_
          refine wl_val (v_fa TF.f30_1 rfl) rfl ?_
          refine wl_val (v_load rfl (st.reads 1 rfl TF.t28 rfl)) rfl ?_
          refine wl_val (v_move' (by conv => (lhs; whnf))) rfl ?_
          refine wl_val (v_ias j Try.underlying28 TF.t51 rfl rfl (by first | rfl | omega) (by first | omega | (dsimp only at *; omega))) rfl ?_
          refine wl_val (v_load rfl (hrd st.im)) rfl ?_
          refine wl_val (v_move' (by conv => (lhs; whnf))) rfl ?_
          refine wl_call rfl (c_laid (k := keepN keep j) st.im hv hbv hx.2 (keepN_le _ _) (by omega) (by omega)) rfl ?_
          rintro v36 w ⟨t, m2, hg, hi, hR⟩
          have st := st.grown hg t hi
          refine wl_val (v_assign' (by conv => (lhs; whnf))) rfl ?_
          refine wl_nil ?_
          refine block_go (then_go ?_)
          refine wc_region ?_
          refine wl_val (v_move' (by conv => (lhs; whnf))) rfl ?_
          refine wl_val (v_add' rfl rfl rfl (by first | omega | (dsimp only at *; omega)) (by first | omega | (dsimp only at *; omega))) rfl ?_
          refine wl_val (v_assign' (by conv => (lhs; whnf))) rfl ?_
          refine wl_nil ?_
          refine then_go ?_
          have hl2 : (splice S (64 * d.wt[j].1) (d.wt[j].2.take (keepN keep j))).length = S.length := length_splice (by simp; omega)
          refine ⟨q - 1, by simp; omega, j + 1, _, _, splice S (64 * d.wt[j].1) (d.wt[j].2.take (keepN keep j)), by omega, rfl, rfl, rfl, rfl, rfl, by rw [hl2]; exact hR, by rw [hl2, hSl], by rw [hcr, crash_step hj], st⟩
  · refine wc_exit (then_exit (then_exit (block_hit ?_)))
    refine then_go ?_
    refine wc_seq ?_
    have hvo : v.oneCell' = true := by obtain ⟨_, a, c, rfl, _⟩ := hv; rfl
    have hjl : j = d.wt.length := by omega
    refine wc_region ?_
    refine wl_val (v_move' (by conv => (lhs; whnf))) rfl ?_
    refine wl_val (v_build (c' := #[v, .slice none 0 0, .int .i64 (-1), .bool false]) [(0, v), (2, .int .i64 (-1))] TF.z30 TF.p30 rfl (fill_one [] [.slice none 0 0] [.slice none 0 0, .int .i64 0, .bool false] rfl rfl (by rw [cells_one hvo]; rfl) (fill_one [v, .slice none 0 0] [.int .i64 0] [.bool false] (by rw [cells_one hvo]; rfl) rfl rfl rfl))) rfl ?_
    refine wl_storeW 0 st rfl TF.t30 rfl (cs := #[v, .slice none 0 0, .int .i64 (-1), .bool false]) rfl rfl rfl (by simp [hvo, one_slice, one_int, one_bool]) ?_
    intro w st
    refine wl_nil ?_
    refine then_go ?_
    refine wc_ret ?_
    have hcd : crashD d keep = ⟨S, [], -1, false⟩ := by unfold crashD; rw [hcr, hjl]; simp [crashS]
    refine ret1c rfl (st.reads 0 rfl TF.t30 (getV_all rfl)) (st.out ?_)
    rw [hcd]
    exact ⟨⟨ok.pos, hSl, ok.le, by simp⟩, v, .slice none 0 0, rfl, hv, [], rfl, SlM.nil, by simp⟩

end
end Go.Proofs.Ytekhcjgmgflmkaa
