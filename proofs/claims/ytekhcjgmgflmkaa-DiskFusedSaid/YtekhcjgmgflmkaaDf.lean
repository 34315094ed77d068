/-
  The reference's disk: its other calls.
-/
import Derived.Test.YtekhcjgmgflmkaaDe
namespace Go.Proofs.Ytekhcjgmgflmkaa
open Go Go.RowKit K DK

section
variable {m : Mem} {wI : World} {n : Nat} {d : DS}

theorem c_rread {v : Value} (i : Int) (him : Im m wI) (hd : RefM m v n d) (hfew : d.wt.length ≤ 1000000) :
    Ret Try.prog 26 #[v, .int .i64 i] wI fun v' w' => Out m wI w' fun m' => ∃ sv, v' = .tuple #[sv, .int .i64 (readD d n i).2] ∧
      SlM m' sv 1 (if (readD d n i).2 = 0 then 64 else 0) (bs (if (readD d n i).2 = 0 then sec (dump d) i.toNat else [])) := by
  have hd0 := hd
  have hS := hd.few
  obtain ⟨ok, sv, wv, rfl, hs, hw⟩ := hd
  have ok3 := ok.len
  have ok4 := ok.le
  have hs0 := hs
  obtain ⟨hsl, sa, sc, rfl, hs2⟩ := hs
  obtain ⟨wa, wc, rfl, hwc⟩ := hw.len
  have st := St.start him
  refine ret_of Try.call26 Try.func26 rfl Try.ntmps26 Try.results26 rfl ?_
  refine wc_seq ?_
  refine wc_region ?_
  refine wl_box (v := .agg #[.slice sa d.S.length sc, .slice wa d.wt.length wc, .int .i64 d.fuse, .bool d.down]) rfl st rfl ?_
  intro b2 w st
  refine wl_val (v_assign' (by conv => (lhs; whnf))) rfl ?_
  refine wl_val (v_assign' (by conv => (lhs; whnf))) rfl ?_
  refine wl_nil ?_
  refine then_go ?_
  refine wc_seq ?_
  refine wc_seq ?_
  refine wc_region ?_
  refine wl_val (v_fa TF.f30_3 rfl) rfl ?_
  refine wl_val (v_load rfl (st.reads 0 rfl TF.t4 rfl)) rfl ?_
  refine wl_nil ?_
  refine then_go ?_
  refine wc_cond rfl (fun h7 => ?_) (fun h7 => ?_)
  · refine wc_seq ?_
    refine wc_region ?_
    refine wl_val (v_assign' (by conv => (lhs; whnf))) rfl ?_
    refine wl_val (v_assign' (by conv => (lhs; whnf))) rfl ?_
    refine wl_nil ?_
    refine then_go ?_
    refine wc_ret (then_ret ?_)
    have he : readD d n i = ([], 14) := by unfold readD; rw [if_pos h7]
    refine ret2 (v := .slice none 0 0) (v' := .int .i64 14) rfl rfl (st.out ⟨_, by rw [he], ?_⟩)
    rw [he]
    exact SlM.nil
  · refine wc_skip ?_
    refine then_go ?_
    refine wc_seq ?_
    refine wc_seq ?_
    refine wc_region ?_
    refine wl_val (v_move' (by conv => (lhs; whnf))) rfl ?_
    refine wl_val (v_lss rfl rfl) rfl ?_
    refine wl_val (v_move' (by conv => (lhs; whnf))) rfl ?_
    by_cases hg2 : i < 0
    · rw [show decide (i < 0) = true from decide_eq_true hg2]
      refine wl_off rfl rfl rfl rfl ?_
      refine wl_off rfl rfl rfl rfl ?_
      refine wl_off rfl rfl rfl rfl ?_
      refine wl_off rfl rfl rfl rfl ?_
      refine wl_off rfl rfl rfl rfl ?_
      refine wl_off rfl rfl rfl rfl ?_
      refine wl_val (v_pick rfl) rfl ?_
      refine wl_nil ?_
      refine then_go ?_
      refine wc_true rfl ?_
      refine wc_seq ?_
      refine wc_region ?_
      refine wl_val (v_assign' (by conv => (lhs; whnf))) rfl ?_
      refine wl_val (v_assign' (by conv => (lhs; whnf))) rfl ?_
      refine wl_nil ?_
      refine then_go ?_
      refine wc_ret (then_ret ?_)
      have he : readD d n i = ([], 2) := by unfold readD; rw [if_neg (by simp [h7]), if_pos (by omega)]
      refine ret2 (v := .slice none 0 0) (v' := .int .i64 2) rfl rfl (st.out ⟨_, by rw [he], ?_⟩)
      rw [he]
      exact SlM.nil
    · rw [show decide (i < 0) = false from decide_eq_false hg2]
      refine wl_on rfl rfl ?_
      refine wl_val (v_move' (by conv => (lhs; whnf))) rfl ?_
      refine wl_on rfl rfl ?_
      refine wl_val (v_fa TF.f30_0 rfl) rfl ?_
      refine wl_on rfl rfl ?_
      refine wl_val (v_load rfl (st.reads 0 rfl TF.t22 rfl)) rfl ?_
      refine wl_on rfl rfl ?_
      refine wl_val (v_len_s Try.underlying22 rfl) rfl ?_
      refine wl_on rfl rfl ?_
      refine wl_val (v_quo' (c := (n : Int)) rfl rfl (by omega) (by omega) (by omega) (by omega)) rfl ?_
      refine wl_on rfl rfl ?_
      refine wl_val (v_geq rfl rfl) rfl ?_
      refine wl_val (v_pick rfl) rfl ?_
      refine wl_nil ?_
      refine then_go ?_
      refine wc_if rfl (fun h17 => ?_) (fun h17 => ?_)
      · refine wc_seq ?_
        refine wc_region ?_
        refine wl_val (v_assign' (by conv => (lhs; whnf))) rfl ?_
        refine wl_val (v_assign' (by conv => (lhs; whnf))) rfl ?_
        refine wl_nil ?_
        refine then_go ?_
        refine wc_ret (then_ret ?_)
        have he : readD d n i = ([], 2) := by unfold readD; rw [if_neg (by simp [h7]), if_pos (by omega)]
        refine ret2 (v := .slice none 0 0) (v' := .int .i64 2) rfl rfl (st.out ⟨_, by rw [he], ?_⟩)
        rw [he]
        exact SlM.nil
      · refine wc_skip ?_
        refine then_go ?_
        refine wc_seq ?_
        obtain ⟨k, rfl⟩ : ∃ k : Nat, i = k := ⟨i.toNat, by omega⟩
        have hk : k < n := by omega
        have he : readD d n k = (nowOf d k, 0) := by unfold readD; rw [if_neg (by simp [h7]), if_neg (by omega)]; rfl
        have hD : (dump d).length = 64 * n := by rw [← dumpK_all]; exact length_dumpK ok _ (Nat.le_refl _)
        refine wc_region ?_
        refine wl_val (v_load rfl (st.reads 0 rfl TF.t30 (getV_all rfl))) rfl ?_
        refine wl_call rfl (c_rdump st.im (hd0.mono st.grow.le) hfew) rfl ?_
        rintro v19 w ⟨t, m2, hg, hi, hR⟩
        have st := st.grown hg t hi
        have hR0 := hR
        obtain ⟨hrl, ra, rc, rfl, hrk, hr2⟩ := hR
        refine wl_val (v_move' (by conv => (lhs; whnf))) rfl ?_
        refine wl_val (v_mul' (c := ((64 * k : Nat) : Int)) rfl rfl (by omega) (by omega) (by omega)) rfl ?_
        refine wl_val (v_move' (by conv => (lhs; whnf))) rfl ?_
        refine wl_val (v_mul' (c := ((64 * k : Nat) : Int)) rfl rfl (by omega) (by omega) (by omega)) rfl ?_
        refine wl_val (v_add' (c := ((64 * k + 64 : Nat) : Int)) rfl rfl (by omega) (by omega) (by omega)) rfl ?_
        refine wl_val (v_slice_s (l := 64 * k) (h := 64 * k + 64) Try.underlying22 TF.t5 rfl ⟨_, _, rfl, rfl⟩ ⟨_, _, rfl, rfl⟩ (by omega) (by omega)) rfl ?_
        refine wl_val (v_assign' (by conv => (lhs; whnf))) rfl ?_
        refine wl_val (v_assign' (by conv => (lhs; whnf))) rfl ?_
        refine wl_nil ?_
        refine then_go ?_
        refine wc_ret ?_
        refine ret2 (v' := .int .i64 0) rfl rfl (st.out ⟨_, by rw [he], ?_⟩)
        rw [he]
        have := hR0.sub rfl (l := 64 * k) (h := 64 * k + 64) (by omega) (by omega) (by omega)
        have e1 : 64 * k + 64 - 64 * k = 64 := by omega
        rw [e1] at this
        have e2 : ((bs (dump d)).drop (64 * k * 1)).take (64 * 1) = bs (sec (dump d) k) := by simp [sec, bs, List.map_drop, List.map_take]
        rw [e2] at this
        rw [e1]
        exact this

theorem c_rfuse {v : Value} (i : Int) (him : Im m wI) (hd : RefM m v n d) :
    Ret Try.prog 29 #[v, .int .i64 i] wI fun v' w' => Out m wI w' fun m' => RefM m' v' n { d with fuse := max i (-1) } := by
  obtain ⟨ok, sv, wv, rfl, hs, hw⟩ := hd
  have hso : sv.oneCell' = true := by obtain ⟨_, a, c, rfl, _⟩ := hs; rfl
  have hwo : wv.oneCell' = true := by obtain ⟨a, c, rfl, _⟩ := hw.len; rfl
  have st := St.start him
  refine ret_of Try.call29 Try.func29 rfl Try.ntmps29 Try.results29 rfl ?_
  refine wc_seq ?_
  refine wc_region ?_
  refine wl_box (v := .agg #[sv, wv, .int .i64 d.fuse, .bool d.down]) rfl st rfl ?_
  intro b2 w st
  refine wl_alloc TF.z30 st rfl ?_
  intro b4 w st
  refine wl_nil ?_
  refine then_go ?_
  refine wc_seq ?_
  refine wc_region ?_
  refine wl_val (v_move' (by conv => (lhs; whnf))) rfl ?_
  refine wl_val (v_fa TF.f30_2 rfl) rfl ?_
  refine wl_store1 1 st rfl TF.t3 rfl (by conv => (lhs; whnf)) rfl (by first | exact lt_ok rfl | decide | simp) ?_
  intro w st
  change St _ _ _ _ _ [_, blk b2 #[sv, wv, .int .i64 i, .bool d.down] _] at st
  refine wl_nil ?_
  refine then_go ?_
  refine wc_seq ?_
  refine wc_seq ?_
  refine wc_region ?_
  refine wl_val (v_move' (by conv => (lhs; whnf))) rfl ?_
  refine wl_val (v_lss rfl rfl) rfl ?_
  refine wl_nil ?_
  refine then_go ?_
  refine wc_if rfl (fun h8 => ?_) (fun h8 => ?_)
  · refine wc_region ?_
    refine wl_val (v_fa TF.f30_2 rfl) rfl ?_
    refine wl_store1 1 st rfl TF.t3 rfl (by conv => (lhs; whnf)) rfl (by first | exact lt_ok rfl | decide | simp) ?_
    intro w st
    change St _ _ _ _ _ [_, blk b2 #[sv, wv, .int .i64 (-1), .bool d.down] _] at st
    refine wl_nil ?_
    refine then_go ?_
    refine wc_seq ?_
    refine wc_region ?_
    refine wl_val (v_load rfl (st.reads 1 rfl TF.t30 (getV_all rfl))) rfl ?_
    refine wl_storeW 0 st rfl TF.t30 rfl (by conv => (lhs; whnf)) rfl rfl (by simp [hso, hwo, one_int, one_bool]) ?_
    intro w st
    refine wl_nil ?_
    refine then_go ?_
    refine wc_ret ?_
    refine ret1c rfl (st.reads 0 rfl TF.t30 (getV_all rfl)) (st.out ⟨⟨ok.pos, ok.len, ok.le, ok.wt⟩, sv, wv, ?_, hs.mono st.grow.le, hw.mono st.grow.le⟩)
    rw [show max i (-1) = -1 by omega]
  · refine wc_skip ?_
    refine then_go ?_
    refine wc_seq ?_
    refine wc_region ?_
    refine wl_val (v_load rfl (st.reads 1 rfl TF.t30 (getV_all rfl))) rfl ?_
    refine wl_storeW 0 st rfl TF.t30 rfl (by conv => (lhs; whnf)) rfl rfl (by simp [hso, hwo, one_int, one_bool]) ?_
    intro w st
    refine wl_nil ?_
    refine then_go ?_
    refine wc_ret ?_
    refine ret1c rfl (st.reads 0 rfl TF.t30 (getV_all rfl)) (st.out ⟨⟨ok.pos, ok.len, ok.le, ok.wt⟩, sv, wv, ?_, hs.mono st.grow.le, hw.mono st.grow.le⟩)
    rw [show max i (-1) = i by omega]

end
end Go.Proofs.Ytekhcjgmgflmkaa
