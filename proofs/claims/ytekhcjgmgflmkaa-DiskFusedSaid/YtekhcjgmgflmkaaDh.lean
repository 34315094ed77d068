/-
  The reference's disk: what writes.
-/
import Derived.Test.YtekhcjgmgflmkaaDf
namespace Go.Proofs.Ytekhcjgmgflmkaa
open Go Go.RowKit K DK

section
variable {m : Mem} {wI : World} {n : Nat} {d : DS}

theorem wtL_snoc (L : List ((Nat × By) × Value)) (x : (Nat × By) × Value) : (L ++ [x]).flatMap (fun x => [Value.int .i64 x.1.1, x.2]) = L.flatMap (fun x => [Value.int .i64 x.1.1, x.2]) ++ [Value.int .i64 x.1.1, x.2] := by simp

theorem wtL_one {m : Mem} {L : List ((Nat × By) × Value)} (h : ∀ x ∈ L, SlM m x.2 1 64 (bs x.1.2)) : ∀ u ∈ L.flatMap (fun x => [Value.int .i64 x.1.1, x.2]), u.oneCell' = true := by
  intro u hu
  obtain ⟨x, hx, hu⟩ := List.mem_flatMap.1 hu
  simp only [List.mem_cons, List.not_mem_nil, or_false] at hu
  rcases hu with rfl | rfl
  · rfl
  · obtain ⟨_, a, c, h1, _⟩ := h x hx
    rw [h1]; rfl

theorem c_rput {v bv : Value} {l : By} (i : Int) (him : Im m wI) (hd : RefM m v n d) (hfew : d.wt.length ≤ 1000000) (hf : -1 ≤ d.fuse ∧ d.fuse ≤ 9223372036854775807) (hb : SlM m bv 1 l.length (bs l)) :
    Ret Try.prog 27 #[v, .int .i64 i, bv] wI fun v' w' => Out m wI w' fun m' => ∃ rv, v' = .tuple #[rv, .int .i64 (writeD d n i l).2] ∧ RefM m' rv n (writeD d n i l).1 := by
  have hd0 := hd
  obtain ⟨ok, sv, wv, rfl, hs, hw⟩ := hd
  have ok3 := ok.len
  have ok4 := ok.le
  have hso : sv.oneCell' = true := by obtain ⟨_, a, c, rfl, _⟩ := hs; rfl
  have hwo : wv.oneCell' = true := by obtain ⟨a, c, rfl, _⟩ := hw.len; rfl
  have hs0 := hs
  obtain ⟨hsl, sa, sc, rfl, hs2⟩ := hs
  have hb0 := hb
  obtain ⟨hbl, ba, bc, rfl, hb2⟩ := hb
  have hf1 := hf.1
  have hf2 := hf.2
  have st := St.start him
  refine ret_of Try.call27 Try.func27 rfl Try.ntmps27 Try.results27 rfl ?_
  refine wc_seq ?_
  refine wc_region ?_
  refine wl_box (v := .agg #[.slice sa d.S.length sc, wv, .int .i64 d.fuse, .bool d.down]) rfl st rfl ?_
  intro b3 w st
  refine wl_alloc TF.z30 st rfl ?_
  intro b6 w st
  refine wl_val (v_assign' (by conv => (lhs; whnf))) rfl ?_
  refine wl_nil ?_
  refine then_go ?_
  refine wc_seq ?_
  refine wc_seq ?_
  refine wc_region ?_
  refine wl_val (v_fa TF.f30_3 rfl) rfl ?_
  refine wl_val (v_load rfl (st.reads 1 rfl TF.t4 rfl)) rfl ?_
  refine wl_nil ?_
  refine then_go ?_
  refine wc_cond rfl (fun h11 => ?_) (fun h11 => ?_)
  · refine wc_seq ?_
    refine wc_region ?_
    refine wl_val (v_load rfl (st.reads 1 rfl TF.t30 (getV_all rfl))) rfl ?_
    refine wl_storeW 0 st rfl TF.t30 rfl (by conv => (lhs; whnf)) rfl rfl (by simp [hwo, one_int, one_bool, one_slice, Value.cells]) ?_
    intro w st
    refine wl_val (v_assign' (by conv => (lhs; whnf))) rfl ?_
    refine wl_nil ?_
    refine then_go ?_
    refine wc_ret (then_ret ?_)
    have he : writeD d n i l = (d, 14) := by unfold writeD; rw [if_pos h11]
    refine ret2c rfl (st.reads 0 rfl TF.t30 (getV_all rfl)) rfl (st.out ⟨_, by rw [he]; rfl, ?_⟩)
    rw [he]
    exact hd0.mono st.grow.le
  · refine wc_skip ?_
    refine then_go ?_
    refine wc_seq ?_
    refine wc_seq ?_
    refine wc_region ?_
    refine wl_val (v_move' (by conv => (lhs; whnf))) rfl ?_
    refine wl_val (v_lss rfl rfl) rfl ?_
    refine wl_val (v_move' (by conv => (lhs; whnf))) rfl ?_
    by_cases hg2 : i < 0
    · rw [show decide (i < 0) = true from decide_eq_true hg2]
      refine wl_off rfl rfl rfl rfl ?_
      refine wl_off rfl rfl rfl rfl ?_
      refine wl_off rfl rfl rfl rfl ?_
      refine wl_off rfl rfl rfl rfl ?_
      refine wl_off rfl rfl rfl rfl ?_
      refine wl_off rfl rfl rfl rfl ?_
      refine wl_val (v_pick rfl) rfl ?_
      refine wl_nil ?_
      refine then_go ?_
      refine wc_true rfl ?_
      refine wc_seq ?_
      refine wc_region ?_
      refine wl_val (v_load rfl (st.reads 1 rfl TF.t30 (getV_all rfl))) rfl ?_
      refine wl_storeW 0 st rfl TF.t30 rfl (by conv => (lhs; whnf)) rfl rfl (by simp [hwo, one_int, one_bool, one_slice, Value.cells]) ?_
      intro w st
      refine wl_val (v_assign' (by conv => (lhs; whnf))) rfl ?_
      refine wl_nil ?_
      refine then_go ?_
      refine wc_ret (then_ret ?_)
      have he : writeD d n i l = (d, 2) := by unfold writeD; rw [if_neg (by simp [h11]), if_pos (by omega)]
      refine ret2c rfl (st.reads 0 rfl TF.t30 (getV_all rfl)) rfl (st.out ⟨_, by rw [he]; rfl, ?_⟩)
      rw [he]
      exact hd0.mono st.grow.le
    · rw [show decide (i < 0) = false from decide_eq_false hg2]
      refine wl_on rfl rfl ?_
      refine wl_val (v_move' (by conv => (lhs; whnf))) rfl ?_
      refine wl_on rfl rfl ?_
      refine wl_val (v_fa TF.f30_0 rfl) rfl ?_
      refine wl_on rfl rfl ?_
      refine wl_val (v_load rfl (st.reads 1 rfl TF.t22 rfl)) rfl ?_
      refine wl_on rfl rfl ?_
      refine wl_val (v_len_s Try.underlying22 rfl) rfl ?_
      refine wl_on rfl rfl ?_
      refine wl_val (v_quo' (c := (n : Int)) rfl rfl (by omega) (by omega) (by omega) (by omega)) rfl ?_
      refine wl_on rfl rfl ?_
      refine wl_val (v_geq rfl rfl) rfl ?_
      refine wl_val (v_pick rfl) rfl ?_
      refine wl_nil ?_
      refine then_go ?_
      refine wc_if rfl (fun h22 => ?_) (fun h22 => ?_)
      · refine wc_seq ?_
        refine wc_region ?_
        refine wl_val (v_load rfl (st.reads 1 rfl TF.t30 (getV_all rfl))) rfl ?_
        refine wl_storeW 0 st rfl TF.t30 rfl (by conv => (lhs; whnf)) rfl rfl (by simp [hwo, one_int, one_bool, one_slice, Value.cells]) ?_
        intro w st
        refine wl_val (v_assign' (by conv => (lhs; whnf))) rfl ?_
        refine wl_nil ?_
        refine then_go ?_
        refine wc_ret (then_ret ?_)
        have he : writeD d n i l = (d, 2) := by unfold writeD; rw [if_neg (by simp [h11]), if_pos (by omega)]
        refine ret2c rfl (st.reads 0 rfl TF.t30 (getV_all rfl)) rfl (st.out ⟨_, by rw [he]; rfl, ?_⟩)
        rw [he]
        exact hd0.mono st.grow.le
      · refine wc_skip ?_
        refine then_go ?_
        refine wc_seq ?_
        refine wc_seq ?_
        refine wc_region ?_
        refine wl_val (v_move' (by conv => (lhs; whnf))) rfl ?_
        refine wl_val (v_len_s Try.underlying22 rfl) rfl ?_
        refine wl_val (v_neq rfl rfl) rfl ?_
        refine wl_nil ?_
        refine then_go ?_
        refine wc_if rfl (fun h26 => ?_) (fun h26 => ?_)
        · refine wc_seq ?_
          refine wc_region ?_
          refine wl_val (v_load rfl (st.reads 1 rfl TF.t30 (getV_all rfl))) rfl ?_
          refine wl_storeW 0 st rfl TF.t30 rfl (by conv => (lhs; whnf)) rfl rfl (by simp [hwo, one_int, one_bool, one_slice, Value.cells]) ?_
          intro w st
          refine wl_val (v_assign' (by conv => (lhs; whnf))) rfl ?_
          refine wl_nil ?_
          refine then_go ?_
          refine wc_ret (then_ret ?_)
          have he : writeD d n i l = (d, 1) := by unfold writeD; rw [if_neg (by simp [h11]), if_neg (by omega), if_pos (by omega)]
          refine ret2c rfl (st.reads 0 rfl TF.t30 (getV_all rfl)) rfl (st.out ⟨_, by rw [he]; rfl, ?_⟩)
          rw [he]
          exact hd0.mono st.grow.le
        · refine wc_skip ?_
          refine then_go ?_
          refine wc_seq ?_
          obtain ⟨k, rfl⟩ : ∃ k : Nat, i = k := ⟨i.toNat, by omega⟩
          have hl64 : l.length = 64 := by omega
          have hkn : k < n := by omega
          have he : writeD d n k l = (burn { d with wt := d.wt ++ [(k, l)] }, if (burn { d with wt := d.wt ++ [(k, l)] }).down then 14 else 0) := by
            unfold writeD
            rw [if_neg (by simp [h11]), if_neg (by omega), if_neg (by simp [hl64])]
            rfl
          refine wc_region ?_
          refine wl_make (l := 64) (c := 64) Try.underlying22 TF.t5 TF.z5 rfl rfl rfl rfl (by omega) (by omega) (by omega) (by omega) st rfl ?_
          intro b8 w st
          refine wl_val (v_assign' (by conv => (lhs; whnf))) rfl ?_
          refine wl_nil ?_
          refine then_go ?_
          refine wc_seq ?_
          refine wc_region ?_
          refine wl_val (v_move' (by conv => (lhs; whnf))) rfl ?_
          refine wl_val (v_move' (by conv => (lhs; whnf))) rfl ?_
          refine wl_copy (size := 1) (b := b8) (off := 0) 0 st rfl Try.underlying22 TF.t5 rfl rfl (hb0.src st.im (one_bs _)) (by simp [size_madeCells]; omega) rfl ?_
          intro w st
          refine wl_nil ?_
          have e : setSeg (madeCells (Value.int .u8 0).cells (64 * 1)) 0 ((bs l).take (min l.length 64 * 1)) = (bs l).toArray := by
            rw [List.take_of_length_le (by simp [bs]; omega), setSeg_all (by simp [bs, size_madeCells, hl64])]
          rw [e] at st
          obtain ⟨m1, hg1, hm1, st⟩ := st.freeze (i := 0) rfl (by simp)
          have hbm : SlM m1 (.slice (some ⟨b8, 0, none⟩) 64 64) 1 64 (bs l) := SlM.of hm1 (by simp [bs, hl64]) (Nat.le_refl _) (fun j u hj => by simpa using hj)
          have hw1 := hw.mono st.grow.le
          obtain ⟨L, hL1, hL2, hL3⟩ := hw1
          refine then_go ?_
          refine wc_seq ?_
          refine wc_region ?_
          refine wl_val (v_assign' (by conv => (lhs; whnf))) rfl ?_
          refine wl_nil ?_
          refine then_go ?_
          refine wc_seq ?_
          refine wc_region ?_
          refine wl_val (v_move' (by conv => (lhs; whnf))) rfl ?_
          refine wl_val (v_fa TF.f30_1 rfl) rfl ?_
          refine wl_val (v_load rfl (st.reads 1 rfl TF.t28 rfl)) rfl ?_
          have st := st.new (E := rowE (.slice none 0 0) 51 2 0 []) ⟨rfl, rfl, rfl, Nat.le_refl _, fun _ _ _ => rfl, by simp [rowE, Value.ownBlock]⟩ ⟨by simp, .inl ⟨rfl, rfl⟩⟩
          refine wl_append 0 st rfl Try.underlying28 Try.underlying28 (.inr ⟨_, rfl⟩) TF.t51 TF.z51 rfl rfl rfl (hL2.src st.im (wtL_one hL3)) (by omega) (by omega) rfl ?_
          intro lv w _ st
          rw [Nat.zero_add, List.nil_append] at st
          refine wl_val (v_assign' (by conv => (lhs; whnf))) rfl ?_
          refine wl_nil ?_
          refine then_go ?_
          refine wc_seq ?_
          refine wc_region ?_
          refine wl_val (v_move' (by conv => (lhs; whnf))) rfl ?_
          refine wl_val (v_move' (by conv => (lhs; whnf))) rfl ?_
          refine wl_val (v_move' (by conv => (lhs; whnf))) rfl ?_
          refine wl_val (v_build (c' := #[.int .i64 k, .slice (some ⟨b8, 0, none⟩) 64 64]) [(0, .int .i64 k), (1, .slice (some ⟨b8, 0, none⟩) 64 64)] TF.z51 TF.p51 rfl (fill_one [] [.int .i64 0] [.slice none 0 0] rfl rfl rfl (fill_one [.int .i64 k] [.slice none 0 0] [] rfl rfl rfl rfl))) rfl ?_
          refine wl_buildSlice (c' := #[.int .i64 k, .slice (some ⟨b8, 0, none⟩) 64 64]) [(0, .agg #[.int .i64 k, .slice (some ⟨b8, 0, none⟩) 64 64])] Try.underlying28 TF.t51 TF.z51 (by decide) (by decide) rfl ⟨0, 2, rfl, rfl, by simp [size_madeCells], setSeg_all (by simp [size_madeCells, Value.cells])⟩ st rfl ?_
          intro nb w st
          refine wl_append 1 st rfl Try.underlying28 Try.underlying28 (.inr ⟨_, rfl⟩) TF.t51 TF.z51 rfl rfl rfl (st.srcArr (off := 0) (news := [.int .i64 k, .slice (some ⟨b8, 0, none⟩) 64 64]) 0 rfl rfl (fun j u hj => by simpa using hj) (by simp [one_int, one_slice])) (by omega) (by omega) rfl ?_
          intro nv w _ st
          refine wl_val (v_fa TF.f30_1 rfl) rfl ?_
          refine wl_store1 3 st rfl TF.t28 rfl rfl (row_one (st.at (i := 1) rfl)) (lt_ok rfl) ?_
          intro w st
          refine wl_nil ?_
          have st := st.drop 0
          change St _ _ _ _ _ [rowE nv 51 2 (d.wt.length + 1) (L.flatMap (fun x => [Value.int .i64 x.1.1, x.2]) ++ [.int .i64 k, .slice (some ⟨b8, 0, none⟩) 64 64]), _, blk b3 #[.slice sa d.S.length sc, nv, .int .i64 d.fuse, .bool d.down] _] at st
          have hno := row_one (st.at (i := 0) rfl)
          obtain ⟨m2, hg2, hm2, st2⟩ := st.freezeR (i := 0) rfl (by simp)
          have hrow := row_SlM (m := m2) (st.at (i := 0) rfl) hm2
          have hwt : WtM m2 nv (d.wt ++ [(k, l)]) := by
            refine ⟨L ++ [((k, l), .slice (some ⟨b8, 0, none⟩) 64 64)], by simp [hL1], ?_, ?_⟩
            · rw [wtL_snoc]
              simpa using hrow
            · intro x hx
              rcases List.mem_append.1 hx with hx | hx
              · exact (hL3 x hx).mono hg2.le
              · simp at hx
                subst hx
                exact hbm.mono hg2.le
          have st := st2
          have ok2 : ({ d with wt := d.wt ++ [(k, l)] } : DS).ok n := ⟨ok.pos, ok.len, ok.le, fun x hx => by
            rcases List.mem_append.1 hx with hx | hx
            · exact ok.wt x hx
            · simp at hx
              subst hx
              exact ⟨hkn, hl64⟩⟩
          refine then_go ?_
          refine wc_seq ?_
          refine wc_seq ?_
          refine wc_region ?_
          refine wl_val (v_fa TF.f30_2 rfl) rfl ?_
          refine wl_val (v_load rfl (st.reads 1 rfl TF.t3 rfl)) rfl ?_
          refine wl_val (v_eql rfl rfl) rfl ?_
          refine wl_nil ?_
          refine then_go ?_
          refine wc_if rfl (fun h45 => ?_) (fun h45 => ?_)
          · refine wc_seq ?_
            refine wc_region ?_
            refine wl_val (v_fa TF.f30_3 rfl) rfl ?_
            refine wl_store1 1 st rfl TF.t4 rfl (by conv => (lhs; whnf)) rfl (by first | exact lt_ok rfl | decide | simp) ?_
            intro w st
            refine wl_nil ?_
            refine then_go ?_
            refine wc_seq ?_
            refine wc_region ?_
            refine wl_val (v_load rfl (st.reads 1 rfl TF.t30 (getV_all rfl))) rfl ?_
            refine wl_storeW 0 st rfl TF.t30 rfl (cs := #[.slice sa d.S.length sc, nv, .int .i64 d.fuse, .bool true]) rfl rfl rfl (by simp [hno, one_int, one_bool, one_slice]) ?_
            intro w st
            refine wl_val (v_assign' (by conv => (lhs; whnf))) rfl ?_
            refine wl_nil ?_
            refine then_go ?_
            refine wc_ret (then_ret ?_)
            have hb1 : burn { d with wt := d.wt ++ [(k, l)] } = ⟨d.S, d.wt ++ [(k, l)], d.fuse, true⟩ := by simp [burn, h45]
            refine ret2c rfl (st.reads 0 rfl TF.t30 (getV_all rfl)) rfl (st.out ⟨_, by rw [he, hb1]; rfl, ?_⟩)
            rw [he, hb1]
            exact ⟨⟨ok2.pos, ok2.len, ok2.le, ok2.wt⟩, _, _, rfl, hs0.mono st.grow.le, hwt⟩
          · refine wc_skip ?_
            refine then_go ?_
            refine wc_seq ?_
            refine wc_seq ?_
            refine wc_region ?_
            refine wl_val (v_fa TF.f30_2 rfl) rfl ?_
            refine wl_val (v_load rfl (st.reads 1 rfl TF.t3 rfl)) rfl ?_
            refine wl_val (v_gtr rfl rfl) rfl ?_
            refine wl_nil ?_
            refine then_go ?_
            refine wc_if rfl (fun h50 => ?_) (fun h50 => ?_)
            · refine wc_region ?_
              refine wl_val (v_fa TF.f30_2 rfl) rfl ?_
              refine wl_val (v_load rfl (st.reads 1 rfl TF.t3 rfl)) rfl ?_
              refine wl_val (v_sub' rfl rfl rfl (by first | omega | (dsimp only at *; omega)) (by first | omega | (dsimp only at *; omega))) rfl ?_
              refine wl_val (v_fa TF.f30_2 rfl) rfl ?_
              refine wl_store1 1 st rfl TF.t3 rfl (by conv => (lhs; whnf)) rfl (by first | exact lt_ok rfl | decide | simp) ?_
              intro w st
              refine wl_nil ?_
              refine then_go ?_
              refine wc_seq ?_
              refine wc_region ?_
              refine wl_val (v_load rfl (st.reads 1 rfl TF.t30 (getV_all rfl))) rfl ?_
              refine wl_storeW 0 st rfl TF.t30 rfl (by conv => (lhs; whnf)) rfl rfl (by intro u hu; simp only [Array.toList_setIfInBounds, List.set_cons_succ, List.set_cons_zero, List.mem_cons, List.not_mem_nil, or_false] at hu; rcases hu with rfl | rfl | rfl | rfl <;> first | rfl | exact hno) ?_
              intro w st
              refine wl_val (v_assign' (by conv => (lhs; whnf))) rfl ?_
              refine wl_nil ?_
              refine then_go ?_
              refine wc_ret ?_
              have hb1 : burn { d with wt := d.wt ++ [(k, l)] } = ⟨d.S, d.wt ++ [(k, l)], d.fuse - 1, false⟩ := by simp [burn, h45, h50]
              refine ret2c rfl (st.reads 0 rfl TF.t30 (getV_all rfl)) rfl (st.out ⟨_, by rw [he, hb1]; rfl, ?_⟩)
              rw [he, hb1]
              exact ⟨⟨ok2.pos, ok2.len, ok2.le, ok2.wt⟩, _, _, by first | (rw [← h11]; done) | (rw [← h11]; rfl), hs0.mono st.grow.le, hwt⟩
            · refine wc_skip ?_
              refine then_go ?_
              refine wc_seq ?_
              refine wc_region ?_
              refine wl_val (v_load rfl (st.reads 1 rfl TF.t30 (getV_all rfl))) rfl ?_
              refine wl_storeW 0 st rfl TF.t30 rfl (by conv => (lhs; whnf)) rfl rfl (by intro u hu; simp only [Array.toList_setIfInBounds, List.set_cons_succ, List.set_cons_zero, List.mem_cons, List.not_mem_nil, or_false] at hu; rcases hu with rfl | rfl | rfl | rfl <;> first | rfl | exact hno) ?_
              intro w st
              refine wl_val (v_assign' (by conv => (lhs; whnf))) rfl ?_
              refine wl_nil ?_
              refine then_go ?_
              refine wc_ret ?_
              have hb1 : burn { d with wt := d.wt ++ [(k, l)] } = ⟨d.S, d.wt ++ [(k, l)], d.fuse, false⟩ := by simp [burn, h45, h50]
              refine ret2c rfl (st.reads 0 rfl TF.t30 (getV_all rfl)) rfl (st.out ⟨_, by rw [he, hb1]; rfl, ?_⟩)
              rw [he, hb1]
              exact ⟨⟨ok2.pos, ok2.len, ok2.le, ok2.wt⟩, _, _, by first | (rw [← h11]; done) | (rw [← h11]; rfl), hs0.mono st.grow.le, hwt⟩

end
end Go.Proofs.Ytekhcjgmgflmkaa
