/-
  Proved here: for every input the law PagesOne returns true, and what it was handed reads behind the call as before. No condition.
-/
import Derived.Test.YtonlmjpenonabaaRows
import Derived.Test.YtonlmjpenonabaaOne3

namespace Go.Proofs.Ytonlmjpenonabaa
open Go Go.RowKit K SH PT
def dg1 (x : UInt8) : By := x :: List.replicate 31 0
def L2 : List (By × By) := [(dg1 1, dg1 7), (dg1 2, dg1 8)]
theorem L2_d32 : D32p L2 := by intro x hx; simp [L2] at hx; rcases hx with rfl | rfl <;> exact ⟨rfl, rfl⟩
theorem L2_of : ofLv L2 = L2 := by decide +kernel
theorem L2_fine : Dst 0 L2 ∧ Up L2 ∧ D32p L2 := by have := ofLv_fine L2_d32; rwa [L2_of] at this
theorem L2_wh : (wh 256 0 L2).length ≤ 512 := by decide +kernel
theorem L2_ne : sum (wh 256 0 L2) ≠ z32 := by decide +kernel
theorem L2_head : ∃ b, wh 256 0 L2 = 2 :: b := ⟨_, wh_more (by decide)⟩
theorem two_ofN {N : List (By × Value)} (h : N.map (·.1) = sv 256 0 L2) : ∃ v, N = [(wh 256 0 L2, v)] := by
 rw [sv_small L2_wh] at h
 cases N with
 | nil => cases h
 | cons x r =>
  rw [List.map_cons, List.cons.injEq, List.map_eq_nil_iff] at h
  exact ⟨x.2, by rw [h.2, ← h.1]⟩
theorem one_map {b : By} {v : Value} {d : By} : pgM (mapOf [(b, v)]) d = if sum b = d then some b else none := by
 simp only [mapOf, List.foldl_cons, List.foldl_nil, insKV, pgM, getKV]
 split <;> rfl
theorem one_ld {b : By} {v : Value} {L : List (By × By)} (hs : sv 256 0 L = [b]) (hD : Dst 0 L) (hU : Up L) (hL : D32p L) : ldF (pgM (mapOf [(b, v)])) (sum b) = (L, 0) := by
 have hM : pgM (mapOf [(b, v)]) (sum b) = some b := by rw [one_map, if_pos rfl]
 have h := (ld_back (M := pgM (mapOf [(b, v)])) hD hU hL (fun q hq => .inr (by rw [hs] at hq; rw [List.mem_singleton.1 hq]; exact hM))).1 (fun q hq => by rw [hs] at hq; rw [List.mem_singleton.1 hq]; exact hM)
 have e : pg1 256 0 L = b := by unfold pg1; rw [hs]; rfl
 rwa [e] at h
theorem one_no {b : By} {v : Value} {d : By} (h : sum b ≠ d) : ldF (pgM (mapOf [(b, v)])) d = ([], 7) := by
 unfold ldF
 rw [pgF_none rfl (by rw [one_map, if_neg h])]
 rfl
section
variable {m : Mem} {wI : World}
theorem c_works17 (him : Im m wI) : Ret Try.prog 13 #[] wI fun v w' => Tch wI w' [] [] ∧ v = .bool true := by
 have st := St.start him
 refine ret_of Try.call13 Try.func13 rfl Try.ntmps13 Try.results13 rfl ?_
 refine wc_seq ?_
 refine wc_region ?_
 refine wl_val (v_assign' (by conv => (lhs; whnf))) rfl ?_
 refine wl_nil ?_
 refine then_go ?_
 refine wc_seq ?_
 refine wc_region ?_
 refine wl_val (v_build_a (c' := (bs (dg1 1)).toArray) [(0, .int .u8 1)] TF.z28 Try.underlying28 TF.t5 rfl ⟨0, 1, rfl, rfl, by decide, rfl⟩) rfl ?_
 refine wl_val (v_build_a (c' := (bs (dg1 2)).toArray) [(0, .int .u8 2)] TF.z28 Try.underlying28 TF.t5 rfl ⟨0, 1, rfl, rfl, by decide, rfl⟩) rfl ?_
 refine wl_lsTwo (bs (dg1 1)) (bs (dg1 2)) Try.underlying22 TF.t28 TF.z28 (by decide) (by decide) rfl rfl rfl rfl st rfl ?_
 intro b10 w st
 have st : St m m [] wI w [digE (.slice (some ⟨b10, 0, none⟩) 2 2) [dg1 1, dg1 2]] := st.rowShut 0 (b := b10) (k := 2) (cap := 2) (size := 32) (xs := digs [dg1 1, dg1 2]) rfl (by decide) rfl (by decide) rfl
 obtain ⟨m1, hg1, hd1, st⟩ := st.keepDig (i := 0) rfl (by intro x hx; simp at hx; rcases hx with rfl | rfl <;> rfl)
 refine wl_val (v_build_a (c' := (bs (dg1 7)).toArray) [(0, .int .u8 7)] TF.z28 Try.underlying28 TF.t5 rfl ⟨0, 1, rfl, rfl, by decide, rfl⟩) rfl ?_
 refine wl_val (v_build_a (c' := (bs (dg1 8)).toArray) [(0, .int .u8 8)] TF.z28 Try.underlying28 TF.t5 rfl ⟨0, 1, rfl, rfl, by decide, rfl⟩) rfl ?_
 refine wl_lsTwo (bs (dg1 7)) (bs (dg1 8)) Try.underlying22 TF.t28 TF.z28 (by decide) (by decide) rfl rfl rfl rfl st rfl ?_
 intro b13 w st
 have st : St m m1 [] wI w [digE (.slice (some ⟨b13, 0, none⟩) 2 2) [dg1 7, dg1 8]] := st.rowShut 0 (b := b13) (k := 2) (cap := 2) (size := 32) (xs := digs [dg1 7, dg1 8]) rfl (by decide) rfl (by decide) rfl
 obtain ⟨m2, hg2, hd2, st⟩ := st.keepDig (i := 0) rfl (by intro x hx; simp at hx; rcases hx with rfl | rfl <;> rfl)
 have hd1 := hd1.mono hg2.le
 refine wl_call rfl (c_tof' st.im hd1 hd2 (by decide)) rfl ?_
 rintro v14 w ⟨t14, m3, hg3, hi3, p, rfl, hp⟩
 have st := st.grown hg3 t14 hi3
 have hp : TreeM m3 p (treeOf L2) := by
  have e : ofLv (([dg1 1, dg1 2] : List By).zip [dg1 7, dg1 8]) = L2 := L2_of
  rw [e] at hp
  exact hp
 refine wl_val (v_assign' (by conv => (lhs; whnf))) rfl ?_
 refine wl_nil ?_
 refine then_go ?_
 refine wc_seq ?_
 refine wc_seq ?_
 refine wc_region ?_
 refine wl_val (v_move' (by conv => (lhs; whnf))) rfl ?_
 refine wl_val (v_eq_nil Try.underlying25 rfl rfl) rfl ?_
 refine wl_nil ?_
 refine then_go ?_
 refine wc_false rfl ?_
 refine wc_skip ?_
 refine then_go ?_
 refine wc_seq ?_
 refine wc_region ?_
 refine wl_val (v_move' (by conv => (lhs; whnf))) rfl ?_
 refine wl_call rfl (c_save st.im hp L2_fine.1 L2_fine.2.1 L2_d32 (by decide)) rfl ?_
 rintro v19 w ⟨t19, m4, hg4, hi4, sv2, N, rfl, hN, hs2⟩
 have st := st.grown hg4 t19 hi4
 have hp := hp.mono hg4.le
 obtain ⟨pv, rfl⟩ := two_ofN hs2
 have e1 : pg1 256 0 L2 = wh 256 0 L2 := by unfold pg1; rw [sv_small L2_wh]; rfl
 have hW1 : sum (wh 256 0 L2) ≠ z32 := L2_ne
 have hW2 : sv 256 0 L2 = [wh 256 0 L2] := sv_small L2_wh
 have hW3 := L2_wh
 have hW4 := L2_head
 rw [e1]
 generalize wh 256 0 L2 = W at *
 obtain ⟨pb, po, _, hpv, hs0, hrp⟩ := hN.elem (i := 0) (by simp)
 obtain ⟨DW, hDW⟩ : ∃ DW, DW = sum W := ⟨_, rfl⟩
 have hDl : DW.length = 32 := by rw [hDW]; exact length_sum _
 rw [← hDW] at hW1 ⊢
 have hW5 : 0 < W.length := by obtain ⟨b, hb⟩ := hW4; rw [hb]; simp
 have hW6 : ((W[0].toNat : Nat) : Int) = 2 := by
  obtain ⟨b, hb⟩ := hW4
  have : W[0]? = some 2 := by rw [hb]; rfl
  rw [List.getElem?_eq_getElem hW5] at this
  rw [Option.some.inj this]; rfl
 obtain ⟨qb, qo, qc, hqv, _⟩ := SlM.ptr1 hs0 hW5 (by decide)
 cases hpv
 have hqv : pv = .slice (some ⟨qb, qo, none⟩) W.length qc := hqv
 subst hqv
 refine wl_val (v_move' (by conv => (lhs; whnf))) rfl ?_
 refine wl_val (v_extract rfl rfl) rfl ?_
 refine wl_val (v_extract rfl rfl) rfl ?_
 refine wl_alloc TF.z28 st rfl ?_
 intro b2 w st
 refine wl_storeW (cs := (bs (DW)).toArray) 0 st rfl TF.t28 rfl rfl (by rw [List.size_toArray, length_bs, hDl]) rfl (one_bs _) ?_
 intro w st
 refine wl_val (v_assign' (by conv => (lhs; whnf))) rfl ?_
 refine wl_nil ?_
 refine then_go ?_
 refine wc_seq ?_
 refine wc_region ?_
 refine wl_val (v_load rfl (st.reads (v := arr (DW)) 0 rfl TF.t28 (getV_all (by rw [List.size_toArray, length_bs, hDl])))) rfl ?_
 refine wl_val (v_move' (by conv => (lhs; whnf))) rfl ?_
 have hNl : ∀ x ∈ [((W : By), Value.slice (some ⟨qb, qo, none⟩) W.length qc)], x.1.length ≤ 1000000000 := fun x hx => by rw [List.mem_singleton.1 hx]; exact Nat.le_trans hW3 (by decide)
 refine wl_call rfl (c_load st.im (hDl) hN hNl (by simp) (by rw [hDW, one_ld hW2 L2_fine.1 L2_fine.2.1 L2_d32]; decide)) rfl ?_
 rintro v25 w ⟨t25, m5, hg5, hi5, hv25⟩
 have st := st.grown hg5 t25 hi5
 unfold LdOut at hv25
 rw [hDW, one_ld hW2 L2_fine.1 L2_fine.2.1 L2_d32, if_neg (by decide), L2_of, e1, if_pos rfl] at hv25
 obtain ⟨p2, rfl, hp2⟩ := hv25
 have hN := hN.mono hg5.le
 have hp := hp.mono hg5.le
 refine wl_val (v_move' (by conv => (lhs; whnf))) rfl ?_
 refine wl_val (v_extract rfl rfl) rfl ?_
 refine wl_val (v_extract rfl rfl) rfl ?_
 refine wl_val (v_assign' (by conv => (lhs; whnf))) rfl ?_
 refine wl_val (v_assign' (by conv => (lhs; whnf))) rfl ?_
 refine wl_nil ?_
 refine then_go ?_
 refine wc_seq ?_
 refine wc_region ?_
 refine wl_val (v_build_a (c' := (bs z32).toArray) [] TF.z28 Try.underlying28 TF.t5 rfl rfl) rfl ?_
 refine wl_val (v_move' (by conv => (lhs; whnf))) rfl ?_
 refine wl_call rfl (c_load (d := z32) st.im rfl hN hNl (by simp) (by rw [one_no (hDW ▸ hW1)]; decide)) rfl ?_
 rintro v31 w ⟨t31, m6, hg6, hi6, hv31⟩
 have st := st.grown hg6 t31 hi6
 unfold LdOut at hv31
 rw [one_no (hDW ▸ hW1), if_pos (by decide)] at hv31
 subst hv31
 have hN := hN.mono hg6.le
 have hp := hp.mono hg6.le
 have hp2 := hp2.mono hg6.le
 obtain ⟨_, _, _, hpv2, hs0, hrp⟩ := hN.elem (i := 0) (by simp)
 cases hpv2
 refine wl_val (v_move' (by conv => (lhs; whnf))) rfl ?_
 refine wl_val (v_extract rfl rfl) rfl ?_
 refine wl_val (v_extract rfl rfl) rfl ?_
 refine wl_val (v_assign' (by conv => (lhs; whnf))) rfl ?_
 refine wl_val (v_assign' (by conv => (lhs; whnf))) rfl ?_
 refine wl_nil ?_
 refine then_go ?_
 refine wc_seq ?_
 refine wc_region ?_
 refine wl_val (v_move' (by conv => (lhs; whnf))) rfl ?_
 refine wl_val (v_len_s Try.underlying29 rfl) rfl ?_
 refine wl_val (v_eqlT (by simp) rfl rfl) rfl ?_
 refine wl_val (v_move' (by conv => (lhs; whnf))) rfl ?_
 refine wl_on rfl rfl ?_
 refine wl_val (v_move' (by conv => (lhs; whnf))) rfl ?_
 refine wl_on rfl rfl ?_
 refine wl_val (v_ias 0 Try.underlying29 TF.t37 rfl rfl (by first | rfl | omega) (by simp)) rfl ?_
 refine wl_on rfl rfl ?_
 refine wl_val (v_load rfl (hrp st.im)) rfl ?_
 refine wl_on rfl rfl ?_
 refine wl_val (v_ias 0 Try.underlying37 TF.t5 rfl rfl (by first | rfl | omega) hW5) rfl ?_
 refine wl_on rfl rfl ?_
 refine wl_val (v_load rfl (SlM.rdB TF.t5 0 hs0 hW5 st.im)) rfl ?_
 refine wl_on rfl rfl ?_
 refine wl_val (v_eqlT hW6 rfl rfl) rfl ?_
 refine wl_val (v_pick rfl) rfl ?_
 refine wl_val (v_move' (by conv => (lhs; whnf))) rfl ?_
 refine wl_on rfl rfl ?_
 refine wl_val (v_move' (by conv => (lhs; whnf))) rfl ?_
 refine wl_on rfl rfl ?_
 refine wl_val (v_eqlT rfl rfl rfl) rfl ?_
 refine wl_val (v_pick rfl) rfl ?_
 refine wl_val (v_move' (by conv => (lhs; whnf))) rfl ?_
 refine wl_on rfl rfl ?_
 refine wl_val (v_move' (by conv => (lhs; whnf))) rfl ?_
 refine wl_on rfl rfl ?_
 refine wl_val (v_ne_nil Try.underlying25 rfl rfl) rfl ?_
 refine wl_val (v_pick rfl) rfl ?_
 refine wl_val (v_move' (by conv => (lhs; whnf))) rfl ?_
 refine wl_on rfl rfl ?_
 refine wl_val (v_move' (by conv => (lhs; whnf))) rfl ?_
 refine wl_on rfl rfl ?_
 refine wl_call rfl (c_troot st.im hp2) rfl ?_
 rintro v55 w ⟨t55, rfl⟩
 have st := st.pure t55
 refine wl_on rfl rfl ?_
 refine wl_val (v_move' (by conv => (lhs; whnf))) rfl ?_
 refine wl_on rfl rfl ?_
 refine wl_call rfl (c_troot st.im hp) rfl ?_
 rintro v57 w ⟨t57, rfl⟩
 have st := st.pure t57
 refine wl_on rfl rfl ?_
 refine wl_val (wl_valD (v_eq_arr Try.underlying28 TF.t5 Try.underlying5 TF.e28 rfl rfl (length_root _) (length_root _)) (decide_eq_true rfl)) rfl ?_
 refine wl_val (v_pick rfl) rfl ?_
 refine wl_val (v_move' (by conv => (lhs; whnf))) rfl ?_
 refine wl_on rfl rfl ?_
 refine wl_val (v_move' (by conv => (lhs; whnf))) rfl ?_
 refine wl_on rfl rfl ?_
 refine wl_val (v_eqlT rfl rfl rfl) rfl ?_
 refine wl_val (v_pick rfl) rfl ?_
 refine wl_val (v_assign' (by conv => (lhs; whnf))) rfl ?_
 refine wl_nil ?_
 refine then_go ?_
 refine wc_ret ?_
 exact ret1 rfl ⟨(st.keepOnly (l := []) (List.nil_sublist _)).touch, rfl⟩
end
end Go.Proofs.Ytonlmjpenonabaa

namespace Go.Proofs.Ytonlmjpenonabaa
open Go Go.RowKit K SH PT
section
variable {m : Mem} {wI : World}
theorem c_pagesOne {va : Value} {A : List By} {z : Int} (him : Im m wI) (ha : DigM m va A) :
  Ret Try.prog 6 #[va, .int .i64 z] wI fun v w' => Tch wI w' [] [] ∧ v = .bool true := by
 have st := St.start him
 obtain ⟨a1, c1, rfl⟩ := ha.sl
 obtain ⟨hfD, hfU, hfd⟩ := ofLv_fine (d32_zip ha.1 ha.1)
 have hLl := length_ofLv (A.zip A)
 have hzl : (A.zip A).length ≤ A.length := by simp
 generalize hL : ofLv (A.zip A) = L at hfD hfU hfd hLl
 refine ret_of Try.call6 Try.func6 rfl Try.ntmps6 Try.results6 rfl ?_
 refine wc_seq ?_
 refine wc_region ?_
 refine wl_val (v_assign' (by conv => (lhs; whnf))) rfl ?_
 refine wl_nil ?_
 refine then_go ?_
 refine wc_seq ?_
 refine wc_seq ?_
 refine wc_region ?_
 refine wl_val (v_move' (by conv => (lhs; whnf))) rfl ?_
 refine wl_call rfl (c_few17 st.im) rfl ?_
 rintro v15 w ⟨t15, rfl⟩
 have st := st.pure t15
 refine wl_val (v_not rfl) rfl ?_
 refine wl_val (v_move' (by conv => (lhs; whnf))) rfl ?_
 rcases Bool.eq_false_or_eq_true (!decide ((A.length : Int) ≤ 40)) with hg3 | hg3
 ·rw [hg3]
  refine wl_off rfl rfl rfl rfl ?_
  refine wl_off rfl rfl rfl rfl ?_
  refine wl_off rfl rfl rfl rfl ?_
  refine wl_val (v_pick rfl) rfl ?_
  refine wl_nil ?_
  refine then_go ?_
  refine wc_true rfl ?_
  refine wc_seq ?_
  refine wc_region ?_
  refine wl_call rfl (c_works17 st.im) rfl ?_
  rintro v22 w ⟨t22, rfl⟩
  have st := st.pure t22
  refine wl_val (v_assign' (by conv => (lhs; whnf))) rfl ?_
  refine wl_nil ?_
  refine then_go ?_
  refine wc_ret (then_ret ?_)
  exact ret1 rfl ⟨(st.keepOnly (l := []) (List.nil_sublist _)).touch, rfl⟩
 ·rw [hg3]
  refine wl_on rfl rfl ?_
  refine wl_val (v_move' (by conv => (lhs; whnf))) rfl ?_
  refine wl_on rfl rfl ?_
  refine wl_val (v_len_s Try.underlying22 rfl) rfl ?_
  refine wl_on rfl rfl ?_
  refine wl_val (v_eql rfl rfl) rfl ?_
  refine wl_val (v_pick rfl) rfl ?_
  refine wl_nil ?_
  refine then_go ?_
  refine wc_if rfl (fun h21 => ?_) (fun h21 => ?_)
  ·refine wc_seq ?_
   refine wc_region ?_
   refine wl_call rfl (c_works17 st.im) rfl ?_
   rintro v22 w ⟨t22, rfl⟩
   have st := st.pure t22
   refine wl_val (v_assign' (by conv => (lhs; whnf))) rfl ?_
   refine wl_nil ?_
   refine then_go ?_
   refine wc_ret (then_ret ?_)
   exact ret1 rfl ⟨(st.keepOnly (l := []) (List.nil_sublist _)).touch, rfl⟩
  ·refine wc_skip ?_
   refine then_go ?_
   refine wc_seq ?_
   have hA40 : A.length ≤ 40 := by simp at hg3; omega
   have hA0 : 0 < A.length := by omega
   obtain ⟨u, hu⟩ : ∃ u, u = IntKind.u64.wrap z := ⟨_, rfl⟩
   have hu0 : 0 ≤ u := by rw [hu, IntKind.wrap_u64]; omega
   obtain ⟨k, hk⟩ : ∃ k : Nat, u % (A.length : Int) = k := ⟨(u % (A.length : Int)).toNat, (Int.toNat_of_nonneg (Int.emod_nonneg _ (by omega))).symm⟩
   have hkl : k < A.length := by have := Int.emod_lt_of_pos u (show (0 : Int) < A.length by omega); omega
   refine wc_region ?_
   refine wl_val (v_move' (by conv => (lhs; whnf))) rfl ?_
   refine wl_val (v_to (v' := .int .u64 u) (v_conv Try.underlying3 Try.underlying39 rfl) (by rw [hu])) rfl ?_
   refine wl_val (v_move' (by conv => (lhs; whnf))) rfl ?_
   refine wl_val (v_len_s Try.underlying22 rfl) rfl ?_
   refine wl_val (v_to (v' := .int .u64 (A.length : Nat)) (v_conv Try.underlying3 Try.underlying39 rfl) (by rw [wrap_u64_small (by omega)])) rfl ?_
   refine wl_val (v_rem' rfl rfl hu0 (by omega) hk) rfl ?_
   refine wl_val (v_to (v' := .int .i64 (k : Nat)) (v_conv Try.underlying39 Try.underlying3 rfl) (by rw [wrap_i64 (by omega) (by omega)])) rfl ?_
   refine wl_val (v_assign' (by conv => (lhs; whnf))) rfl ?_
   refine wl_nil ?_
   refine then_go ?_
   refine wc_seq ?_
   refine wc_region ?_
   refine wl_val (v_assign' (by conv => (lhs; whnf))) rfl ?_
   refine wl_nil ?_
   refine then_go ?_
   refine wc_seq ?_
   refine wc_seq ?_
   refine wc_region ?_
   refine wl_val (v_assign' (by conv => (lhs; whnf))) rfl ?_
   refine wl_nil ?_
   refine then_go ?_
   refine wc_block ?_
   have st := st.nilDig
   refine wc_loop (S := Nat) (fun q r w' => ∃ (i : Nat) (v : Value), q + i = A.length ∧ r 0 = .slice a1 A.length c1 ∧ r 5 = .int .i64 k ∧ r 6 = v ∧ r 7 = .int .i64 i ∧
    St m m [] wI w' [digE v (turnL A k i)]) id A.length ⟨0, _, by omega, rfl, rfl, rfl, rfl, st⟩ ?_
   rintro q r w2 ⟨i, v, hqi, g0, g5, g6, g7, st⟩
   refine wc_o 0 g0 (wc_o 5 g5 (wc_o 6 g6 (wc_o 7 g7 ?_)))
   refine wc_seq ?_
   refine wc_seq ?_
   refine wc_region ?_
   refine wl_val (v_move' (by conv => (lhs; whnf))) rfl ?_
   refine wl_val (v_move' (by conv => (lhs; whnf))) rfl ?_
   refine wl_val (v_len_s Try.underlying22 rfl) rfl ?_
   refine wl_val (v_lss rfl rfl) rfl ?_
   refine wl_nil ?_
   refine then_go ?_
   refine wc_if rfl (fun h33 => ?_) (fun h33 => ?_)
   ·refine wc_skip ?_
    refine then_go ?_
    refine wc_seq ?_
    refine wc_block ?_
    have hi : i < A.length := by omega
    obtain ⟨ba, oa, hba⟩ := ha.ptr (by omega)
    subst hba
    obtain ⟨j, hj⟩ : ∃ j, j = (k + A.length - i) % A.length := ⟨_, rfl⟩
    have hjl : j < A.length := by rw [hj]; exact Nat.mod_lt _ hA0
    have hjz : ((k : Int) + A.length - i) % A.length = j := by rw [hj, Int.natCast_emod]; congr 1; omega
    have hAj : A[j] = A.getD ((k + A.length - i) % A.length) [] := by rw [← hj]; simp [List.getD, hjl]
    refine wc_region ?_
    refine wl_val (v_move' (by conv => (lhs; whnf))) rfl ?_
    refine wl_val (v_move' (by conv => (lhs; whnf))) rfl ?_
    refine wl_val (v_move' (by conv => (lhs; whnf))) rfl ?_
    refine wl_val (v_move' (by conv => (lhs; whnf))) rfl ?_
    refine wl_val (v_len_s Try.underlying22 rfl) rfl ?_
    refine wl_val (v_add' rfl rfl rfl (by first | omega | (dsimp only at *; omega)) (by first | omega | (dsimp only at *; omega))) rfl ?_
    refine wl_val (v_move' (by conv => (lhs; whnf))) rfl ?_
    refine wl_val (v_sub' rfl rfl rfl (by first | omega | (dsimp only at *; omega)) (by first | omega | (dsimp only at *; omega))) rfl ?_
    refine wl_val (v_move' (by conv => (lhs; whnf))) rfl ?_
    refine wl_val (v_len_s Try.underlying22 rfl) rfl ?_
    refine wl_val (v_rem' rfl rfl (by omega) (by omega) hjz) rfl ?_
    refine wl_val (v_ias j Try.underlying22 TF.t28 rfl rfl (by first | rfl | omega) (by first | omega | (dsimp only at *; omega))) rfl ?_
    refine wl_val (v_load rfl (ha.rd rfl hjl rfl st.im)) rfl ?_
    refine wl_digOne _ (ha.1.get hjl) rfl st rfl ?_
    intro b49 w st
    refine wl_digApp 0 st rfl (ha.1.get hjl) rfl rfl (by simp [turnL]; omega) rfl ?_
    intro v50 w st hv50
    refine wl_val (v_assign' (by conv => (lhs; whnf))) rfl ?_
    refine wl_nil ?_
    refine block_go (then_go ?_)
    refine wc_region ?_
    refine wl_val (v_move' (by conv => (lhs; whnf))) rfl ?_
    refine wl_val (v_add' rfl rfl rfl (by first | omega | (dsimp only at *; omega)) (by first | omega | (dsimp only at *; omega))) rfl ?_
    refine wl_val (v_assign' (by conv => (lhs; whnf))) rfl ?_
    refine wl_nil ?_
    refine then_go ?_
    refine ⟨q - 1, by simp; omega, i + 1, v50, by omega, rfl, rfl, rfl, rfl, ?_⟩
    rw [turnL_succ, ← hAj]
    exact st
   ·refine wc_exit (then_exit (then_exit (block_hit ?_)))
    refine then_go ?_
    refine wc_seq ?_
    have hiA : i = A.length := by omega
    subst hiA
    have hmem := mem_turnL hkl
    have hB : D32 (turnL A k A.length) := fun y hy => ha.1 y ((hmem y).2 hy)
    obtain ⟨m3, hg3', hb, st⟩ := st.keepDig (i := 0) rfl hB
    have ha := ha.mono hg3'.le
    obtain ⟨B, hBe⟩ : ∃ B, B = turnL A k A.length := ⟨_, rfl⟩
    rw [← hBe] at hmem hB hb
    have hBl : B.length = A.length := by rw [hBe]; simp [turnL]
    have htr : treeOf (ofLv (B.zip B)) = treeOf L := by rw [← hL]; exact canon_perm (diag_perm hB ha.1 fun x => (hmem x).symm)
    change St _ _ _ _ _ [] at st
    refine wc_region ?_
    refine wl_val (v_move' (by conv => (lhs; whnf))) rfl ?_
    refine wl_val (v_move' (by conv => (lhs; whnf))) rfl ?_
    refine wl_call rfl (c_tof' st.im ha ha (by omega)) rfl ?_
    rintro v53 w ⟨t53, m4, hg4, hi4, p, rfl, hp⟩
    have st := st.grown hg4 t53 hi4
    have hb := hb.mono hg4.le
    rw [hL] at hp
    refine wl_val (v_move' (by conv => (lhs; whnf))) rfl ?_
    refine wl_val (v_move' (by conv => (lhs; whnf))) rfl ?_
    refine wl_call rfl (c_tof' st.im hb hb (by omega)) rfl ?_
    rintro v56 w ⟨t56, m5, hg5, hi5, p2, rfl, hp2⟩
    have st := st.grown hg5 t56 hi5
    have hp := hp.mono hg5.le
    rw [htr] at hp2
    refine wl_val (v_assign' (by conv => (lhs; whnf))) rfl ?_
    refine wl_val (v_assign' (by conv => (lhs; whnf))) rfl ?_
    refine wl_nil ?_
    refine then_go ?_
    refine wc_seq ?_
    refine wc_seq ?_
    refine wc_region ?_
    refine wl_val (v_move' (by conv => (lhs; whnf))) rfl ?_
    refine wl_val (v_eq_nil Try.underlying25 rfl rfl) rfl ?_
    refine wl_val (v_move' (by conv => (lhs; whnf))) rfl ?_
    refine wl_on rfl rfl ?_
    refine wl_val (v_move' (by conv => (lhs; whnf))) rfl ?_
    refine wl_on rfl rfl ?_
    refine wl_val (v_eq_nil Try.underlying25 rfl rfl) rfl ?_
    refine wl_val (v_pick rfl) rfl ?_
    refine wl_nil ?_
    refine then_go ?_
    refine wc_false rfl ?_
    refine wc_skip ?_
    refine then_go ?_
    refine wc_seq ?_
    refine wc_region ?_
    refine wl_val (v_move' (by conv => (lhs; whnf))) rfl ?_
    refine wl_call rfl (c_save st.im hp hfD hfU hfd (by omega)) rfl ?_
    rintro v65 w ⟨t65, m6, hg6, hi6, lv1, N1, rfl, hN1, hs1⟩
    have st := st.grown hg6 t65 hi6
    have hp2 := hp2.mono hg6.le
    refine wl_val (v_move' (by conv => (lhs; whnf))) rfl ?_
    refine wl_val (v_extract rfl rfl) rfl ?_
    refine wl_val (v_extract rfl rfl) rfl ?_
    refine wl_alloc TF.z28 st rfl ?_
    intro b10 w st
    refine wl_storeW (cs := (bs (sum (pg1 256 0 L))).toArray) 0 st rfl TF.t28 rfl rfl (by rw [List.size_toArray, length_bs, length_sum]) rfl (one_bs _) ?_
    intro w st
    refine wl_val (v_assign' (by conv => (lhs; whnf))) rfl ?_
    refine wl_nil ?_
    refine then_go ?_
    refine wc_seq ?_
    refine wc_region ?_
    refine wl_val (v_move' (by conv => (lhs; whnf))) rfl ?_
    refine wl_call rfl (c_save st.im hp2 hfD hfU hfd (by omega)) rfl ?_
    rintro v70 w ⟨t70, m7, hg7, hi7, lv2, N2, rfl, hN2, hs2⟩
    have st := st.grown hg7 t70 hi7
    have hN1 := hN1.mono hg7.le
    have hN1l : N1.length ≤ 1000000 := by
     have h := sv_len (g := 256) (d := 0) (L := L)
     have h2 : N1.length = (sv 256 0 L).length := by rw [← hs1, List.length_map]
     omega
    refine wl_val (v_move' (by conv => (lhs; whnf))) rfl ?_
    refine wl_val (v_extract rfl rfl) rfl ?_
    refine wl_val (v_extract rfl rfl) rfl ?_
    refine wl_alloc TF.z28 st rfl ?_
    intro b12 w st
    refine wl_storeW (cs := (bs (sum (pg1 256 0 L))).toArray) 0 st rfl TF.t28 rfl rfl (by rw [List.size_toArray, length_bs, length_sum]) rfl (one_bs _) ?_
    intro w st
    refine wl_val (v_assign' (by conv => (lhs; whnf))) rfl ?_
    refine wl_nil ?_
    refine then_go ?_
    refine wc_seq ?_
    refine wc_region ?_
    refine wl_val (v_load rfl (st.reads (v := arr (sum (pg1 256 0 L))) 1 rfl TF.t28 (getV_all (by rw [List.size_toArray, length_bs, length_sum])))) rfl ?_
    refine wl_val (v_load rfl (st.reads (v := arr (sum (pg1 256 0 L))) 0 rfl TF.t28 (getV_all (by rw [List.size_toArray, length_bs, length_sum])))) rfl ?_
    refine wl_val (wl_valD (v_eq_arr Try.underlying28 TF.t5 Try.underlying5 TF.e28 rfl rfl (length_sum _) (length_sum _)) (decide_eq_true rfl)) rfl ?_
    refine wl_val (v_move' (by conv => (lhs; whnf))) rfl ?_
    refine wl_on rfl rfl ?_
    refine wl_val (v_move' (by conv => (lhs; whnf))) rfl ?_
    refine wl_on rfl rfl ?_
    refine wl_val (v_move' (by conv => (lhs; whnf))) rfl ?_
    refine wl_on rfl rfl ?_
    refine wl_call rfl (c_sametexts st.im hN1 hN2 (hs1.trans hs2.symm) (by omega)) rfl ?_
    rintro v79 w ⟨t79, rfl⟩
    have st := st.pure t79
    refine wl_val (v_pick rfl) rfl ?_
    refine wl_val (v_move' (by conv => (lhs; whnf))) rfl ?_
    refine wl_on rfl rfl ?_
    refine wl_call rfl (c_works17 st.im) rfl ?_
    rintro v82 w ⟨t82, rfl⟩
    have st := st.pure t82
    refine wl_val (v_pick rfl) rfl ?_
    refine wl_val (v_assign' (by conv => (lhs; whnf))) rfl ?_
    refine wl_nil ?_
    refine then_go ?_
    refine wc_ret ?_
    exact ret1 rfl ⟨(st.keepOnly (l := []) (List.nil_sublist _)).touch, rfl⟩
end
end Go.Proofs.Ytonlmjpenonabaa

namespace Go.Proofs.Ytonlmjpenonabaa
open Go Go.ChangeShapes Go.WideShapes Go.ChangeAt Go.RowKit K SH PT
theorem Try.ownpb : ownKnob Try.prog.godebug = none := by kernel_rfl
theorem Try.laidOutpb : laidOutB Try.prog = true := by kernel_rfl
theorem Try.trodAllpb {H : Type} {enc : TypeId × Value → H} {w : World} {held : Bool} {P : Program} {base : Nat} {spare : Nat → Bool} {t0 t1 : TypeId} {args : Array Value} {ds : List (DataW H)} {ps : List MemPlace} (h : DataW.TrodAll enc P w base spare held [t0, t1] args.toList ds ps) :
  ∃ v0 v1 d0 d1 p0 p1, args = #[v0, v1] ∧ ds = [d0, d1] ∧ ps = p0 ++ p1 ∧ DataW.Trod enc P w base spare held t0 v0 d0 p0 ∧ DataW.Trod enc P w base spare held t1 v1 d1 p1 := by
 obtain ⟨v0, vs0, d0, ds0, p0, q0, hargs, rfl, rfl, hd0, h⟩ := trodAll_cons h
 obtain ⟨v1, vs1, d1, ds1, p1, q1, rfl, rfl, rfl, hd1, h⟩ := trodAll_cons h
 obtain ⟨rfl, rfl, rfl⟩ := trodAll_nil h
 exact ⟨v0, v1, d0, d1, p0, p1, by cases args; simp_all, rfl, by simp, hd0, hd1⟩
set_option maxRecDepth 100000 in
theorem pagesOne_lifted (os : Os) (started : os.Started) (H : Type) (enc : TypeId × Value → H) :
  ReturnsInHanded {} Try.checked os 6 .any (Rows.pagesOneSpec.pre6 enc Try.prog Try.f6 Rows.pagesOneRow.domain false) (Rows.pagesOneSpec.post enc Try.prog Try.f6 false true false false) := by
 refine returnsInHanded_of_change (C := Try.checked) Try.ownpb started (by kernel_rfl) Try.func6
  (ChangeSpec.witness6 (enc := enc) (C := Try.checked) false ⟨#[], #[.slice none 0 0, .int .i64 0], []⟩ 12 (by kernel_rfl) (by kernel_rfl) (by kernel_rfl) (by kernel_rfl)) ?_
 intro W base args ds gs before hval0 hW hcnd _
 have hval : ∀ (j : Nat) t v, Try.f6.params[j]? = some t → args[j]? = some v → Value.okWide Try.prog W .any base t v := hval0
 have hW' := hW
 obtain ⟨p, q, hA0, hV, rfl, hfz, hnd⟩ := hW
 have hA : DataW.TrodAll enc Try.prog W 0 (fun _ => true) true Try.f6.params.toList args.toList ds p := hA0
 rw [Try.params6] at hA hval
 obtain ⟨v0, v1, d0, d1, p0, p1, rfl, rfl, rfl, h0, h1⟩ := Try.trodAllpb hA
 obtain ⟨fu0, hf0⟩ := h0
 obtain ⟨sa0, sl0, sc0, rfl⟩ := okWide_slice Try.underlying22 (hval 0 22 v0 rfl rfl)
 obtain ⟨l0, hl0, hn0⟩ := open_digs hf0
 obtain ⟨a1, rfl, rfl, rfl, wa1⟩ := open_int Try.underlying3 (hval 1 3 v1 rfl rfl) h1
 refine Calls.mono (P := Try.prog) (c_pagesOne (im_heapM W) hl0).2 fun e W1 ⟨v, he, t, hv⟩ => ?_
 subst hv
 subst he
 exact ⟨_, rfl, post_true Try.laidOutpb (by kernel_rfl) rfl hW' t rfl rfl Try.underlying4⟩
theorem pagesOne_holds : Rows.PagesOneSaid :=
 OpenClaim.holds_of_wide 6 Try.f6 rfl rfl rfl rfl rfl rfl rfl ⟨rfl, rfl, rfl, rfl, rfl⟩ rfl rfl rfl rfl rfl (by kernel_rfl) Try.func6 (by kernel_rfl)
  (of_decide_eq_true (by kernel_rfl)) (by unfold Func.isWrapper; first | (rw [if_pos (by decide +kernel)]; kernel_rfl) | (rw [if_neg (by decide +kernel)]; exact ⟨rfl, rfl⟩))
  (fun os started H enc _ => pagesOne_lifted os started H enc)
end Go.Proofs.Ytonlmjpenonabaa
