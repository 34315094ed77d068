/-
  TreeStays answers true.
-/
import Derived.Test.YtkbmhhbclbgdpaaUs
namespace Go.Proofs.Ytkbmhhbclbgdpaa
open Go Go.RowKit K SH PT

theorem getG_mem {L : List (By × By)} {x v : By} (hn : (L.map (·.1)).Nodup) (hm : (x, v) ∈ L) : getG x L = some v := by
  induction L with
  | nil => simp at hm
  | cons y l ih =>
    rw [List.map_cons, List.nodup_cons] at hn
    rw [getG]
    rcases List.mem_cons.1 hm with he | hm
    · subst he; rw [if_pos rfl]
    · rw [if_neg ?_, ih hn.2 hm]
      intro e
      exact hn.1 (List.mem_map.2 ⟨(x, v), hm, e.symm⟩)

theorem getG_some {L : List (By × By)} {x v : By} (h : getG x L = some v) : (x, v) ∈ L := by
  induction L with
  | nil => simp [getG] at h
  | cons y l ih =>
    rw [getG] at h
    split at h
    · rename_i he
      simp only [Option.some.injEq] at h
      subst he; subst h
      simp
    · exact List.mem_cons_of_mem _ (ih h)

theorem perm_cons_filter {L : List (By × By)} {x v : By} (hn : (L.map (·.1)).Nodup) (hm : (x, v) ∈ L) : List.Perm L ((x, v) :: L.filter fun y => decide (y.1 ≠ x)) := by
  induction L with
  | nil => simp at hm
  | cons y l ih =>
    rw [List.map_cons, List.nodup_cons] at hn
    rcases List.mem_cons.1 hm with he | hm
    · subst he
      rw [List.filter_cons_of_neg (by simp), List.filter_eq_self.2]
      intro z hz
      simp only [decide_eq_true_eq]
      intro e
      exact hn.1 (List.mem_map.2 ⟨z, hz, e⟩)
    · have hne : y.1 ≠ x := fun e => hn.1 (List.mem_map.2 ⟨(x, v), hm, e.symm⟩)
      rw [List.filter_cons_of_pos (by simpa using hne)]
      exact ((ih hn.2 hm).cons y).trans (List.Perm.swap _ _ _)

theorem put_put {L : List (By × By)} {x u v : By} : List.Perm (putL x u (putL x v L)) (putL x u L) := by
  refine (putL_perm x u _).trans (List.Perm.trans ?_ (putL_perm x u L).symm)
  refine List.Perm.cons _ (((putL_perm x v L).filter _).trans ?_)
  rw [List.filter_cons_of_neg (by simp), List.filter_filter]
  simp

theorem put_same {L : List (By × By)} {x v : By} (hn : (L.map (·.1)).Nodup) (hm : (x, v) ∈ L) : List.Perm (putL x v L) L := (putL_perm x v L).trans (perm_cons_filter hn hm).symm

theorem getG_put {L : List (By × By)} {x v : By} (h : Dst 0 L) (hx : x.length = 32) : getG x (putL x v L) = some v :=
  getG_mem (h.put (v := v) hx).nodup ((putL_perm x v L).mem_iff.2 (by simp))

theorem back_put {L : List (By × By)} {x v old : By} (h : Dst 0 L) (hg : getG x L = some old) : treeOf (putL x old (putL x v L)) = treeOf L :=
  canon_perm (put_put.trans (put_same h.nodup (getG_some hg)))

section
variable {m : Mem} {wI : World}

theorem c_f5 {va vv : Value} {A V : List By} {x v y : By} (him : Im m wI) (ha : DigM m va A) (hv : DigM m vv V) (hx : x.length = 32) (hvl : v.length = 32) (hy : y.length = 32) :
    Ret Try.prog 5 #[va, vv, arr x, arr v, arr y] wI fun v w' => Tch wI w' [] [] ∧ v = .bool true := by
  have st := St.start him
  obtain ⟨a1, c1, rfl⟩ := ha.sl
  obtain ⟨a2, c2, rfl⟩ := hv.sl
  obtain ⟨hD, _⟩ := ofLv_dst (Z := A.zip V) fun x hx => (d32_zip ha.1 hv.1 x hx).1
  have hdp := ofLv_d32 (d32_zip ha.1 hv.1)
  have hLl := length_ofLv (A.zip V)
  have hzl : (A.zip V).length ≤ A.length := by simp; omega
  generalize hL : ofLv (A.zip V) = L at hD hdp hLl
  have hDU := hD.put (v := v) hx
  have hUl : (putL x v L).length ≤ L.length + 1 := by have := length_putG (x := x) (v := v) (l := L) (b := false); simpa [putL] using this
  have hgU := getG_put (v := v) hD hx
  refine ret_of Try.call5 Try.func5 rfl Try.ntmps5 Try.results5 rfl ?_
  refine wc_seq ?_
  refine wc_region ?_
  refine wl_box (v := arr x) rfl st rfl ?_
  intro b7 w st
  refine wl_box (v := arr v) rfl st rfl ?_
  intro b8 w st
  refine wl_box (v := arr y) rfl st rfl ?_
  intro b9 w st
  refine wl_val (v_assign' (by conv => (lhs; whnf))) rfl ?_
  refine wl_nil ?_
  refine then_go ?_
  refine wc_seq ?_
  refine wc_seq ?_
  refine wc_region ?_
  refine wl_val (v_move' (by conv => (lhs; whnf))) rfl ?_
  refine wl_call rfl (c_few st.im ha) rfl ?_
  rintro v16 w ⟨t16, rfl⟩
  have st := st.pure t16
  refine wl_val (v_not rfl) rfl ?_
  refine wl_nil ?_
  refine then_go ?_
  refine wc_cond rfl (fun h23 => ?_) (fun h23 => ?_)
  · refine wc_seq ?_
    refine wc_region ?_
    refine wl_call rfl (c_works st.im) rfl ?_
    rintro v18 w ⟨t18, rfl⟩
    have st := st.pure t18
    refine wl_val (v_assign' (by conv => (lhs; whnf))) rfl ?_
    refine wl_nil ?_
    refine then_go ?_
    refine wc_ret (then_ret ?_)
    exact ret1 rfl ⟨(st.keepOnly (l := []) (List.nil_sublist _)).touch, rfl⟩
  · refine wc_skip ?_
    refine then_go ?_
    refine wc_seq ?_
    refine wc_region ?_
    refine wl_val (v_move' (by conv => (lhs; whnf))) rfl ?_
    refine wl_val (v_move' (by conv => (lhs; whnf))) rfl ?_
    have hA60 : A.length ≤ 60 := by simp at h23; omega
    refine wl_call rfl (c_tof' st.im ha hv hA60) rfl ?_
    rintro v21 w ⟨t21, m1, hg1, hi1, p, rfl, hp⟩
    have st := st.grown hg1 t21 hi1
    rw [hL] at hp
    refine wl_val (v_assign' (by conv => (lhs; whnf))) rfl ?_
    refine wl_nil ?_
    refine then_go ?_
    refine wc_seq ?_
    refine wc_seq ?_
    refine wc_region ?_
    refine wl_val (v_move' (by conv => (lhs; whnf))) rfl ?_
    refine wl_val (v_eq_nil (p := some ⟨p, 0, none⟩) Try.underlying27 rfl rfl) rfl ?_
    refine wl_nil ?_
    refine then_go ?_
    refine wc_false rfl ?_
    refine wc_skip ?_
    refine then_go ?_
    refine wc_seq ?_
    refine wc_draw TF.mixed ?_
    have st := st.pure (touch_drew _)
    show FL _ _ ?ops ?post [] [] [] _ _
    have fin : ∀ (r : Fr) (w : World) (b12 b14 : Nat) (pv : Value) (m3 : Mem), r 7 = .pointer (some ⟨b7, 0, none⟩) → r 8 = .pointer (some ⟨b8, 0, none⟩) → r 9 = .pointer (some ⟨b9, 0, none⟩) → r 11 = ptrP p → r 12 = .pointer (some ⟨b12, 0, none⟩) → r 14 = .pointer (some ⟨b14, 0, none⟩) → r 31 = arr (treeOf L).root → r 33 = .int .i64 (treeOf L).n → r 36 = pv → TreeM m3 p (treeOf L) → PrM m3 pv (prvL y L) →
      St m m3 [] wI w [K.blk b14 (prC (.slice none 0 0) 0 z32 z32) 41, K.blk b12 (bs z32).toArray 24, K.blk b9 (arr y).cells 24, K.blk b8 (arr v).cells 24, K.blk b7 (arr x).cells 24] → FL Try.prog 101 ?ops ?post [8, 7, 6, 3, 1, 5, 4, 2, 0] [] [] r w := by
      clear st
      rintro r w b12 b14 pv m3 h7 h8 h9 h11 h12 h14 h31 h33 h36 hp hq1 st
      refine fl_o 7 h7 (fl_o 8 h8 (fl_o 9 h9 (fl_o 11 h11 (fl_o 12 h12 (fl_o 14 h14 (fl_o 31 h31 (fl_o 33 h33 (fl_o 36 h36 ?_))))))))
      obtain ⟨sv, rfl, hqs, hqI, hqV⟩ := id hq1
      refine fl_eff1 9 [] [] (by kernel_rfl) trivial rfl ?_
      refine wl_storeW (cs := (bs (treeOf L).root).toArray) 1 st rfl TF.t24 rfl rfl (by simp [length_bs, length_root]) rfl (fun u hu => one_bs _ u (by simpa using hu)) ?_
      intro w st
      refine wl_nil ⟨rfl, ?_⟩
      refine fl_eff1 10 [] [] (by kernel_rfl) trivial rfl ?_
      refine wl_val (v_assign' (by conv => (lhs; whnf))) rfl ?_
      refine wl_nil ⟨rfl, ?_⟩
      refine fl_eff1 11 [] [] (by kernel_rfl) trivial rfl ?_
      refine wl_storeW (cs := prC sv (prvL y L).E (prvL y L).I (prvL y L).V) 0 st rfl TF.t41 rfl rfl (size_prC hqI hqV) rfl (one_prC (by obtain ⟨a, c, rfl⟩ := hqs.sl; rfl)) ?_
      intro w st
      refine wl_nil ⟨rfl, ?_⟩
      refine fl_nil (by kernel_rfl) trivial ?_
      refine then_go ?_
      refine wc_seq ?_
      refine wc_region ?_
      refine wl_val (v_move' (by conv => (lhs; whnf))) rfl ?_
      refine wl_val (v_load rfl (st.reads (v := arr x) 4 rfl TF.t24 (getV_all (by rw [size_arr, hx])))) rfl ?_
      refine wl_val (v_load rfl (st.reads (v := arr v) 3 rfl TF.t24 (getV_all (by rw [size_arr, hvl])))) rfl ?_
      refine wl_call rfl (c_tput' st.im hp hx hvl hD (by omega)) rfl ?_
      rintro v40 w ⟨t40, m4, hg4, hi4, q, rfl, hq⟩
      have st := st.grown hg4 t40 hi4
      have hp := hp.mono hg4.le
      have hq1 := hq1.mono hg4.le
      refine wl_val (v_assign' (by conv => (lhs; whnf))) rfl ?_
      refine wl_nil ?_
      refine then_go ?_
      refine wc_seq ?_
      refine wc_seq ?_
      refine wc_region ?_
      refine wl_val (v_move' (by conv => (lhs; whnf))) rfl ?_
      refine wl_val (v_eq_nil (p := some ⟨q, 0, none⟩) Try.underlying27 rfl rfl) rfl ?_
      refine wl_nil ?_
      refine then_go ?_
      refine wc_false rfl ?_
      refine wc_skip ?_
      refine then_go ?_
      refine wc_seq ?_
      refine wc_region ?_
      refine wl_val (v_move' (by conv => (lhs; whnf))) rfl ?_
      refine wl_val (v_load rfl (st.reads (v := arr x) 4 rfl TF.t24 (getV_all (by rw [size_arr, hx])))) rfl ?_
      refine wl_call rfl (c_tget' st.im hq hx hDU (by omega)) rfl ?_
      rintro v46 w ⟨t46, rfl⟩
      have st := st.pure t46
      rw [hgU]
      refine wl_val (v_move' (by conv => (lhs; whnf))) rfl ?_
      refine wl_val (v_extract rfl rfl) rfl ?_
      refine wl_val (v_extract rfl rfl) rfl ?_
      refine wl_alloc TF.z24 st rfl ?_
      intro b16 w st
      refine wl_storeW (cs := (bs v).toArray) 0 st rfl TF.t24 rfl rfl (by simp [length_bs, hvl]) rfl (fun u hu => one_bs _ u (by simpa using hu)) ?_
      intro w st
      refine wl_val (v_assign' (by conv => (lhs; whnf))) rfl ?_
      refine wl_nil ?_
      refine then_go ?_
      refine wc_seq ?_
      refine wc_seq ?_
      refine wc_draw TF.mixed ?_
      have st := st.pure (touch_drew _)
      refine fl_val 0 rfl (fun _ => (v_move' (by conv => (lhs; whnf)))) rfl (by kernel_rfl) ?_
      refine fl_val 1 rfl (fun _ => (v_not rfl)) rfl (by kernel_rfl) ?_
      refine fl_val 2 rfl (fun _ => (v_move' (by conv => (lhs; whnf)))) rfl (by kernel_rfl) ?_
      refine fl_ond 3 rfl rfl rfl rfl (v_load rfl (st.reads (v := arr v) 0 rfl TF.t24 (getV_all (by simp [length_bs, hvl])))) rfl (by kernel_rfl) ?_
      refine fl_ond 4 rfl rfl rfl rfl (v_load rfl (st.reads (v := arr v) 4 rfl TF.t24 (getV_all (by rw [size_arr, hvl])))) rfl (by kernel_rfl) ?_
      refine fl_on 5 rfl rfl rfl rfl (fun _ => (v_neDF rfl rfl hvl)) rfl (by kernel_rfl) ?_
      refine fl_val 6 rfl (fun _ => (v_pick rfl)) rfl (by kernel_rfl) ?_
      refine fl_val 7 rfl (fun _ => (v_move' (by conv => (lhs; whnf)))) rfl (by kernel_rfl) ?_
      refine fl_on 8 rfl rfl rfl rfl (fun _ => (v_move' (by conv => (lhs; whnf)))) rfl (by kernel_rfl) ?_
      refine fl_ond 10 rfl rfl rfl rfl (v_load rfl (st.reads (v := arr (treeOf L).root) 2 rfl TF.t24 (getV_all (by simp [length_bs, length_root])))) rfl (by kernel_rfl) ?_
      refine fl_eff1 9 [6, 5, 2, 1, 0] [10, 4, 3] (by kernel_rfl) ⟨obl_on rfl rfl rfl rfl rfl (v_load rfl (st.reads (v := arr (treeOf L).root) 2 rfl TF.t24 (getV_all (by simp [length_bs, length_root])))), obl_on rfl rfl rfl rfl rfl (v_load rfl (st.reads (v := arr v) 4 rfl TF.t24 (getV_all (by rw [size_arr, hvl])))), obl_on rfl rfl rfl rfl rfl (v_load rfl (st.reads (v := arr v) 0 rfl TF.t24 (getV_all (by simp [length_bs, hvl])))), trivial⟩ rfl ?_
      refine wl_on rfl rfl ?_
      refine wl_call rfl (c_troot st.im hp) rfl ?_
      rintro v31 w ⟨t31, rfl⟩
      have st := st.pure t31
      refine wl_nil ⟨rfl, ?_⟩
      refine fl_on 11 rfl rfl rfl rfl (fun _ => (v_neDF rfl rfl (length_root _))) rfl (by kernel_rfl) ?_
      refine fl_val 12 rfl (fun _ => (v_pick rfl)) rfl (by kernel_rfl) ?_
      refine fl_val 13 rfl (fun _ => (v_move' (by conv => (lhs; whnf)))) rfl (by kernel_rfl) ?_
      refine fl_on 14 rfl rfl rfl rfl (fun _ => (v_move' (by conv => (lhs; whnf)))) rfl (by kernel_rfl) ?_
      refine fl_on 16 rfl rfl rfl rfl (fun _ => (v_move' (by conv => (lhs; whnf)))) rfl (by kernel_rfl) ?_
      refine fl_eff1 15 [16, 12, 11, 6, 5, 2, 1, 0] [10, 4, 3] (by kernel_rfl) ⟨obl_on rfl rfl rfl rfl rfl (v_load rfl (st.reads (v := arr (treeOf L).root) 2 rfl TF.t24 (getV_all (by simp [length_bs, length_root])))), obl_on rfl rfl rfl rfl rfl (v_load rfl (st.reads (v := arr v) 4 rfl TF.t24 (getV_all (by rw [size_arr, hvl])))), obl_on rfl rfl rfl rfl rfl (v_load rfl (st.reads (v := arr v) 0 rfl TF.t24 (getV_all (by simp [length_bs, hvl])))), trivial⟩ rfl ?_
      refine wl_on rfl rfl ?_
      refine wl_call rfl (c_tlen st.im hp) rfl ?_
      rintro v33 w ⟨t33, rfl⟩
      have st := st.pure t33
      refine wl_nil ⟨rfl, ?_⟩
      refine fl_on 17 rfl rfl rfl rfl (fun _ => (v_neqF (a := ((treeOf L).n : Int)) (b := ((treeOf L).n : Int)) rfl rfl rfl)) rfl (by kernel_rfl) ?_
      refine fl_val 18 rfl (fun _ => (v_pick rfl)) rfl (by kernel_rfl) ?_
      refine fl_val 19 rfl (fun _ => (v_move' (by conv => (lhs; whnf)))) rfl (by kernel_rfl) ?_
      refine fl_on 20 rfl rfl rfl rfl (fun _ => (v_move' (by conv => (lhs; whnf)))) rfl (by kernel_rfl) ?_
      refine fl_ond 21 rfl rfl rfl rfl (v_load rfl (st.reads (v := arr y) 3 rfl TF.t24 (getV_all (by rw [size_arr, hy])))) rfl (by kernel_rfl) ?_
      refine fl_ond 23 rfl rfl rfl rfl (v_load rfl (st.reads (v := .agg (prC sv (prvL y L).E (prvL y L).I (prvL y L).V)) 1 rfl TF.t41 (getV_all (size_prC hqI hqV)))) rfl (by kernel_rfl) ?_
      refine fl_eff1 22 [18, 17, 16, 12, 11, 6, 5, 2, 1, 0] [23, 10, 4, 3] (by kernel_rfl) ⟨obl_on rfl rfl rfl rfl rfl (v_load rfl (st.reads (v := .agg (prC sv (prvL y L).E (prvL y L).I (prvL y L).V)) 1 rfl TF.t41 (getV_all (size_prC hqI hqV)))), obl_on rfl rfl rfl rfl rfl (v_load rfl (st.reads (v := arr y) 3 rfl TF.t24 (getV_all (by rw [size_arr, hy])))), obl_on rfl rfl rfl rfl rfl (v_load rfl (st.reads (v := arr (treeOf L).root) 2 rfl TF.t24 (getV_all (by simp [length_bs, length_root])))), obl_on rfl rfl rfl rfl rfl (v_load rfl (st.reads (v := arr v) 4 rfl TF.t24 (getV_all (by rw [size_arr, hvl])))), obl_on rfl rfl rfl rfl rfl (v_load rfl (st.reads (v := arr v) 0 rfl TF.t24 (getV_all (by simp [length_bs, hvl])))), trivial⟩ rfl ?_
      refine wl_on rfl rfl ?_
      refine wl_call rfl (c_tprove' st.im hp hy hD (by omega)) rfl ?_
      rintro v36 w ⟨t36, m5, hg5, hi5, hq2⟩
      have st := st.grown hg5 t36 hi5
      have hp := hp.mono hg5.le
      have hq := hq.mono hg5.le
      have hq1 := hq1.mono hg5.le
      refine wl_nil ⟨rfl, ?_⟩
      refine fl_eff1 24 [18, 17, 16, 12, 11, 6, 5, 2, 1, 0] [10, 4, 3] (by kernel_rfl) ⟨obl_on rfl rfl rfl rfl rfl (v_load rfl (st.reads (v := .agg (prC sv (prvL y L).E (prvL y L).I (prvL y L).V)) 1 rfl TF.t41 (getV_all (size_prC hqI hqV)))), obl_on rfl rfl rfl rfl rfl (v_load rfl (st.reads (v := arr (treeOf L).root) 2 rfl TF.t24 (getV_all (by simp [length_bs, length_root])))), obl_on rfl rfl rfl rfl rfl (v_load rfl (st.reads (v := arr v) 4 rfl TF.t24 (getV_all (by rw [size_arr, hvl])))), obl_on rfl rfl rfl rfl rfl (v_load rfl (st.reads (v := arr v) 0 rfl TF.t24 (getV_all (by simp [length_bs, hvl])))), trivial⟩ rfl ?_
      refine wl_on rfl rfl ?_
      refine wl_call rfl (c_sameproof st.im hq2 hq1 (Nat.le_trans (length_prvS _ 256 0 L) (by omega))) rfl ?_
      rintro v29 w ⟨t29, rfl⟩
      have st := st.pure t29
      refine wl_nil ⟨rfl, ?_⟩
      refine fl_on 25 rfl rfl rfl rfl (fun _ => (v_not rfl)) rfl (by kernel_rfl) ?_
      refine fl_val 26 rfl (fun _ => (v_pick rfl)) rfl (by kernel_rfl) ?_
      refine fl_nil (by kernel_rfl) ⟨obl_on rfl rfl rfl rfl rfl (v_load rfl (st.reads (v := arr (treeOf L).root) 2 rfl TF.t24 (getV_all (by simp [length_bs, length_root])))), obl_on rfl rfl rfl rfl rfl (v_load rfl (st.reads (v := arr v) 4 rfl TF.t24 (getV_all (by rw [size_arr, hvl])))), obl_on rfl rfl rfl rfl rfl (v_load rfl (st.reads (v := arr v) 0 rfl TF.t24 (getV_all (by simp [length_bs, hvl])))), trivial⟩ ?_
      refine then_go ?_
      refine wc_false rfl ?_
      refine wc_skip ?_
      refine then_go ?_
      refine wc_seq ?_
      refine wc_region ?_
      refine wl_val (v_move' (by conv => (lhs; whnf))) rfl ?_
      refine wl_val (v_load rfl (st.reads (v := arr x) 5 rfl TF.t24 (getV_all (by rw [size_arr, hx])))) rfl ?_
      refine wl_call rfl (c_tget' st.im hp hx hD (by omega)) rfl ?_
      rintro v79 w ⟨t79, rfl⟩
      have st := st.pure t79
      have hol := getG_len hdp (x := x)
      generalize hgo : getG x L = o at hol
      refine wl_val (v_move' (by conv => (lhs; whnf))) rfl ?_
      refine wl_val (v_extract rfl rfl) rfl ?_
      refine wl_val (v_extract rfl rfl) rfl ?_
      refine wl_alloc TF.z24 st rfl ?_
      intro b18 w st
      refine wl_storeW (cs := (bs (valO o)).toArray) 0 st rfl TF.t24 rfl rfl (by simp [length_bs, hol]) rfl (fun u hu => one_bs _ u (by simpa using hu)) ?_
      intro w st
      refine wl_val (v_assign' (by conv => (lhs; whnf))) rfl ?_
      refine wl_nil ?_
      refine then_go ?_
      refine wc_seq ?_
      refine wc_region ?_
      refine wl_val (v_move' (by conv => (lhs; whnf))) rfl ?_
      refine wl_val (v_load rfl (st.reads (v := arr x) 6 rfl TF.t24 (getV_all (by rw [size_arr, hx])))) rfl ?_
      refine wl_val (v_load rfl (st.reads (v := arr (valO o)) 0 rfl TF.t24 (getV_all (by simp [length_bs, hol])))) rfl ?_
      refine wl_call rfl (c_tput' st.im hq hx hol hDU (by omega)) rfl ?_
      rintro v85 w ⟨t85, m6, hg6, hi6, q2, rfl, hq3⟩
      have st := st.grown hg6 t85 hi6
      refine wl_val (v_assign' (by conv => (lhs; whnf))) rfl ?_
      refine wl_nil ?_
      refine then_go ?_
      refine wc_seq ?_
      rcases o with _ | old
      · skip
        refine wc_draw TF.mixed ?_
        have st := st.pure (touch_drew _)
        refine fl_val 0 rfl (fun _ => (v_move' (by conv => (lhs; whnf)))) rfl (by kernel_rfl) ?_
        refine fl_val 1 rfl (fun _ => (v_not rfl)) rfl (by kernel_rfl) ?_
        refine fl_val 2 rfl (fun _ => (v_move' (by conv => (lhs; whnf)))) rfl (by kernel_rfl) ?_
        refine fl_off 3 rfl rfl rfl rfl rfl rfl (by kernel_rfl) ?_
        refine fl_off 4 rfl rfl rfl rfl rfl rfl (by kernel_rfl) ?_
        refine fl_off 5 rfl rfl rfl rfl rfl rfl (by kernel_rfl) ?_
        refine fl_u 6 rfl rfl rfl rfl rfl (by kernel_rfl) ?_
        refine fl_ud 8 rfl rfl rfl rfl rfl (by kernel_rfl) ?_
        refine fl_eff1 7 [4, 3, 2, 1, 0] [8] (by kernel_rfl) ⟨obl_u rfl rfl rfl rfl rfl, trivial⟩ rfl ?_
        refine offU rfl rfl rfl ?_
        refine wl_nil ⟨rfl, ?_⟩
        refine fl_u 9 rfl rfl rfl rfl rfl (by kernel_rfl) ?_
        refine fl_off 10 rfl rfl rfl rfl rfl rfl (by kernel_rfl) ?_
        refine fl_val 11 rfl (fun _ => (v_pick rfl)) rfl (by kernel_rfl) ?_
        refine fl_val 12 rfl (fun _ => (v_move' (by conv => (lhs; whnf)))) rfl (by kernel_rfl) ?_
        refine fl_eff1 13 [11, 10, 9, 4, 3, 2, 1, 0] [8] (by kernel_rfl) ⟨obl_u rfl rfl rfl rfl rfl, trivial⟩ rfl ?_
        refine wl_on rfl rfl ?_
        refine wl_call rfl (c_works st.im) rfl ?_
        rintro v18 w ⟨t18, rfl⟩
        have st := st.pure t18
        refine wl_nil ⟨rfl, ?_⟩
        refine fl_val 14 rfl (fun _ => (v_pick rfl)) rfl (by kernel_rfl) ?_
        refine fl_eff1 15 [] [] (by kernel_rfl) ⟨obl_u rfl rfl rfl rfl rfl, trivial⟩ rfl ?_
        refine wl_val (v_assign' (by conv => (lhs; whnf))) rfl ?_
        refine wl_nil ⟨rfl, ?_⟩
        refine fl_nil (by kernel_rfl) trivial ?_
        refine then_go ?_
        refine wc_ret ?_
        exact ret1 rfl ⟨(st.keepOnly (l := []) (List.nil_sublist _)).touch, rfl⟩
      · skip
        refine wc_draw TF.mixed ?_
        have st := st.pure (touch_drew _)
        refine fl_val 0 rfl (fun _ => (v_move' (by conv => (lhs; whnf)))) rfl (by kernel_rfl) ?_
        refine fl_val 1 rfl (fun _ => (v_not rfl)) rfl (by kernel_rfl) ?_
        refine fl_val 2 rfl (fun _ => (v_move' (by conv => (lhs; whnf)))) rfl (by kernel_rfl) ?_
        refine fl_on 3 rfl rfl rfl rfl (fun _ => (v_move' (by conv => (lhs; whnf)))) rfl (by kernel_rfl) ?_
        refine fl_on 4 rfl rfl rfl rfl (fun _ => (v_ne_nil (p := some ⟨q2, 0, none⟩) Try.underlying27 rfl rfl)) rfl (by kernel_rfl) ?_
        refine fl_on 5 rfl rfl rfl rfl (fun _ => (v_move' (by conv => (lhs; whnf)))) rfl (by kernel_rfl) ?_
        refine fl_on 6 rfl rfl rfl rfl (fun _ => (v_move' (by conv => (lhs; whnf)))) rfl (by kernel_rfl) ?_
        refine fl_ond 8 rfl rfl rfl rfl (v_load rfl (st.reads (v := arr (treeOf L).root) 3 rfl TF.t24 (getV_all (by simp [length_bs, length_root])))) rfl (by kernel_rfl) ?_
        refine fl_eff1 7 [4, 3, 2, 1, 0] [8] (by kernel_rfl) ⟨obl_on rfl rfl rfl rfl rfl (v_load rfl (st.reads (v := arr (treeOf L).root) 3 rfl TF.t24 (getV_all (by simp [length_bs, length_root])))), trivial⟩ rfl ?_
        refine wl_on rfl rfl ?_
        refine wl_call rfl (c_troot st.im hq3) rfl ?_
        rintro v93 w ⟨t93, rfl⟩
        have st := st.pure t93
        rw [show valO (some old) = old from rfl, back_put hD hgo]
        refine wl_nil ⟨rfl, ?_⟩
        refine fl_on 9 rfl rfl rfl rfl (fun _ => (v_eqDT rfl rfl (length_root _))) rfl (by kernel_rfl) ?_
        refine fl_on 10 rfl rfl rfl rfl (fun _ => (v_pick rfl)) rfl (by kernel_rfl) ?_
        refine fl_val 11 rfl (fun _ => (v_pick rfl)) rfl (by kernel_rfl) ?_
        refine fl_val 12 rfl (fun _ => (v_move' (by conv => (lhs; whnf)))) rfl (by kernel_rfl) ?_
        refine fl_eff1 13 [11, 10, 9, 4, 3, 2, 1, 0] [8] (by kernel_rfl) ⟨obl_on rfl rfl rfl rfl rfl (v_load rfl (st.reads (v := arr (treeOf L).root) 3 rfl TF.t24 (getV_all (by simp [length_bs, length_root])))), trivial⟩ rfl ?_
        refine wl_on rfl rfl ?_
        refine wl_call rfl (c_works st.im) rfl ?_
        rintro v18 w ⟨t18, rfl⟩
        have st := st.pure t18
        refine wl_nil ⟨rfl, ?_⟩
        refine fl_val 14 rfl (fun _ => (v_pick rfl)) rfl (by kernel_rfl) ?_
        refine fl_eff1 15 [] [] (by kernel_rfl) ⟨obl_on rfl rfl rfl rfl rfl (v_load rfl (st.reads (v := arr (treeOf L).root) 3 rfl TF.t24 (getV_all (by simp [length_bs, length_root])))), trivial⟩ rfl ?_
        refine wl_val (v_assign' (by conv => (lhs; whnf))) rfl ?_
        refine wl_nil ⟨rfl, ?_⟩
        refine fl_nil (by kernel_rfl) trivial ?_
        refine then_go ?_
        refine wc_ret ?_
        exact ret1 rfl ⟨(st.keepOnly (l := []) (List.nil_sublist _)).touch, rfl⟩
    refine fl_val 0 rfl (fun _ => (v_move' (by conv => (lhs; whnf)))) rfl (by kernel_rfl) ?_
    refine fl_val 2 rfl (fun _ => (v_move' (by conv => (lhs; whnf)))) rfl (by kernel_rfl) ?_
    refine fl_val 4 rfl (fun _ => (v_move' (by conv => (lhs; whnf)))) rfl (by kernel_rfl) ?_
    refine fl_ld 5 rfl (v_load rfl (by first | exact st.reads (v := arr y) 0 rfl TF.t24 (getV_all (by rw [size_arr, hy])) | exact st.reads (v := arr y) 1 rfl TF.t24 (getV_all (by rw [size_arr, hy])) | exact st.reads (v := arr y) 2 rfl TF.t24 (getV_all (by rw [size_arr, hy])))) (by kernel_rfl) ?_
    refine fl_effs [1, 7, 8] (by kernel_rfl) ⟨obl_ld rfl rfl rfl (v_load rfl (by first | exact st.reads (v := arr y) 0 rfl TF.t24 (getV_all (by rw [size_arr, hy])) | exact st.reads (v := arr y) 1 rfl TF.t24 (getV_all (by rw [size_arr, hy])) | exact st.reads (v := arr y) 2 rfl TF.t24 (getV_all (by rw [size_arr, hy])))), trivial⟩ (all3 ?_ ?_ ?_)
    · refine stepE 1 (pure' := [4, 2]) (lds' := [5]) rfl (by kernel_rfl) (by kernel_rfl) ?_
      refine wl_call rfl (c_troot st.im hp) rfl ?_
      rintro v31 w ⟨t31, rfl⟩
      have st := st.pure t31
      refine wl_nil ⟨rfl, ?_⟩
      refine fl_effs [3, 7, 8] (by kernel_rfl) ⟨obl_ld rfl rfl rfl (v_load rfl (by first | exact st.reads (v := arr y) 0 rfl TF.t24 (getV_all (by rw [size_arr, hy])) | exact st.reads (v := arr y) 1 rfl TF.t24 (getV_all (by rw [size_arr, hy])) | exact st.reads (v := arr y) 2 rfl TF.t24 (getV_all (by rw [size_arr, hy])))), trivial⟩ (all3 ?_ ?_ ?_)
      · refine stepE 3 (pure' := [4]) (lds' := [5]) rfl (by kernel_rfl) (by kernel_rfl) ?_
        refine wl_call rfl (c_tlen st.im hp) rfl ?_
        rintro v33 w ⟨t33, rfl⟩
        have st := st.pure t33
        refine wl_nil ⟨rfl, ?_⟩
        refine fl_effs [6, 7, 8] (by kernel_rfl) ⟨obl_ld rfl rfl rfl (v_load rfl (by first | exact st.reads (v := arr y) 0 rfl TF.t24 (getV_all (by rw [size_arr, hy])) | exact st.reads (v := arr y) 1 rfl TF.t24 (getV_all (by rw [size_arr, hy])) | exact st.reads (v := arr y) 2 rfl TF.t24 (getV_all (by rw [size_arr, hy])))), trivial⟩ (all3 ?_ ?_ ?_)
        · refine stepE 6 (pure' := []) (lds' := []) rfl (by kernel_rfl) (by kernel_rfl) ?_
          refine wl_call rfl (c_tprove' st.im hp hy hD (by omega)) rfl ?_
          rintro v36 w ⟨t36, m3, hg3, hi3, hq1⟩
          have st := st.grown hg3 t36 hi3
          have hp := hp.mono hg3.le
          refine wl_nil ⟨rfl, ?_⟩
          refine fl_effs [7, 8] (by kernel_rfl) trivial (all2 ?_ ?_)
          · refine stepE 7 (pure' := []) (lds' := []) rfl (by kernel_rfl) (by kernel_rfl) ?_
            refine wl_alloc TF.z24 st rfl ?_
            intro b12 w st
            refine wl_nil ⟨rfl, ?_⟩
            refine fl_eff1 8 [] [] (by kernel_rfl) trivial rfl ?_
            refine wl_alloc TF.z41 st rfl ?_
            intro b14 w st
            refine wl_nil ⟨rfl, ?_⟩
            refine FL.permB [8, 7, 6, 3, 1, 5, 4, 2, 0] [] [] (by kernel_rfl) ?_
            first
              | exact fin _ _ _ _ _ _ rfl rfl rfl rfl rfl rfl rfl rfl rfl hp hq1 st
              | exact fin _ _ _ _ _ _ rfl rfl rfl rfl rfl rfl rfl rfl rfl hp hq1 (st.perm (List.Perm.swap _ _ _))
          · refine stepE 8 (pure' := []) (lds' := []) rfl (by kernel_rfl) (by kernel_rfl) ?_
            refine wl_alloc TF.z41 st rfl ?_
            intro b14 w st
            refine wl_nil ⟨rfl, ?_⟩
            refine fl_eff1 7 [] [] (by kernel_rfl) trivial rfl ?_
            refine wl_alloc TF.z24 st rfl ?_
            intro b12 w st
            refine wl_nil ⟨rfl, ?_⟩
            refine FL.permB [8, 7, 6, 3, 1, 5, 4, 2, 0] [] [] (by kernel_rfl) ?_
            first
              | exact fin _ _ _ _ _ _ rfl rfl rfl rfl rfl rfl rfl rfl rfl hp hq1 st
              | exact fin _ _ _ _ _ _ rfl rfl rfl rfl rfl rfl rfl rfl rfl hp hq1 (st.perm (List.Perm.swap _ _ _))
        · refine stepE 7 (pure' := [4]) (lds' := [5]) rfl (by kernel_rfl) (by kernel_rfl) ?_
          refine wl_alloc TF.z24 st rfl ?_
          intro b12 w st
          refine wl_nil ⟨rfl, ?_⟩
          refine fl_effs [6, 8] (by kernel_rfl) ⟨obl_ld rfl rfl rfl (v_load rfl (by first | exact st.reads (v := arr y) 0 rfl TF.t24 (getV_all (by rw [size_arr, hy])) | exact st.reads (v := arr y) 1 rfl TF.t24 (getV_all (by rw [size_arr, hy])) | exact st.reads (v := arr y) 2 rfl TF.t24 (getV_all (by rw [size_arr, hy])))), trivial⟩ (all2 ?_ ?_)
          · refine stepE 6 (pure' := []) (lds' := []) rfl (by kernel_rfl) (by kernel_rfl) ?_
            refine wl_call rfl (c_tprove' st.im hp hy hD (by omega)) rfl ?_
            rintro v36 w ⟨t36, m3, hg3, hi3, hq1⟩
            have st := st.grown hg3 t36 hi3
            have hp := hp.mono hg3.le
            refine wl_nil ⟨rfl, ?_⟩
            refine fl_eff1 8 [] [] (by kernel_rfl) trivial rfl ?_
            refine wl_alloc TF.z41 st rfl ?_
            intro b14 w st
            refine wl_nil ⟨rfl, ?_⟩
            refine FL.permB [8, 7, 6, 3, 1, 5, 4, 2, 0] [] [] (by kernel_rfl) ?_
            first
              | exact fin _ _ _ _ _ _ rfl rfl rfl rfl rfl rfl rfl rfl rfl hp hq1 st
              | exact fin _ _ _ _ _ _ rfl rfl rfl rfl rfl rfl rfl rfl rfl hp hq1 (st.perm (List.Perm.swap _ _ _))
          · refine stepE 8 (pure' := [4]) (lds' := [5]) rfl (by kernel_rfl) (by kernel_rfl) ?_
            refine wl_alloc TF.z41 st rfl ?_
            intro b14 w st
            refine wl_nil ⟨rfl, ?_⟩
            refine fl_eff1 6 [] [] (by kernel_rfl) ⟨obl_ld rfl rfl rfl (v_load rfl (by first | exact st.reads (v := arr y) 0 rfl TF.t24 (getV_all (by rw [size_arr, hy])) | exact st.reads (v := arr y) 1 rfl TF.t24 (getV_all (by rw [size_arr, hy])) | exact st.reads (v := arr y) 2 rfl TF.t24 (getV_all (by rw [size_arr, hy])))), trivial⟩ rfl ?_
            refine wl_call rfl (c_tprove' st.im hp hy hD (by omega)) rfl ?_
            rintro v36 w ⟨t36, m3, hg3, hi3, hq1⟩
            have st := st.grown hg3 t36 hi3
            have hp := hp.mono hg3.le
            refine wl_nil ⟨rfl, ?_⟩
            refine FL.permB [8, 7, 6, 3, 1, 5, 4, 2, 0] [] [] (by kernel_rfl) ?_
            first
              | exact fin _ _ _ _ _ _ rfl rfl rfl rfl rfl rfl rfl rfl rfl hp hq1 st
              | exact fin _ _ _ _ _ _ rfl rfl rfl rfl rfl rfl rfl rfl rfl hp hq1 (st.perm (List.Perm.swap _ _ _))
        · refine stepE 8 (pure' := [4]) (lds' := [5]) rfl (by kernel_rfl) (by kernel_rfl) ?_
          refine wl_alloc TF.z41 st rfl ?_
          intro b14 w st
          refine wl_nil ⟨rfl, ?_⟩
          refine fl_effs [6, 7] (by kernel_rfl) ⟨obl_ld rfl rfl rfl (v_load rfl (by first | exact st.reads (v := arr y) 0 rfl TF.t24 (getV_all (by rw [size_arr, hy])) | exact st.reads (v := arr y) 1 rfl TF.t24 (getV_all (by rw [size_arr, hy])) | exact st.reads (v := arr y) 2 rfl TF.t24 (getV_all (by rw [size_arr, hy])))), trivial⟩ (all2 ?_ ?_)
          · refine stepE 6 (pure' := []) (lds' := []) rfl (by kernel_rfl) (by kernel_rfl) ?_
            refine wl_call rfl (c_tprove' st.im hp hy hD (by omega)) rfl ?_
            rintro v36 w ⟨t36, m3, hg3, hi3, hq1⟩
            have st := st.grown hg3 t36 hi3
            have hp := hp.mono hg3.le
            refine wl_nil ⟨rfl, ?_⟩
            refine fl_eff1 7 [] [] (by kernel_rfl) trivial rfl ?_
            refine wl_alloc TF.z24 st rfl ?_
            intro b12 w st
            refine wl_nil ⟨rfl, ?_⟩
            refine FL.permB [8, 7, 6, 3, 1, 5, 4, 2, 0] [] [] (by kernel_rfl) ?_
            first
              | exact fin _ _ _ _ _ _ rfl rfl rfl rfl rfl rfl rfl rfl rfl hp hq1 st
              | exact fin _ _ _ _ _ _ rfl rfl rfl rfl rfl rfl rfl rfl rfl hp hq1 (st.perm (List.Perm.swap _ _ _))
          · refine stepE 7 (pure' := [4]) (lds' := [5]) rfl (by kernel_rfl) (by kernel_rfl) ?_
            refine wl_alloc TF.z24 st rfl ?_
            intro b12 w st
            refine wl_nil ⟨rfl, ?_⟩
            refine fl_eff1 6 [] [] (by kernel_rfl) ⟨obl_ld rfl rfl rfl (v_load rfl (by first | exact st.reads (v := arr y) 0 rfl TF.t24 (getV_all (by rw [size_arr, hy])) | exact st.reads (v := arr y) 1 rfl TF.t24 (getV_all (by rw [size_arr, hy])) | exact st.reads (v := arr y) 2 rfl TF.t24 (getV_all (by rw [size_arr, hy])))), trivial⟩ rfl ?_
            refine wl_call rfl (c_tprove' st.im hp hy hD (by omega)) rfl ?_
            rintro v36 w ⟨t36, m3, hg3, hi3, hq1⟩
            have st := st.grown hg3 t36 hi3
            have hp := hp.mono hg3.le
            refine wl_nil ⟨rfl, ?_⟩
            refine FL.permB [8, 7, 6, 3, 1, 5, 4, 2, 0] [] [] (by kernel_rfl) ?_
            first
              | exact fin _ _ _ _ _ _ rfl rfl rfl rfl rfl rfl rfl rfl rfl hp hq1 st
              | exact fin _ _ _ _ _ _ rfl rfl rfl rfl rfl rfl rfl rfl rfl hp hq1 (st.perm (List.Perm.swap _ _ _))
      · refine stepE 7 (pure' := [4, 2]) (lds' := [5]) rfl (by kernel_rfl) (by kernel_rfl) ?_
        refine wl_alloc TF.z24 st rfl ?_
        intro b12 w st
        refine wl_nil ⟨rfl, ?_⟩
        refine fl_effs [3, 8] (by kernel_rfl) ⟨obl_ld rfl rfl rfl (v_load rfl (by first | exact st.reads (v := arr y) 0 rfl TF.t24 (getV_all (by rw [size_arr, hy])) | exact st.reads (v := arr y) 1 rfl TF.t24 (getV_all (by rw [size_arr, hy])) | exact st.reads (v := arr y) 2 rfl TF.t24 (getV_all (by rw [size_arr, hy])))), trivial⟩ (all2 ?_ ?_)
        · refine stepE 3 (pure' := [4]) (lds' := [5]) rfl (by kernel_rfl) (by kernel_rfl) ?_
          refine wl_call rfl (c_tlen st.im hp) rfl ?_
          rintro v33 w ⟨t33, rfl⟩
          have st := st.pure t33
          refine wl_nil ⟨rfl, ?_⟩
          refine fl_effs [6, 8] (by kernel_rfl) ⟨obl_ld rfl rfl rfl (v_load rfl (by first | exact st.reads (v := arr y) 0 rfl TF.t24 (getV_all (by rw [size_arr, hy])) | exact st.reads (v := arr y) 1 rfl TF.t24 (getV_all (by rw [size_arr, hy])) | exact st.reads (v := arr y) 2 rfl TF.t24 (getV_all (by rw [size_arr, hy])))), trivial⟩ (all2 ?_ ?_)
          · refine stepE 6 (pure' := []) (lds' := []) rfl (by kernel_rfl) (by kernel_rfl) ?_
            refine wl_call rfl (c_tprove' st.im hp hy hD (by omega)) rfl ?_
            rintro v36 w ⟨t36, m3, hg3, hi3, hq1⟩
            have st := st.grown hg3 t36 hi3
            have hp := hp.mono hg3.le
            refine wl_nil ⟨rfl, ?_⟩
            refine fl_eff1 8 [] [] (by kernel_rfl) trivial rfl ?_
            refine wl_alloc TF.z41 st rfl ?_
            intro b14 w st
            refine wl_nil ⟨rfl, ?_⟩
            refine FL.permB [8, 7, 6, 3, 1, 5, 4, 2, 0] [] [] (by kernel_rfl) ?_
            first
              | exact fin _ _ _ _ _ _ rfl rfl rfl rfl rfl rfl rfl rfl rfl hp hq1 st
              | exact fin _ _ _ _ _ _ rfl rfl rfl rfl rfl rfl rfl rfl rfl hp hq1 (st.perm (List.Perm.swap _ _ _))
          · refine stepE 8 (pure' := [4]) (lds' := [5]) rfl (by kernel_rfl) (by kernel_rfl) ?_
            refine wl_alloc TF.z41 st rfl ?_
            intro b14 w st
            refine wl_nil ⟨rfl, ?_⟩
            refine fl_eff1 6 [] [] (by kernel_rfl) ⟨obl_ld rfl rfl rfl (v_load rfl (by first | exact st.reads (v := arr y) 0 rfl TF.t24 (getV_all (by rw [size_arr, hy])) | exact st.reads (v := arr y) 1 rfl TF.t24 (getV_all (by rw [size_arr, hy])) | exact st.reads (v := arr y) 2 rfl TF.t24 (getV_all (by rw [size_arr, hy])))), trivial⟩ rfl ?_
            refine wl_call rfl (c_tprove' st.im hp hy hD (by omega)) rfl ?_
            rintro v36 w ⟨t36, m3, hg3, hi3, hq1⟩
            have st := st.grown hg3 t36 hi3
            have hp := hp.mono hg3.le
            refine wl_nil ⟨rfl, ?_⟩
            refine FL.permB [8, 7, 6, 3, 1, 5, 4, 2, 0] [] [] (by kernel_rfl) ?_
            first
              | exact fin _ _ _ _ _ _ rfl rfl rfl rfl rfl rfl rfl rfl rfl hp hq1 st
              | exact fin _ _ _ _ _ _ rfl rfl rfl rfl rfl rfl rfl rfl rfl hp hq1 (st.perm (List.Perm.swap _ _ _))
        · refine stepE 8 (pure' := [4, 2]) (lds' := [5]) rfl (by kernel_rfl) (by kernel_rfl) ?_
          refine wl_alloc TF.z41 st rfl ?_
          intro b14 w st
          refine wl_nil ⟨rfl, ?_⟩
          refine fl_eff1 3 [4] [5] (by kernel_rfl) ⟨obl_ld rfl rfl rfl (v_load rfl (by first | exact st.reads (v := arr y) 0 rfl TF.t24 (getV_all (by rw [size_arr, hy])) | exact st.reads (v := arr y) 1 rfl TF.t24 (getV_all (by rw [size_arr, hy])) | exact st.reads (v := arr y) 2 rfl TF.t24 (getV_all (by rw [size_arr, hy])))), trivial⟩ rfl ?_
          refine wl_call rfl (c_tlen st.im hp) rfl ?_
          rintro v33 w ⟨t33, rfl⟩
          have st := st.pure t33
          refine wl_nil ⟨rfl, ?_⟩
          refine fl_eff1 6 [] [] (by kernel_rfl) ⟨obl_ld rfl rfl rfl (v_load rfl (by first | exact st.reads (v := arr y) 0 rfl TF.t24 (getV_all (by rw [size_arr, hy])) | exact st.reads (v := arr y) 1 rfl TF.t24 (getV_all (by rw [size_arr, hy])) | exact st.reads (v := arr y) 2 rfl TF.t24 (getV_all (by rw [size_arr, hy])))), trivial⟩ rfl ?_
          refine wl_call rfl (c_tprove' st.im hp hy hD (by omega)) rfl ?_
          rintro v36 w ⟨t36, m3, hg3, hi3, hq1⟩
          have st := st.grown hg3 t36 hi3
          have hp := hp.mono hg3.le
          refine wl_nil ⟨rfl, ?_⟩
          refine FL.permB [8, 7, 6, 3, 1, 5, 4, 2, 0] [] [] (by kernel_rfl) ?_
          first
            | exact fin _ _ _ _ _ _ rfl rfl rfl rfl rfl rfl rfl rfl rfl hp hq1 st
            | exact fin _ _ _ _ _ _ rfl rfl rfl rfl rfl rfl rfl rfl rfl hp hq1 (st.perm (List.Perm.swap _ _ _))
      · refine stepE 8 (pure' := [4, 2]) (lds' := [5]) rfl (by kernel_rfl) (by kernel_rfl) ?_
        refine wl_alloc TF.z41 st rfl ?_
        intro b14 w st
        refine wl_nil ⟨rfl, ?_⟩
        refine fl_effs [3, 7] (by kernel_rfl) ⟨obl_ld rfl rfl rfl (v_load rfl (by first | exact st.reads (v := arr y) 0 rfl TF.t24 (getV_all (by rw [size_arr, hy])) | exact st.reads (v := arr y) 1 rfl TF.t24 (getV_all (by rw [size_arr, hy])) | exact st.reads (v := arr y) 2 rfl TF.t24 (getV_all (by rw [size_arr, hy])))), trivial⟩ (all2 ?_ ?_)
        · refine stepE 3 (pure' := [4]) (lds' := [5]) rfl (by kernel_rfl) (by kernel_rfl) ?_
          refine wl_call rfl (c_tlen st.im hp) rfl ?_
          rintro v33 w ⟨t33, rfl⟩
          have st := st.pure t33
          refine wl_nil ⟨rfl, ?_⟩
          refine fl_effs [6, 7] (by kernel_rfl) ⟨obl_ld rfl rfl rfl (v_load rfl (by first | exact st.reads (v := arr y) 0 rfl TF.t24 (getV_all (by rw [size_arr, hy])) | exact st.reads (v := arr y) 1 rfl TF.t24 (getV_all (by rw [size_arr, hy])) | exact st.reads (v := arr y) 2 rfl TF.t24 (getV_all (by rw [size_arr, hy])))), trivial⟩ (all2 ?_ ?_)
          · refine stepE 6 (pure' := []) (lds' := []) rfl (by kernel_rfl) (by kernel_rfl) ?_
            refine wl_call rfl (c_tprove' st.im hp hy hD (by omega)) rfl ?_
            rintro v36 w ⟨t36, m3, hg3, hi3, hq1⟩
            have st := st.grown hg3 t36 hi3
            have hp := hp.mono hg3.le
            refine wl_nil ⟨rfl, ?_⟩
            refine fl_eff1 7 [] [] (by kernel_rfl) trivial rfl ?_
            refine wl_alloc TF.z24 st rfl ?_
            intro b12 w st
            refine wl_nil ⟨rfl, ?_⟩
            refine FL.permB [8, 7, 6, 3, 1, 5, 4, 2, 0] [] [] (by kernel_rfl) ?_
            first
              | exact fin _ _ _ _ _ _ rfl rfl rfl rfl rfl rfl rfl rfl rfl hp hq1 st
              | exact fin _ _ _ _ _ _ rfl rfl rfl rfl rfl rfl rfl rfl rfl hp hq1 (st.perm (List.Perm.swap _ _ _))
          · refine stepE 7 (pure' := [4]) (lds' := [5]) rfl (by kernel_rfl) (by kernel_rfl) ?_
            refine wl_alloc TF.z24 st rfl ?_
            intro b12 w st
            refine wl_nil ⟨rfl, ?_⟩
            refine fl_eff1 6 [] [] (by kernel_rfl) ⟨obl_ld rfl rfl rfl (v_load rfl (by first | exact st.reads (v := arr y) 0 rfl TF.t24 (getV_all (by rw [size_arr, hy])) | exact st.reads (v := arr y) 1 rfl TF.t24 (getV_all (by rw [size_arr, hy])) | exact st.reads (v := arr y) 2 rfl TF.t24 (getV_all (by rw [size_arr, hy])))), trivial⟩ rfl ?_
            refine wl_call rfl (c_tprove' st.im hp hy hD (by omega)) rfl ?_
            rintro v36 w ⟨t36, m3, hg3, hi3, hq1⟩
            have st := st.grown hg3 t36 hi3
            have hp := hp.mono hg3.le
            refine wl_nil ⟨rfl, ?_⟩
            refine FL.permB [8, 7, 6, 3, 1, 5, 4, 2, 0] [] [] (by kernel_rfl) ?_
            first
              | exact fin _ _ _ _ _ _ rfl rfl rfl rfl rfl rfl rfl rfl rfl hp hq1 st
              | exact fin _ _ _ _ _ _ rfl rfl rfl rfl rfl rfl rfl rfl rfl hp hq1 (st.perm (List.Perm.swap _ _ _))
        · refine stepE 7 (pure' := [4, 2]) (lds' := [5]) rfl (by kernel_rfl) (by kernel_rfl) ?_
          refine wl_alloc TF.z24 st rfl ?_
          intro b12 w st
          refine wl_nil ⟨rfl, ?_⟩
          refine fl_eff1 3 [4] [5] (by kernel_rfl) ⟨obl_ld rfl rfl rfl (v_load rfl (by first | exact st.reads (v := arr y) 0 rfl TF.t24 (getV_all (by rw [size_arr, hy])) | exact st.reads (v := arr y) 1 rfl TF.t24 (getV_all (by rw [size_arr, hy])) | exact st.reads (v := arr y) 2 rfl TF.t24 (getV_all (by rw [size_arr, hy])))), trivial⟩ rfl ?_
          refine wl_call rfl (c_tlen st.im hp) rfl ?_
          rintro v33 w ⟨t33, rfl⟩
          have st := st.pure t33
          refine wl_nil ⟨rfl, ?_⟩
          refine fl_eff1 6 [] [] (by kernel_rfl) ⟨obl_ld rfl rfl rfl (v_load rfl (by first | exact st.reads (v := arr y) 0 rfl TF.t24 (getV_all (by rw [size_arr, hy])) | exact st.reads (v := arr y) 1 rfl TF.t24 (getV_all (by rw [size_arr, hy])) | exact st.reads (v := arr y) 2 rfl TF.t24 (getV_all (by rw [size_arr, hy])))), trivial⟩ rfl ?_
          refine wl_call rfl (c_tprove' st.im hp hy hD (by omega)) rfl ?_
          rintro v36 w ⟨t36, m3, hg3, hi3, hq1⟩
          have st := st.grown hg3 t36 hi3
          have hp := hp.mono hg3.le
          refine wl_nil ⟨rfl, ?_⟩
          refine FL.permB [8, 7, 6, 3, 1, 5, 4, 2, 0] [] [] (by kernel_rfl) ?_
          first
            | exact fin _ _ _ _ _ _ rfl rfl rfl rfl rfl rfl rfl rfl rfl hp hq1 st
            | exact fin _ _ _ _ _ _ rfl rfl rfl rfl rfl rfl rfl rfl rfl hp hq1 (st.perm (List.Perm.swap _ _ _))
    · refine stepE 7 (pure' := [4, 2, 0]) (lds' := [5]) rfl (by kernel_rfl) (by kernel_rfl) ?_
      refine wl_alloc TF.z24 st rfl ?_
      intro b12 w st
      refine wl_nil ⟨rfl, ?_⟩
      refine fl_effs [1, 8] (by kernel_rfl) ⟨obl_ld rfl rfl rfl (v_load rfl (by first | exact st.reads (v := arr y) 0 rfl TF.t24 (getV_all (by rw [size_arr, hy])) | exact st.reads (v := arr y) 1 rfl TF.t24 (getV_all (by rw [size_arr, hy])) | exact st.reads (v := arr y) 2 rfl TF.t24 (getV_all (by rw [size_arr, hy])))), trivial⟩ (all2 ?_ ?_)
      · refine stepE 1 (pure' := [4, 2]) (lds' := [5]) rfl (by kernel_rfl) (by kernel_rfl) ?_
        refine wl_call rfl (c_troot st.im hp) rfl ?_
        rintro v31 w ⟨t31, rfl⟩
        have st := st.pure t31
        refine wl_nil ⟨rfl, ?_⟩
        refine fl_effs [3, 8] (by kernel_rfl) ⟨obl_ld rfl rfl rfl (v_load rfl (by first | exact st.reads (v := arr y) 0 rfl TF.t24 (getV_all (by rw [size_arr, hy])) | exact st.reads (v := arr y) 1 rfl TF.t24 (getV_all (by rw [size_arr, hy])) | exact st.reads (v := arr y) 2 rfl TF.t24 (getV_all (by rw [size_arr, hy])))), trivial⟩ (all2 ?_ ?_)
        · refine stepE 3 (pure' := [4]) (lds' := [5]) rfl (by kernel_rfl) (by kernel_rfl) ?_
          refine wl_call rfl (c_tlen st.im hp) rfl ?_
          rintro v33 w ⟨t33, rfl⟩
          have st := st.pure t33
          refine wl_nil ⟨rfl, ?_⟩
          refine fl_effs [6, 8] (by kernel_rfl) ⟨obl_ld rfl rfl rfl (v_load rfl (by first | exact st.reads (v := arr y) 0 rfl TF.t24 (getV_all (by rw [size_arr, hy])) | exact st.reads (v := arr y) 1 rfl TF.t24 (getV_all (by rw [size_arr, hy])) | exact st.reads (v := arr y) 2 rfl TF.t24 (getV_all (by rw [size_arr, hy])))), trivial⟩ (all2 ?_ ?_)
          · refine stepE 6 (pure' := []) (lds' := []) rfl (by kernel_rfl) (by kernel_rfl) ?_
            refine wl_call rfl (c_tprove' st.im hp hy hD (by omega)) rfl ?_
            rintro v36 w ⟨t36, m3, hg3, hi3, hq1⟩
            have st := st.grown hg3 t36 hi3
            have hp := hp.mono hg3.le
            refine wl_nil ⟨rfl, ?_⟩
            refine fl_eff1 8 [] [] (by kernel_rfl) trivial rfl ?_
            refine wl_alloc TF.z41 st rfl ?_
            intro b14 w st
            refine wl_nil ⟨rfl, ?_⟩
            refine FL.permB [8, 7, 6, 3, 1, 5, 4, 2, 0] [] [] (by kernel_rfl) ?_
            first
              | exact fin _ _ _ _ _ _ rfl rfl rfl rfl rfl rfl rfl rfl rfl hp hq1 st
              | exact fin _ _ _ _ _ _ rfl rfl rfl rfl rfl rfl rfl rfl rfl hp hq1 (st.perm (List.Perm.swap _ _ _))
          · refine stepE 8 (pure' := [4]) (lds' := [5]) rfl (by kernel_rfl) (by kernel_rfl) ?_
            refine wl_alloc TF.z41 st rfl ?_
            intro b14 w st
            refine wl_nil ⟨rfl, ?_⟩
            refine fl_eff1 6 [] [] (by kernel_rfl) ⟨obl_ld rfl rfl rfl (v_load rfl (by first | exact st.reads (v := arr y) 0 rfl TF.t24 (getV_all (by rw [size_arr, hy])) | exact st.reads (v := arr y) 1 rfl TF.t24 (getV_all (by rw [size_arr, hy])) | exact st.reads (v := arr y) 2 rfl TF.t24 (getV_all (by rw [size_arr, hy])))), trivial⟩ rfl ?_
            refine wl_call rfl (c_tprove' st.im hp hy hD (by omega)) rfl ?_
            rintro v36 w ⟨t36, m3, hg3, hi3, hq1⟩
            have st := st.grown hg3 t36 hi3
            have hp := hp.mono hg3.le
            refine wl_nil ⟨rfl, ?_⟩
            refine FL.permB [8, 7, 6, 3, 1, 5, 4, 2, 0] [] [] (by kernel_rfl) ?_
            first
              | exact fin _ _ _ _ _ _ rfl rfl rfl rfl rfl rfl rfl rfl rfl hp hq1 st
              | exact fin _ _ _ _ _ _ rfl rfl rfl rfl rfl rfl rfl rfl rfl hp hq1 (st.perm (List.Perm.swap _ _ _))
        · refine stepE 8 (pure' := [4, 2]) (lds' := [5]) rfl (by kernel_rfl) (by kernel_rfl) ?_
          refine wl_alloc TF.z41 st rfl ?_
          intro b14 w st
          refine wl_nil ⟨rfl, ?_⟩
          refine fl_eff1 3 [4] [5] (by kernel_rfl) ⟨obl_ld rfl rfl rfl (v_load rfl (by first | exact st.reads (v := arr y) 0 rfl TF.t24 (getV_all (by rw [size_arr, hy])) | exact st.reads (v := arr y) 1 rfl TF.t24 (getV_all (by rw [size_arr, hy])) | exact st.reads (v := arr y) 2 rfl TF.t24 (getV_all (by rw [size_arr, hy])))), trivial⟩ rfl ?_
          refine wl_call rfl (c_tlen st.im hp) rfl ?_
          rintro v33 w ⟨t33, rfl⟩
          have st := st.pure t33
          refine wl_nil ⟨rfl, ?_⟩
          refine fl_eff1 6 [] [] (by kernel_rfl) ⟨obl_ld rfl rfl rfl (v_load rfl (by first | exact st.reads (v := arr y) 0 rfl TF.t24 (getV_all (by rw [size_arr, hy])) | exact st.reads (v := arr y) 1 rfl TF.t24 (getV_all (by rw [size_arr, hy])) | exact st.reads (v := arr y) 2 rfl TF.t24 (getV_all (by rw [size_arr, hy])))), trivial⟩ rfl ?_
          refine wl_call rfl (c_tprove' st.im hp hy hD (by omega)) rfl ?_
          rintro v36 w ⟨t36, m3, hg3, hi3, hq1⟩
          have st := st.grown hg3 t36 hi3
          have hp := hp.mono hg3.le
          refine wl_nil ⟨rfl, ?_⟩
          refine FL.permB [8, 7, 6, 3, 1, 5, 4, 2, 0] [] [] (by kernel_rfl) ?_
          first
            | exact fin _ _ _ _ _ _ rfl rfl rfl rfl rfl rfl rfl rfl rfl hp hq1 st
            | exact fin _ _ _ _ _ _ rfl rfl rfl rfl rfl rfl rfl rfl rfl hp hq1 (st.perm (List.Perm.swap _ _ _))
      · refine stepE 8 (pure' := [4, 2, 0]) (lds' := [5]) rfl (by kernel_rfl) (by kernel_rfl) ?_
        refine wl_alloc TF.z41 st rfl ?_
        intro b14 w st
        refine wl_nil ⟨rfl, ?_⟩
        refine fl_eff1 1 [4, 2] [5] (by kernel_rfl) ⟨obl_ld rfl rfl rfl (v_load rfl (by first | exact st.reads (v := arr y) 0 rfl TF.t24 (getV_all (by rw [size_arr, hy])) | exact st.reads (v := arr y) 1 rfl TF.t24 (getV_all (by rw [size_arr, hy])) | exact st.reads (v := arr y) 2 rfl TF.t24 (getV_all (by rw [size_arr, hy])))), trivial⟩ rfl ?_
        refine wl_call rfl (c_troot st.im hp) rfl ?_
        rintro v31 w ⟨t31, rfl⟩
        have st := st.pure t31
        refine wl_nil ⟨rfl, ?_⟩
        refine fl_eff1 3 [4] [5] (by kernel_rfl) ⟨obl_ld rfl rfl rfl (v_load rfl (by first | exact st.reads (v := arr y) 0 rfl TF.t24 (getV_all (by rw [size_arr, hy])) | exact st.reads (v := arr y) 1 rfl TF.t24 (getV_all (by rw [size_arr, hy])) | exact st.reads (v := arr y) 2 rfl TF.t24 (getV_all (by rw [size_arr, hy])))), trivial⟩ rfl ?_
        refine wl_call rfl (c_tlen st.im hp) rfl ?_
        rintro v33 w ⟨t33, rfl⟩
        have st := st.pure t33
        refine wl_nil ⟨rfl, ?_⟩
        refine fl_eff1 6 [] [] (by kernel_rfl) ⟨obl_ld rfl rfl rfl (v_load rfl (by first | exact st.reads (v := arr y) 0 rfl TF.t24 (getV_all (by rw [size_arr, hy])) | exact st.reads (v := arr y) 1 rfl TF.t24 (getV_all (by rw [size_arr, hy])) | exact st.reads (v := arr y) 2 rfl TF.t24 (getV_all (by rw [size_arr, hy])))), trivial⟩ rfl ?_
        refine wl_call rfl (c_tprove' st.im hp hy hD (by omega)) rfl ?_
        rintro v36 w ⟨t36, m3, hg3, hi3, hq1⟩
        have st := st.grown hg3 t36 hi3
        have hp := hp.mono hg3.le
        refine wl_nil ⟨rfl, ?_⟩
        refine FL.permB [8, 7, 6, 3, 1, 5, 4, 2, 0] [] [] (by kernel_rfl) ?_
        first
          | exact fin _ _ _ _ _ _ rfl rfl rfl rfl rfl rfl rfl rfl rfl hp hq1 st
          | exact fin _ _ _ _ _ _ rfl rfl rfl rfl rfl rfl rfl rfl rfl hp hq1 (st.perm (List.Perm.swap _ _ _))
    · refine stepE 8 (pure' := [4, 2, 0]) (lds' := [5]) rfl (by kernel_rfl) (by kernel_rfl) ?_
      refine wl_alloc TF.z41 st rfl ?_
      intro b14 w st
      refine wl_nil ⟨rfl, ?_⟩
      refine fl_effs [1, 7] (by kernel_rfl) ⟨obl_ld rfl rfl rfl (v_load rfl (by first | exact st.reads (v := arr y) 0 rfl TF.t24 (getV_all (by rw [size_arr, hy])) | exact st.reads (v := arr y) 1 rfl TF.t24 (getV_all (by rw [size_arr, hy])) | exact st.reads (v := arr y) 2 rfl TF.t24 (getV_all (by rw [size_arr, hy])))), trivial⟩ (all2 ?_ ?_)
      · refine stepE 1 (pure' := [4, 2]) (lds' := [5]) rfl (by kernel_rfl) (by kernel_rfl) ?_
        refine wl_call rfl (c_troot st.im hp) rfl ?_
        rintro v31 w ⟨t31, rfl⟩
        have st := st.pure t31
        refine wl_nil ⟨rfl, ?_⟩
        refine fl_effs [3, 7] (by kernel_rfl) ⟨obl_ld rfl rfl rfl (v_load rfl (by first | exact st.reads (v := arr y) 0 rfl TF.t24 (getV_all (by rw [size_arr, hy])) | exact st.reads (v := arr y) 1 rfl TF.t24 (getV_all (by rw [size_arr, hy])) | exact st.reads (v := arr y) 2 rfl TF.t24 (getV_all (by rw [size_arr, hy])))), trivial⟩ (all2 ?_ ?_)
        · refine stepE 3 (pure' := [4]) (lds' := [5]) rfl (by kernel_rfl) (by kernel_rfl) ?_
          refine wl_call rfl (c_tlen st.im hp) rfl ?_
          rintro v33 w ⟨t33, rfl⟩
          have st := st.pure t33
          refine wl_nil ⟨rfl, ?_⟩
          refine fl_effs [6, 7] (by kernel_rfl) ⟨obl_ld rfl rfl rfl (v_load rfl (by first | exact st.reads (v := arr y) 0 rfl TF.t24 (getV_all (by rw [size_arr, hy])) | exact st.reads (v := arr y) 1 rfl TF.t24 (getV_all (by rw [size_arr, hy])) | exact st.reads (v := arr y) 2 rfl TF.t24 (getV_all (by rw [size_arr, hy])))), trivial⟩ (all2 ?_ ?_)
          · refine stepE 6 (pure' := []) (lds' := []) rfl (by kernel_rfl) (by kernel_rfl) ?_
            refine wl_call rfl (c_tprove' st.im hp hy hD (by omega)) rfl ?_
            rintro v36 w ⟨t36, m3, hg3, hi3, hq1⟩
            have st := st.grown hg3 t36 hi3
            have hp := hp.mono hg3.le
            refine wl_nil ⟨rfl, ?_⟩
            refine fl_eff1 7 [] [] (by kernel_rfl) trivial rfl ?_
            refine wl_alloc TF.z24 st rfl ?_
            intro b12 w st
            refine wl_nil ⟨rfl, ?_⟩
            refine FL.permB [8, 7, 6, 3, 1, 5, 4, 2, 0] [] [] (by kernel_rfl) ?_
            first
              | exact fin _ _ _ _ _ _ rfl rfl rfl rfl rfl rfl rfl rfl rfl hp hq1 st
              | exact fin _ _ _ _ _ _ rfl rfl rfl rfl rfl rfl rfl rfl rfl hp hq1 (st.perm (List.Perm.swap _ _ _))
          · refine stepE 7 (pure' := [4]) (lds' := [5]) rfl (by kernel_rfl) (by kernel_rfl) ?_
            refine wl_alloc TF.z24 st rfl ?_
            intro b12 w st
            refine wl_nil ⟨rfl, ?_⟩
            refine fl_eff1 6 [] [] (by kernel_rfl) ⟨obl_ld rfl rfl rfl (v_load rfl (by first | exact st.reads (v := arr y) 0 rfl TF.t24 (getV_all (by rw [size_arr, hy])) | exact st.reads (v := arr y) 1 rfl TF.t24 (getV_all (by rw [size_arr, hy])) | exact st.reads (v := arr y) 2 rfl TF.t24 (getV_all (by rw [size_arr, hy])))), trivial⟩ rfl ?_
            refine wl_call rfl (c_tprove' st.im hp hy hD (by omega)) rfl ?_
            rintro v36 w ⟨t36, m3, hg3, hi3, hq1⟩
            have st := st.grown hg3 t36 hi3
            have hp := hp.mono hg3.le
            refine wl_nil ⟨rfl, ?_⟩
            refine FL.permB [8, 7, 6, 3, 1, 5, 4, 2, 0] [] [] (by kernel_rfl) ?_
            first
              | exact fin _ _ _ _ _ _ rfl rfl rfl rfl rfl rfl rfl rfl rfl hp hq1 st
              | exact fin _ _ _ _ _ _ rfl rfl rfl rfl rfl rfl rfl rfl rfl hp hq1 (st.perm (List.Perm.swap _ _ _))
        · refine stepE 7 (pure' := [4, 2]) (lds' := [5]) rfl (by kernel_rfl) (by kernel_rfl) ?_
          refine wl_alloc TF.z24 st rfl ?_
          intro b12 w st
          refine wl_nil ⟨rfl, ?_⟩
          refine fl_eff1 3 [4] [5] (by kernel_rfl) ⟨obl_ld rfl rfl rfl (v_load rfl (by first | exact st.reads (v := arr y) 0 rfl TF.t24 (getV_all (by rw [size_arr, hy])) | exact st.reads (v := arr y) 1 rfl TF.t24 (getV_all (by rw [size_arr, hy])) | exact st.reads (v := arr y) 2 rfl TF.t24 (getV_all (by rw [size_arr, hy])))), trivial⟩ rfl ?_
          refine wl_call rfl (c_tlen st.im hp) rfl ?_
          rintro v33 w ⟨t33, rfl⟩
          have st := st.pure t33
          refine wl_nil ⟨rfl, ?_⟩
          refine fl_eff1 6 [] [] (by kernel_rfl) ⟨obl_ld rfl rfl rfl (v_load rfl (by first | exact st.reads (v := arr y) 0 rfl TF.t24 (getV_all (by rw [size_arr, hy])) | exact st.reads (v := arr y) 1 rfl TF.t24 (getV_all (by rw [size_arr, hy])) | exact st.reads (v := arr y) 2 rfl TF.t24 (getV_all (by rw [size_arr, hy])))), trivial⟩ rfl ?_
          refine wl_call rfl (c_tprove' st.im hp hy hD (by omega)) rfl ?_
          rintro v36 w ⟨t36, m3, hg3, hi3, hq1⟩
          have st := st.grown hg3 t36 hi3
          have hp := hp.mono hg3.le
          refine wl_nil ⟨rfl, ?_⟩
          refine FL.permB [8, 7, 6, 3, 1, 5, 4, 2, 0] [] [] (by kernel_rfl) ?_
          first
            | exact fin _ _ _ _ _ _ rfl rfl rfl rfl rfl rfl rfl rfl rfl hp hq1 st
            | exact fin _ _ _ _ _ _ rfl rfl rfl rfl rfl rfl rfl rfl rfl hp hq1 (st.perm (List.Perm.swap _ _ _))
      · refine stepE 7 (pure' := [4, 2, 0]) (lds' := [5]) rfl (by kernel_rfl) (by kernel_rfl) ?_
        refine wl_alloc TF.z24 st rfl ?_
        intro b12 w st
        refine wl_nil ⟨rfl, ?_⟩
        refine fl_eff1 1 [4, 2] [5] (by kernel_rfl) ⟨obl_ld rfl rfl rfl (v_load rfl (by first | exact st.reads (v := arr y) 0 rfl TF.t24 (getV_all (by rw [size_arr, hy])) | exact st.reads (v := arr y) 1 rfl TF.t24 (getV_all (by rw [size_arr, hy])) | exact st.reads (v := arr y) 2 rfl TF.t24 (getV_all (by rw [size_arr, hy])))), trivial⟩ rfl ?_
        refine wl_call rfl (c_troot st.im hp) rfl ?_
        rintro v31 w ⟨t31, rfl⟩
        have st := st.pure t31
        refine wl_nil ⟨rfl, ?_⟩
        refine fl_eff1 3 [4] [5] (by kernel_rfl) ⟨obl_ld rfl rfl rfl (v_load rfl (by first | exact st.reads (v := arr y) 0 rfl TF.t24 (getV_all (by rw [size_arr, hy])) | exact st.reads (v := arr y) 1 rfl TF.t24 (getV_all (by rw [size_arr, hy])) | exact st.reads (v := arr y) 2 rfl TF.t24 (getV_all (by rw [size_arr, hy])))), trivial⟩ rfl ?_
        refine wl_call rfl (c_tlen st.im hp) rfl ?_
        rintro v33 w ⟨t33, rfl⟩
        have st := st.pure t33
        refine wl_nil ⟨rfl, ?_⟩
        refine fl_eff1 6 [] [] (by kernel_rfl) ⟨obl_ld rfl rfl rfl (v_load rfl (by first | exact st.reads (v := arr y) 0 rfl TF.t24 (getV_all (by rw [size_arr, hy])) | exact st.reads (v := arr y) 1 rfl TF.t24 (getV_all (by rw [size_arr, hy])) | exact st.reads (v := arr y) 2 rfl TF.t24 (getV_all (by rw [size_arr, hy])))), trivial⟩ rfl ?_
        refine wl_call rfl (c_tprove' st.im hp hy hD (by omega)) rfl ?_
        rintro v36 w ⟨t36, m3, hg3, hi3, hq1⟩
        have st := st.grown hg3 t36 hi3
        have hp := hp.mono hg3.le
        refine wl_nil ⟨rfl, ?_⟩
        refine FL.permB [8, 7, 6, 3, 1, 5, 4, 2, 0] [] [] (by kernel_rfl) ?_
        first
          | exact fin _ _ _ _ _ _ rfl rfl rfl rfl rfl rfl rfl rfl rfl hp hq1 st
          | exact fin _ _ _ _ _ _ rfl rfl rfl rfl rfl rfl rfl rfl rfl hp hq1 (st.perm (List.Perm.swap _ _ _))
end
end Go.Proofs.Ytkbmhhbclbgdpaa
