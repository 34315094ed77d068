/-
  TreeRoots and TreeProves answer true.
-/
import Derived.Test.YtkbmhhbclbgdpaaUq
namespace Go.Proofs.Ytkbmhhbclbgdpaa
open Go Go.RowKit K SH PT

theorem v_nebF {P : Program} {r : Fr} {w : World} {ty : TypeId} {T U : TypeId} {x y : Operand} {a : Bool} (hT : P.underlying T = some .bool) (hx : ev r x = .bool a) (hy : ev r y = .bool a) : Val P (.binOp .neq T x y U) ty r w (.bool false) w := by
  have h := v_neb (P := P) (T := T) (U := U) (ty := ty) (w := w) hT hx hy
  rwa [beq_self_eq_true] at h

theorem ofLv_d32 {Z : List (By × By)} (h : D32p Z) : D32p (ofLv Z) := by
  induction h' : Z.length generalizing Z with
  | zero => have := List.eq_nil_of_length_eq_zero h'; subst this; simp [ofLv, D32p]
  | succ k ih =>
    have hne : Z ≠ [] := by intro e; subst e; simp at h'
    rw [← List.dropLast_concat_getLast hne, ofLv_snoc]
    have hl := h _ (List.getLast_mem hne)
    exact (ih (Z := Z.dropLast) (fun x hx => h x ((List.dropLast_sublist Z).subset hx)) (by simp [h'])).put hl.1 hl.2

theorem d32_zip {A V : List By} (ha : D32 A) (hv : D32 V) : D32p (A.zip V) := fun x hx => ⟨ha _ (List.of_mem_zip hx).1, hv _ (List.of_mem_zip hx).2⟩

theorem getG_len {L : List (By × By)} (h : D32p L) {x : By} : (valO (getG x L)).length = 32 := by
  induction L with
  | nil => rfl
  | cons y l ih =>
    rw [getG]
    split
    · exact (h y (by simp)).2
    · exact ih fun z hz => h z (by simp [hz])

theorem fine_all {A V : List By} (ha : D32 A) (hv : D32 V) (hl : A.length ≤ 1000000) (i : Nat) : (Tr.ofL ((A.zip V).take i)).fine := by
  have h := d32_zip ha hv
  obtain ⟨h1, h2⟩ := ofLv_dst (Z := (A.zip V).take i) fun x hx => (h x (List.mem_of_mem_take hx)).1
  have hle := length_ofLv ((A.zip V).take i)
  have hz : ((A.zip V).take i).length ≤ A.length := by simp; omega
  obtain ⟨h3, h4, h5⟩ := treeOf_fine h1 (by omega)
  rw [h2]
  exact ⟨h3, by omega, by omega⟩

section
variable {m : Mem} {wI : World}

/-- The tree of leaves, as it lies, with all that is known of it. -/
theorem c_tof' {va vv : Value} {A V : List By} (him : Im m wI) (ha : DigM m va A) (hv : DigM m vv V) (hA : A.length ≤ 60) :
    Ret Try.prog 11 #[va, vv] wI fun v w' => Out m wI w' fun m' => ∃ p, v = ptrP p ∧ TreeM m' p (treeOf (ofLv (A.zip V))) := by
  have h := c_tof him ha hv (by omega) (fine_all ha.1 hv.1 (by omega))
  rw [(ofLv_dst (Z := A.zip V) fun x hx => (d32_zip ha.1 hv.1 x hx).1).2] at h
  exact h

theorem c_rroot' {lv : Value} {L : List (By × By)} (him : Im m wI) (hl : LvM m lv L) (hD : Dst 0 L) (hL : L.length ≤ 1099511627776) :
    Ret Try.prog 14 #[lv, .int .i64 0] wI fun v' w' => Tch wI w' [] [] ∧ v' = arr (treeOf L).root :=
  c_rroot (g := 256) (d := 0) him hl (hD.ends (by omega)) hL (by omega)

theorem c_tget' {p : Nat} {L : List (By × By)} {x : By} (him : Im m wI) (h : TreeM m p (treeOf L)) (hx : x.length = 32) (hD : Dst 0 L) (hL : L.length < 1000000000) :
    Ret Try.prog 16 #[ptrP p, arr x] wI fun v w' => Tch wI w' [] [] ∧ v = .tuple #[arr (valO (getG x L)), .bool (getG x L).isSome] := by
  obtain ⟨h1, h2, h3⟩ := treeOf_fine hD hL
  have h := c_tget him h hx h1 h3
  rw [treeOf_get hD] at h
  exact h

theorem c_tprove' {p : Nat} {L : List (By × By)} {x : By} (him : Im m wI) (h : TreeM m p (treeOf L)) (hx : x.length = 32) (hD : Dst 0 L) (hL : L.length < 1000000000) :
    Ret Try.prog 19 #[ptrP p, arr x] wI fun v w' => Out m wI w' fun m' => PrM m' v (prvL x L) := by
  obtain ⟨h1, h2, h3⟩ := treeOf_fine hD hL
  have h := c_tprove him h hx h1 h3
  rw [treeOf_prv hD] at h
  exact h

theorem c_tput' {p : Nat} {L : List (By × By)} {j u : By} (him : Im m wI) (h : TreeM m p (treeOf L)) (hj : j.length = 32) (hu : u.length = 32) (hD : Dst 0 L) (hL : L.length < 1000000000) :
    Ret Try.prog 21 #[ptrP p, arr j, arr u] wI fun v' w' => Out m wI w' fun m' => ∃ q, v' = ptrP q ∧ TreeM m' q (treeOf (putL j u L)) := by
  obtain ⟨h1, h2, h3⟩ := treeOf_fine hD hL
  have h := c_tput him h hj hu h1 (by omega) (by omega)
  rw [treeOf_put hD hj] at h
  exact h

theorem c_f3 {va vv : Value} {A V : List By} {x : By} (him : Im m wI) (ha : DigM m va A) (hv : DigM m vv V) (hx : x.length = 32) (hV : V.length ≤ 9223372036854775807) :
    Ret Try.prog 3 #[va, vv, arr x] wI fun v w' => Tch wI w' [] [] ∧ v = .bool true := by
  have st := St.start him
  obtain ⟨a1, c1, rfl⟩ := ha.sl
  obtain ⟨a2, c2, rfl⟩ := hv.sl
  obtain ⟨hD, _⟩ := ofLv_dst (Z := A.zip V) fun x hx => (d32_zip ha.1 hv.1 x hx).1
  have hdp := ofLv_d32 (d32_zip ha.1 hv.1)
  have hLl := length_ofLv (A.zip V)
  have hzl : (A.zip V).length ≤ A.length := by simp; omega
  generalize hL : ofLv (A.zip V) = L at hD hdp hLl
  refine ret_of Try.call3 Try.func3 rfl Try.ntmps3 Try.results3 rfl ?_
  refine wc_seq ?_
  refine wc_region ?_
  refine wl_box (v := arr x) rfl st rfl ?_
  intro b5 w st
  refine wl_val (v_assign' (by conv => (lhs; whnf))) rfl ?_
  refine wl_nil ?_
  refine then_go ?_
  refine wc_seq ?_
  refine wc_seq ?_
  refine wc_region ?_
  refine wl_val (v_move' (by conv => (lhs; whnf))) rfl ?_
  refine wl_call rfl (c_few st.im ha) rfl ?_
  rintro v16 w ⟨t16, rfl⟩
  have st := st.pure t16
  refine wl_val (v_not rfl) rfl ?_
  refine wl_nil ?_
  refine then_go ?_
  refine wc_cond rfl (fun h17 => ?_) (fun h17 => ?_)
  · refine wc_seq ?_
    refine wc_region ?_
    refine wl_call rfl (c_works st.im) rfl ?_
    rintro v18 w ⟨t18, rfl⟩
    have st := st.pure t18
    refine wl_val (v_assign' (by conv => (lhs; whnf))) rfl ?_
    refine wl_nil ?_
    refine then_go ?_
    refine wc_ret (then_ret ?_)
    exact ret1 rfl ⟨(st.keepOnly (l := []) (List.nil_sublist _)).touch, rfl⟩
  · refine wc_skip ?_
    refine then_go ?_
    refine wc_seq ?_
    refine wc_region ?_
    refine wl_val (v_move' (by conv => (lhs; whnf))) rfl ?_
    refine wl_val (v_move' (by conv => (lhs; whnf))) rfl ?_
    have hA60 : A.length ≤ 60 := by simp at h17; omega
    refine wl_call rfl (c_tof' st.im ha hv hA60) rfl ?_
    rintro v21 w ⟨t21, m1, hg1, hi1, p, rfl, hp⟩
    have st := st.grown hg1 t21 hi1
    have ha := ha.mono hg1.le
    have hv := hv.mono hg1.le
    rw [hL] at hp
    refine wl_val (v_assign' (by conv => (lhs; whnf))) rfl ?_
    refine wl_nil ?_
    refine then_go ?_
    refine wc_seq ?_
    refine wc_region ?_
    refine wl_val (v_move' (by conv => (lhs; whnf))) rfl ?_
    refine wl_val (v_move' (by conv => (lhs; whnf))) rfl ?_
    refine wl_call rfl (c_rof st.im ha hv (by omega) hV) rfl ?_
    rintro v24 w ⟨t24, m2, hg2, hi2, hl⟩
    have st := st.grown hg2 t24 hi2
    have ha := ha.mono hg2.le
    have hv := hv.mono hg2.le
    have hp := hp.mono hg2.le
    rw [hL] at hl
    obtain ⟨l1, k1, l2, k2, rfl, hl1, hl2⟩ := hl.open
    refine wl_alloc TF.z30 st rfl ?_
    intro b8 w st
    refine wl_storeW (cs := #[.slice l1 L.length k1, .slice l2 L.length k2]) 0 st rfl TF.t30 rfl rfl rfl rfl (by simp [Value.oneCell']) ?_
    intro w st
    refine wl_nil ?_
    refine then_go ?_
    refine wc_seq ?_
    refine wc_seq ?_
    refine wc_draw TF.mixed ?_
    have st := st.pure (touch_drew _)
    refine fl_val 0 rfl (fun _ => (v_move' (by conv => (lhs; whnf)))) rfl (by kernel_rfl) ?_
    refine fl_val 1 rfl (fun _ => (v_eq_nil (p := some ⟨p, 0, none⟩) Try.underlying27 rfl rfl)) rfl (by kernel_rfl) ?_
    refine fl_val 2 rfl (fun _ => (v_move' (by conv => (lhs; whnf)))) rfl (by kernel_rfl) ?_
    refine fl_on 3 rfl rfl rfl rfl (fun _ => (v_move' (by conv => (lhs; whnf)))) rfl (by kernel_rfl) ?_
    refine fl_ond 5 rfl rfl rfl rfl (v_load rfl (st.reads (v := .agg #[.slice l1 L.length k1, .slice l2 L.length k2]) 0 rfl TF.t30 (getV_all rfl))) rfl (by kernel_rfl) ?_
    refine fl_eff1 4 [1, 0] [5] (by kernel_rfl) ⟨obl_on rfl rfl rfl rfl rfl (v_load rfl (st.reads (v := .agg #[.slice l1 L.length k1, .slice l2 L.length k2]) 0 rfl TF.t30 (getV_all rfl))), trivial⟩ rfl ?_
    refine wl_on rfl rfl ?_
    refine wl_call rfl (c_troot st.im hp) rfl ?_
    rintro v29 w ⟨t29, rfl⟩
    have st := st.pure t29
    refine wl_nil ⟨rfl, ?_⟩
    refine fl_eff1 6 [1, 0] [] (by kernel_rfl) ⟨obl_on rfl rfl rfl rfl rfl (v_load rfl (st.reads (v := .agg #[.slice l1 L.length k1, .slice l2 L.length k2]) 0 rfl TF.t30 (getV_all rfl))), trivial⟩ rfl ?_
    refine wl_on rfl rfl ?_
    refine wl_call rfl (c_rroot' st.im hl hD (by omega)) rfl ?_
    rintro v31 w ⟨t31, rfl⟩
    have st := st.pure t31
    refine wl_nil ⟨rfl, ?_⟩
    refine fl_on 7 rfl rfl rfl rfl (fun _ => (v_neDF rfl rfl (length_root _))) rfl (by kernel_rfl) ?_
    refine fl_val 8 rfl (fun _ => (v_pick rfl)) rfl (by kernel_rfl) ?_
    refine fl_val 9 rfl (fun _ => (v_move' (by conv => (lhs; whnf)))) rfl (by kernel_rfl) ?_
    refine fl_on 10 rfl rfl rfl rfl (fun _ => (v_move' (by conv => (lhs; whnf)))) rfl (by kernel_rfl) ?_
    refine fl_on 12 rfl rfl rfl rfl (fun _ => (v_fa TF.f30_0 rfl)) rfl (by kernel_rfl) ?_
    refine fl_ond 13 rfl rfl rfl rfl (v_load rfl (st.reads (v := .slice l1 L.length k1) 0 rfl TF.t22 rfl)) rfl (by kernel_rfl) ?_
    refine fl_on 14 rfl rfl rfl rfl (fun _ => (v_len_s Try.underlying22 rfl)) rfl (by kernel_rfl) ?_
    refine fl_eff1 11 [14, 12, 8, 7, 1, 0] [13] (by kernel_rfl) ⟨obl_on rfl rfl rfl rfl rfl (v_load rfl (st.reads (v := .slice l1 L.length k1) 0 rfl TF.t22 rfl)), trivial⟩ rfl ?_
    refine wl_on rfl rfl ?_
    refine wl_call rfl (c_tlen st.im hp) rfl ?_
    rintro v36 w ⟨t36, rfl⟩
    have st := st.pure t36
    refine wl_nil ⟨rfl, ?_⟩
    refine fl_on 15 rfl rfl rfl rfl (fun _ => (v_neqF (a := ((treeOf L).n : Int)) (b := (L.length : Int)) (by rw [(treeOf_fine hD (by omega)).2.1]) rfl rfl)) rfl (by kernel_rfl) ?_
    refine fl_val 16 rfl (fun _ => (v_pick rfl)) rfl (by kernel_rfl) ?_
    refine fl_nil (by kernel_rfl) ⟨obl_on rfl rfl rfl rfl rfl (v_load rfl (st.reads (v := .slice l1 L.length k1) 0 rfl TF.t22 rfl)), trivial⟩ ?_
    refine then_go ?_
    refine wc_false rfl ?_
    refine wc_skip ?_
    refine then_go ?_
    refine wc_seq ?_
    refine wc_seq ?_
    refine wc_region ?_
    refine wl_val (v_assign' (by conv => (lhs; whnf))) rfl ?_
    refine wl_nil ?_
    refine then_go ?_
    refine wc_block ?_
    refine wc_loop (S := Nat) (fun q r w' => ∃ (i : Nat), q + i = A.length + 1 ∧ r 0 = .slice a1 A.length c1 ∧ r 5 = .pointer (some ⟨b5, 0, none⟩) ∧ r 7 = ptrP p ∧ r 8 = .pointer (some ⟨b8, 0, none⟩) ∧ r 9 = .int .i64 i ∧
      St m m2 [] wI w' [K.blk b8 #[.slice l1 L.length k1, .slice l2 L.length k2] 30, K.blk b5 (arr x).cells 24]) id (A.length + 1) ⟨0, by omega, rfl, rfl, rfl, rfl, rfl, st⟩ ?_
    rintro q r w2 ⟨i, hqi, g0, g5, g7, g8, g9, st⟩
    refine wc_o 0 g0 (wc_o 5 g5 (wc_o 7 g7 (wc_o 8 g8 (wc_o 9 g9 ?_))))
    refine wc_seq ?_
    refine wc_seq ?_
    refine wc_region ?_
    refine wl_val (v_move' (by conv => (lhs; whnf))) rfl ?_
    refine wl_val (v_move' (by conv => (lhs; whnf))) rfl ?_
    refine wl_val (v_len_s Try.underlying22 rfl) rfl ?_
    refine wl_val (v_leq rfl rfl) rfl ?_
    refine wl_nil ?_
    refine then_go ?_
    refine wc_if rfl (fun h45 => ?_) (fun h45 => ?_)
    · refine wc_skip ?_
      refine then_go ?_
      refine wc_seq ?_
      refine wc_block ?_
      refine wc_seq ?_
      refine wc_region ?_
      refine wl_val (v_load rfl (st.reads (v := arr x) 1 rfl TF.t24 (getV_all (by rw [size_arr, hx])))) rfl ?_
      refine wl_alloc TF.z24 st rfl ?_
      intro b10 w st
      refine wl_storeW (cs := (bs x).toArray) 0 st rfl TF.t24 rfl rfl (by simp [length_bs, hx]) rfl (fun u hu => one_bs _ u (by simpa using hu)) ?_
      intro w st
      refine wl_nil ?_
      refine then_go ?_
      refine wc_seq ?_
      refine wc_seq ?_
      refine wc_region ?_
      refine wl_val (v_move' (by conv => (lhs; whnf))) rfl ?_
      refine wl_val (v_move' (by conv => (lhs; whnf))) rfl ?_
      refine wl_val (v_len_s Try.underlying22 rfl) rfl ?_
      refine wl_val (v_lss rfl rfl) rfl ?_
      refine wl_nil ?_
      refine then_go ?_
      refine wc_if rfl (fun h52 => ?_) (fun h52 => ?_)
      · have hi : i < A.length := by omega
        have hAi := ha.1.get hi
        obtain ⟨ba, oa, hba⟩ := ha.ptr (by omega)
        subst hba
        refine wc_region ?_
        refine wl_val (v_move' (by conv => (lhs; whnf))) rfl ?_
        refine wl_val (v_move' (by conv => (lhs; whnf))) rfl ?_
        refine wl_val (v_ias i Try.underlying22 TF.t24 rfl rfl (by first | rfl | omega) (by first | omega | (dsimp only at *; omega))) rfl ?_
        refine wl_val (v_load rfl (ha.rd rfl hi rfl st.im)) rfl ?_
        refine wl_storeW (cs := (bs A[i]).toArray) 0 st rfl TF.t24 rfl rfl (by simp [length_bs, hAi]) (by simp [length_bs, hx]) (fun u hu => one_bs _ u (by simpa using hu)) ?_
        intro w st
        refine wl_nil ?_
        refine then_go ?_
        refine wc_seq ?_
        refine wc_region ?_
        refine wl_val (v_move' (by conv => (lhs; whnf))) rfl ?_
        refine wl_val (v_load rfl (by first | exact st.reads (v := arr A[i]) 0 rfl TF.t24 (getV_all (by simp [length_bs, hAi])) | exact st.reads (v := arr x) 0 rfl TF.t24 (getV_all (by simp [length_bs, hx])))) rfl ?_
        refine wl_call rfl (c_tget' st.im hp (by first | exact hAi | exact hx) hD (by omega)) rfl ?_
        rintro v60 w ⟨t60, rfl⟩
        have st := st.pure t60
        refine wl_val (v_move' (by conv => (lhs; whnf))) rfl ?_
        refine wl_val (v_extract rfl rfl) rfl ?_
        refine wl_val (v_extract rfl rfl) rfl ?_
        refine wl_alloc TF.z24 st rfl ?_
        intro b11 w st
        refine wl_storeW (cs := (bs (valO (getG _ L))).toArray) 0 st rfl TF.t24 rfl rfl (by simp [length_bs, getG_len hdp]) rfl (fun u hu => one_bs _ u (by simpa using hu)) ?_
        intro w st
        refine wl_val (v_assign' (by conv => (lhs; whnf))) rfl ?_
        refine wl_nil ?_
        refine then_go ?_
        refine wc_seq ?_
        refine wc_region ?_
        refine wl_val (v_load rfl (st.reads (v := .agg #[.slice l1 L.length k1, .slice l2 L.length k2]) 2 rfl TF.t30 (getV_all rfl))) rfl ?_
        refine wl_val (v_load rfl (by first | exact st.reads (v := arr A[i]) 1 rfl TF.t24 (getV_all (by simp [length_bs, hAi])) | exact st.reads (v := arr x) 1 rfl TF.t24 (getV_all (by simp [length_bs, hx])))) rfl ?_
        refine wl_call rfl (c_rget st.im hl (by first | exact hAi | exact hx) (by omega)) rfl ?_
        rintro v66 w ⟨t66, rfl⟩
        have st := st.pure t66
        refine wl_val (v_move' (by conv => (lhs; whnf))) rfl ?_
        refine wl_val (v_extract rfl rfl) rfl ?_
        refine wl_val (v_extract rfl rfl) rfl ?_
        refine wl_alloc TF.z24 st rfl ?_
        intro b13 w st
        refine wl_storeW (cs := (bs (valO (getG _ L))).toArray) 0 st rfl TF.t24 rfl rfl (by simp [length_bs, getG_len hdp]) rfl (fun u hu => one_bs _ u (by simpa using hu)) ?_
        intro w st
        refine wl_val (v_assign' (by conv => (lhs; whnf))) rfl ?_
        refine wl_nil ?_
        refine then_go ?_
        refine wc_seq ?_
        refine wc_region ?_
        refine wl_val (v_load rfl (st.reads (v := arr (valO (getG _ L))) 1 rfl TF.t24 (getV_all (by simp [length_bs, getG_len hdp])))) rfl ?_
        refine wl_val (v_load rfl (st.reads (v := arr (valO (getG _ L))) 0 rfl TF.t24 (getV_all (by simp [length_bs, getG_len hdp])))) rfl ?_
        refine wl_val (v_neDF rfl rfl (getG_len hdp)) rfl ?_
        refine wl_val (v_move' (by conv => (lhs; whnf))) rfl ?_
        refine wl_on rfl rfl ?_
        refine wl_val (v_move' (by conv => (lhs; whnf))) rfl ?_
        refine wl_on rfl rfl ?_
        refine wl_val (v_move' (by conv => (lhs; whnf))) rfl ?_
        refine wl_on rfl rfl ?_
        refine wl_val (v_nebF Try.underlying4 rfl rfl) rfl ?_
        refine wl_val (v_pick rfl) rfl ?_
        refine wl_nil ?_
        refine then_go ?_
        refine wc_false rfl ?_
        refine wc_skip ?_
        refine block_go (then_go ?_)
        refine wc_region ?_
        refine wl_val (v_move' (by conv => (lhs; whnf))) rfl ?_
        refine wl_val (v_add' rfl rfl rfl (by first | omega | (dsimp only at *; omega)) (by first | omega | (dsimp only at *; omega))) rfl ?_
        refine wl_val (v_assign' (by conv => (lhs; whnf))) rfl ?_
        refine wl_nil ?_
        refine then_go ?_
        exact ⟨q - 1, by simp; omega, i + 1, by omega, rfl, rfl, rfl, rfl, rfl, st.keepOnly (((List.Sublist.refl _).cons _).cons _ |>.cons _)⟩
      · refine wc_skip ?_
        refine then_go ?_
        refine wc_seq ?_
        refine wc_region ?_
        refine wl_val (v_move' (by conv => (lhs; whnf))) rfl ?_
        refine wl_val (v_load rfl (by first | exact st.reads (v := arr A[i]) 0 rfl TF.t24 (getV_all (by simp [length_bs, hAi])) | exact st.reads (v := arr x) 0 rfl TF.t24 (getV_all (by simp [length_bs, hx])))) rfl ?_
        refine wl_call rfl (c_tget' st.im hp (by first | exact hAi | exact hx) hD (by omega)) rfl ?_
        rintro v60 w ⟨t60, rfl⟩
        have st := st.pure t60
        refine wl_val (v_move' (by conv => (lhs; whnf))) rfl ?_
        refine wl_val (v_extract rfl rfl) rfl ?_
        refine wl_val (v_extract rfl rfl) rfl ?_
        refine wl_alloc TF.z24 st rfl ?_
        intro b11 w st
        refine wl_storeW (cs := (bs (valO (getG _ L))).toArray) 0 st rfl TF.t24 rfl rfl (by simp [length_bs, getG_len hdp]) rfl (fun u hu => one_bs _ u (by simpa using hu)) ?_
        intro w st
        refine wl_val (v_assign' (by conv => (lhs; whnf))) rfl ?_
        refine wl_nil ?_
        refine then_go ?_
        refine wc_seq ?_
        refine wc_region ?_
        refine wl_val (v_load rfl (st.reads (v := .agg #[.slice l1 L.length k1, .slice l2 L.length k2]) 2 rfl TF.t30 (getV_all rfl))) rfl ?_
        refine wl_val (v_load rfl (by first | exact st.reads (v := arr A[i]) 1 rfl TF.t24 (getV_all (by simp [length_bs, hAi])) | exact st.reads (v := arr x) 1 rfl TF.t24 (getV_all (by simp [length_bs, hx])))) rfl ?_
        refine wl_call rfl (c_rget st.im hl (by first | exact hAi | exact hx) (by omega)) rfl ?_
        rintro v66 w ⟨t66, rfl⟩
        have st := st.pure t66
        refine wl_val (v_move' (by conv => (lhs; whnf))) rfl ?_
        refine wl_val (v_extract rfl rfl) rfl ?_
        refine wl_val (v_extract rfl rfl) rfl ?_
        refine wl_alloc TF.z24 st rfl ?_
        intro b13 w st
        refine wl_storeW (cs := (bs (valO (getG _ L))).toArray) 0 st rfl TF.t24 rfl rfl (by simp [length_bs, getG_len hdp]) rfl (fun u hu => one_bs _ u (by simpa using hu)) ?_
        intro w st
        refine wl_val (v_assign' (by conv => (lhs; whnf))) rfl ?_
        refine wl_nil ?_
        refine then_go ?_
        refine wc_seq ?_
        refine wc_region ?_
        refine wl_val (v_load rfl (st.reads (v := arr (valO (getG _ L))) 1 rfl TF.t24 (getV_all (by simp [length_bs, getG_len hdp])))) rfl ?_
        refine wl_val (v_load rfl (st.reads (v := arr (valO (getG _ L))) 0 rfl TF.t24 (getV_all (by simp [length_bs, getG_len hdp])))) rfl ?_
        refine wl_val (v_neDF rfl rfl (getG_len hdp)) rfl ?_
        refine wl_val (v_move' (by conv => (lhs; whnf))) rfl ?_
        refine wl_on rfl rfl ?_
        refine wl_val (v_move' (by conv => (lhs; whnf))) rfl ?_
        refine wl_on rfl rfl ?_
        refine wl_val (v_move' (by conv => (lhs; whnf))) rfl ?_
        refine wl_on rfl rfl ?_
        refine wl_val (v_nebF Try.underlying4 rfl rfl) rfl ?_
        refine wl_val (v_pick rfl) rfl ?_
        refine wl_nil ?_
        refine then_go ?_
        refine wc_false rfl ?_
        refine wc_skip ?_
        refine block_go (then_go ?_)
        refine wc_region ?_
        refine wl_val (v_move' (by conv => (lhs; whnf))) rfl ?_
        refine wl_val (v_add' rfl rfl rfl (by first | omega | (dsimp only at *; omega)) (by first | omega | (dsimp only at *; omega))) rfl ?_
        refine wl_val (v_assign' (by conv => (lhs; whnf))) rfl ?_
        refine wl_nil ?_
        refine then_go ?_
        exact ⟨q - 1, by simp; omega, i + 1, by omega, rfl, rfl, rfl, rfl, rfl, st.keepOnly (((List.Sublist.refl _).cons _).cons _ |>.cons _)⟩
    · refine wc_exit (then_exit (then_exit (block_hit ?_)))
      refine then_go ?_
      refine wc_seq ?_
      refine wc_region ?_
      refine wl_call rfl (c_works st.im) rfl ?_
      rintro v18 w ⟨t18, rfl⟩
      have st := st.pure t18
      refine wl_val (v_assign' (by conv => (lhs; whnf))) rfl ?_
      refine wl_nil ?_
      refine then_go ?_
      refine wc_ret ?_
      exact ret1 rfl ⟨(st.keepOnly (l := []) (List.nil_sublist _)).touch, rfl⟩
end
end Go.Proofs.Ytkbmhhbclbgdpaa
