/-
  The tree of lists of digests; the reference's half.
-/
import Derived.Test.YtkbmhhbclbgdpaaUd
namespace Go.Proofs.Ytkbmhhbclbgdpaa
open Go Go.RowKit K SH PT

namespace Tr
/-- A tree of leaves, one put behind the other. -/
def ofL (L : List (By × By)) : Tr := L.foldl (fun t x => Tr.put x.1 x.2 t 0) .e
theorem ofL_snoc {L : List (By × By)} {x : By × By} : ofL (L ++ [x]) = Tr.put x.1 x.2 (ofL L) 0 := by simp [ofL]
/-- A tree that may be gone over and put to. -/
def fine (t : Tr) : Prop := t.ok ∧ t.n < 4611686018427386 ∧ t.ht < 4611686018427386
end Tr

theorem zip_take_lt {A V : List By} {i : Nat} (ha : i < A.length) (hv : i < V.length) : (A.zip V).take (i + 1) = (A.zip V).take i ++ [(A[i], V[i])] := by
  rw [List.take_succ_eq_append_getElem (by simp; omega)]
  simp
theorem zip_take_ge {A V : List By} {i : Nat} (hv : V.length ≤ i) : (A.zip V).take (i + 1) = (A.zip V).take i := by
  rw [List.take_of_length_le (by simp; omega), List.take_of_length_le (by simp; omega)]

section
variable {m : Mem} {wI : World}

theorem c_tof {va vv : Value} {A V : List By} (him : Im m wI) (ha : DigM m va A) (hv : DigM m vv V) (hA : A.length ≤ 1099511627776) (hT : ∀ i, (Tr.ofL ((A.zip V).take i)).fine) :
    Ret Try.prog 11 #[va, vv] wI fun v w' => Out m wI w' fun m' => ∃ p, v = ptrP p ∧ TreeM m' p (Tr.ofL (A.zip V)) := by
  have st := St.start him
  obtain ⟨a1, c1, rfl⟩ := ha.sl
  obtain ⟨a2, c2, rfl⟩ := hv.sl
  refine ret_of Try.call11 Try.func11 rfl Try.ntmps11 Try.results11 rfl ?_
  refine wc_seq ?_
  refine wc_region ?_
  refine wl_val (v_assign' (by conv => (lhs; whnf))) rfl ?_
  refine wl_nil ?_
  refine then_go ?_
  refine wc_seq ?_
  refine wc_region ?_
  refine wl_call rfl (c_tempty st.im) rfl ?_
  rintro v8 w ⟨t8, m1, hg1, hi1, p1, rfl, hp1⟩
  have st := st.grown hg1 t8 hi1
  have ha := ha.mono hg1.le
  have hv := hv.mono hg1.le
  refine wl_val (v_assign' (by conv => (lhs; whnf))) rfl ?_
  refine wl_nil ?_
  refine then_go ?_
  refine wc_seq ?_
  refine wc_seq ?_
  refine wc_region ?_
  refine wl_val (v_move' (by conv => (lhs; whnf))) rfl ?_
  refine wl_val (v_len_s Try.underlying22 rfl) rfl ?_
  refine wl_val (v_move' (by conv => (lhs; whnf))) rfl ?_
  refine wl_nil ?_
  refine then_go ?_
  refine wc_block ?_
  refine wc_loop (S := Nat) (fun q r w' => ∃ (m2 : Mem) (i p : Nat), q + i = A.length ∧ r 1 = .slice a2 V.length c2 ∧ r 5 = ptrP p ∧ r 9 = .slice a1 A.length c1 ∧ r 10 = .int .i64 A.length ∧ r 11 = .int .i64 i ∧ DigM m2 (.slice a1 A.length c1) A ∧ DigM m2 (.slice a2 V.length c2) V ∧ TreeM m2 p (Tr.ofL ((A.zip V).take i)) ∧ St m m2 [] wI w' []) id A.length ⟨m1, 0, p1, by omega, rfl, rfl, rfl, rfl, rfl, ha, hv, hp1, st⟩ ?_
  rintro q r w2 ⟨m2, i, p, hqi, h1, h5, h9, h10, h11, ha, hv, hp, st⟩
  refine wc_o 1 h1 (wc_o 5 h5 (wc_o 9 h9 (wc_o 10 h10 (wc_o 11 h11 ?_))))
  refine wc_seq ?_
  refine wc_region ?_
  refine wl_val (v_lss rfl rfl) rfl ?_
  refine wl_nil ?_
  refine then_go ?_
  refine wc_seq ?_
  refine wc_if rfl (fun h12 => ?_) (fun h12 => ?_)
  · refine wc_skip ?_
    refine then_go ?_
    refine wc_seq ?_
    refine wc_block ?_
    refine wc_seq ?_
    have hi : i < A.length := by omega
    obtain ⟨ba, oa, hba⟩ := ha.ptr (by omega)
    subst hba
    refine wc_region ?_
    refine wl_val (v_move' (by conv => (lhs; whnf))) rfl ?_
    refine wl_val (v_ias i Try.underlying22 TF.t24 rfl rfl (by first | rfl | omega) (by first | omega | (dsimp only at *; omega))) rfl ?_
    refine wl_val (v_load rfl (ha.rd rfl hi rfl st.im)) rfl ?_
    refine wl_alloc TF.z24 st rfl ?_
    intro b7 w st
    refine wl_val (v_assign' (by conv => (lhs; whnf))) rfl ?_
    refine wl_storeW (cs := (bs A[i]).toArray) 0 st rfl TF.t24 rfl rfl (by simp [length_bs, ha.1.get hi]) rfl (fun u hu => one_bs _ u (by simpa using hu)) ?_
    intro w st
    refine wl_nil ?_
    refine then_go ?_
    refine wc_seq ?_
    refine wc_region ?_
    refine wl_val (v_move' (by conv => (lhs; whnf))) rfl ?_
    refine wl_val (v_move' (by conv => (lhs; whnf))) rfl ?_
    refine wl_val (v_len_s Try.underlying22 rfl) rfl ?_
    refine wl_val (v_lss rfl rfl) rfl ?_
    refine wl_nil ?_
    refine then_go ?_
    refine wc_if rfl (fun h19 => ?_) (fun h19 => ?_)
    · have hiv : i < V.length := by omega
      obtain ⟨bv, ov, hbv⟩ := hv.ptr (by omega)
      subst hbv
      refine wc_draw TF.mixed ?_
      have st := st.pure (touch_drew _)
      refine fl_val 0 rfl (fun _ => (v_move' (by conv => (lhs; whnf)))) rfl (by kernel_rfl) ?_
      refine fl_ld 1 rfl (v_load rfl (st.reads (v := arr A[i]) 0 rfl TF.t24 (getV_all (by simp [length_bs, ha.1.get hi])))) (by kernel_rfl) ?_
      refine fl_val 2 rfl (fun _ => (v_move' (by conv => (lhs; whnf)))) rfl (by kernel_rfl) ?_
      refine fl_val 3 rfl (fun _ => (v_move' (by conv => (lhs; whnf)))) rfl (by kernel_rfl) ?_
      refine fl_val 4 rfl (fun _ => (v_ias i Try.underlying22 TF.t24 rfl rfl (by first | rfl | omega) (by first | omega | (dsimp only at *; omega)))) rfl (by kernel_rfl) ?_
      refine fl_ld 5 rfl (v_load rfl (hv.rd rfl hiv rfl st.im)) (by kernel_rfl) ?_
      refine fl_eff1 6 [4, 3, 2] [] (by kernel_rfl) ⟨obl_ld rfl rfl rfl (v_load rfl (hv.rd rfl hiv rfl st.im)), obl_ld rfl rfl rfl (v_load rfl (st.reads (v := arr A[i]) 0 rfl TF.t24 (getV_all (by simp [length_bs, ha.1.get hi])))), trivial⟩ rfl ?_
      refine wl_call rfl (c_tput st.im hp (ha.1.get hi) (hv.1.get hiv) (hT i).1 (hT i).2.1 (hT i).2.2) rfl ?_
      rintro v26 w ⟨t26, m3, hg3, hi3, p3, rfl, hp3⟩
      have st := st.grown hg3 t26 hi3
      have ha := ha.mono hg3.le
      have hv := hv.mono hg3.le
      refine wl_nil ⟨rfl, ?_⟩
      refine fl_eff1 7 [] [] (by kernel_rfl) trivial rfl ?_
      refine wl_val (v_assign' (by conv => (lhs; whnf))) rfl ?_
      refine wl_nil ⟨rfl, ?_⟩
      refine fl_nil (by kernel_rfl) trivial ?_
      refine block_go (then_go ?_)
      refine wc_region ?_
      refine wl_val (v_add' rfl rfl rfl (by first | omega | (dsimp only at *; omega)) (by first | omega | (dsimp only at *; omega))) rfl ?_
      refine wl_val (v_move' (by conv => (lhs; whnf))) rfl ?_
      refine wl_nil ?_
      refine then_go ?_
      exact ⟨q - 1, by simp; omega, m3, i + 1, p3, by omega, rfl, rfl, rfl, rfl, rfl, ha, hv, by rw [zip_take_lt hi hiv, Tr.ofL_snoc]; exact hp3, st.keepOnly (List.nil_sublist _)⟩
    · refine wc_skip ?_
      refine block_go (then_go ?_)
      refine wc_region ?_
      refine wl_val (v_add' rfl rfl rfl (by first | omega | (dsimp only at *; omega)) (by first | omega | (dsimp only at *; omega))) rfl ?_
      refine wl_val (v_move' (by conv => (lhs; whnf))) rfl ?_
      refine wl_nil ?_
      refine then_go ?_
      exact ⟨q - 1, by simp; omega, m2, i + 1, p, by omega, rfl, rfl, rfl, rfl, rfl, ha, hv, by rw [zip_take_ge (by omega)]; exact hp, st.keepOnly (List.nil_sublist _)⟩
  · refine wc_exit (then_exit (then_exit (block_hit ?_)))
    refine then_go ?_
    refine wc_seq ?_
    refine wc_region ?_
    refine wl_val (v_move' (by conv => (lhs; whnf))) rfl ?_
    refine wl_val (v_assign' (by conv => (lhs; whnf))) rfl ?_
    refine wl_nil ?_
    refine then_go ?_
    refine wc_ret ?_
    have hiA : i = A.length := by omega
    subst hiA
    rw [List.take_of_length_le (by simp; omega)] at hp
    exact ret1 rfl (st.out ⟨p, rfl, hp⟩)
end

/-- The leaves whose bit is so. -/
def halfL (L : List (By × By)) (d : Int) (on : Bool) : List (By × By) := L.filter fun x => bitI x.1 d == on

theorem halfL_take {L : List (By × By)} {d : Int} {on : Bool} {i : Nat} (hi : i < L.length) : halfL (L.take (i + 1)) d on = halfL (L.take i) d on ++ (if (bitI L[i].1 d == on) = true then [L[i]] else []) := by
  unfold halfL
  rw [List.take_succ_eq_append_getElem hi, List.filter_append]
  simp only [List.filter_cons, List.filter_nil]

theorem halfL_le {L : List (By × By)} {d : Int} {on : Bool} : (halfL L d on).length ≤ L.length := List.length_filter_le _ _

section
variable {m : Mem} {wI : World}

theorem c_half {lv : Value} {L : List (By × By)} {d : Int} {on : Bool} (him : Im m wI) (hl : LvM m lv L) (hL : L.length ≤ 1099511627776) :
    Ret Try.prog 28 #[lv, .int .i64 d, .bool on] wI fun v w' => Out m wI w' fun m' => LvM m' v (halfL L d on) := by
  have st := St.start him
  obtain ⟨a1, c1, a2, c2, rfl, h1, h2⟩ := hl.open
  have hd1 : ∀ M : List (By × By), M ⊆ L → D32 (M.map (·.1)) := fun M hM x hx => by
    obtain ⟨y, hy, rfl⟩ := List.mem_map.1 hx
    exact h1.1 _ (List.mem_map.2 ⟨y, hM hy, rfl⟩)
  have hd2 : ∀ M : List (By × By), M ⊆ L → D32 (M.map (·.2)) := fun M hM x hx => by
    obtain ⟨y, hy, rfl⟩ := List.mem_map.1 hx
    exact h2.1 _ (List.mem_map.2 ⟨y, hM hy, rfl⟩)
  refine ret_of Try.call28 Try.func28 rfl Try.ntmps28 Try.results28 rfl ?_
  refine wc_seq ?_
  refine wc_region ?_
  refine wl_box (v := .agg #[.slice a1 L.length c1, .slice a2 L.length c2]) rfl st rfl ?_
  intro b3 w st
  refine wl_alloc TF.z30 st rfl ?_
  intro b6 w st
  refine wl_nil ?_
  refine then_go ?_
  refine wc_seq ?_
  refine wc_region ?_
  refine wl_val (v_build (c' := #[.slice none 0 0, .slice none 0 0]) [] TF.z30 TF.p30 rfl rfl) rfl ?_
  refine wl_alloc TF.z30 st rfl ?_
  intro b7 w st
  refine wl_storeW (cs := #[.slice none 0 0, .slice none 0 0]) 0 st rfl TF.t30 rfl rfl rfl rfl (by simp [Value.oneCell']) ?_
  intro w st
  refine wl_nil ?_
  refine then_go ?_
  refine wc_seq ?_
  refine wc_seq ?_
  refine wc_region ?_
  refine wl_val (v_assign' (by conv => (lhs; whnf))) rfl ?_
  refine wl_nil ?_
  refine then_go ?_
  refine wc_block ?_
  have st := st.nilDig.nilDig
  refine wc_loop (S := Nat) (fun q r w' => ∃ (i : Nat) (v1 v2 : Value), q + i = L.length ∧ r 1 = .int .i64 d ∧ r 2 = .bool on ∧ r 3 = .pointer (some ⟨b3, 0, none⟩) ∧ r 6 = .pointer (some ⟨b6, 0, none⟩) ∧ r 7 = .pointer (some ⟨b7, 0, none⟩) ∧ r 8 = .int .i64 i ∧ St m m [] wI w' [digE v1 ((halfL (L.take i) d on).map (·.1)), digE v2 ((halfL (L.take i) d on).map (·.2)), K.blk b7 #[v1, v2] 30, K.blk b6 #[.slice none 0 0, .slice none 0 0] 30, K.blk b3 #[.slice a1 L.length c1, .slice a2 L.length c2] 30]) id L.length ⟨0, _, _, by omega, rfl, rfl, rfl, rfl, rfl, rfl, st⟩ ?_
  rintro q r w2 ⟨i, v1, v2, hqi, g1, g2, g3, g6, g7, g8, st⟩
  refine wc_o 1 g1 (wc_o 2 g2 (wc_o 3 g3 (wc_o 6 g6 (wc_o 7 g7 (wc_o 8 g8 ?_)))))
  refine wc_seq ?_
  refine wc_seq ?_
  refine wc_region ?_
  refine wl_val (v_move' (by conv => (lhs; whnf))) rfl ?_
  refine wl_val (v_fa TF.f30_0 rfl) rfl ?_
  refine wl_val (v_load rfl (st.reads 4 rfl TF.t22 rfl)) rfl ?_
  refine wl_val (v_len_s Try.underlying22 rfl) rfl ?_
  refine wl_val (v_lss rfl rfl) rfl ?_
  refine wl_nil ?_
  refine then_go ?_
  refine wc_if rfl (fun h14 => ?_) (fun h14 => ?_)
  · refine wc_skip ?_
    refine then_go ?_
    refine wc_seq ?_
    refine wc_block ?_
    refine wc_seq ?_
    have hi : i < L.length := by omega
    have hm1 : i < (L.map (·.1)).length := by rw [List.length_map]; exact hi
    have hm2 : i < (L.map (·.2)).length := by rw [List.length_map]; exact hi
    have hle := halfL_le (L := L.take i) (d := d) (on := on)
    have htl : (L.take i).length ≤ L.length := by simp; omega
    have e1 : (L.map (·.1))[i] = L[i].1 := by simp
    have e2 : (L.map (·.2))[i] = L[i].2 := by simp
    have l1 : L[i].1.length = 32 := by rw [← e1]; exact h1.1.get hm1
    have l2 : L[i].2.length = 32 := by rw [← e2]; exact h2.1.get hm2
    have htk := halfL_take (d := d) (on := on) hi
    obtain ⟨ba, oa, hba⟩ := h1.ptr (by omega)
    obtain ⟨bv, ov, hbv⟩ := h2.ptr (by omega)
    subst hba
    subst hbv
    refine wc_region ?_
    refine wl_val (v_fa TF.f30_0 rfl) rfl ?_
    refine wl_val (v_load rfl (st.reads 4 rfl TF.t22 rfl)) rfl ?_
    refine wl_val (v_move' (by conv => (lhs; whnf))) rfl ?_
    refine wl_val (v_ias i Try.underlying22 TF.t24 rfl rfl (by first | rfl | omega) (by first | omega | (dsimp only at *; omega))) rfl ?_
    refine wl_val (v_load rfl (h1.rd rfl hm1 e1 st.im)) rfl ?_
    refine wl_val (v_move' (by conv => (lhs; whnf))) rfl ?_
    refine wl_call rfl (c_rbit st.im l1) rfl ?_
    rintro v23 w ⟨t23, rfl⟩
    have st := st.pure t23
    refine wl_val (v_move' (by conv => (lhs; whnf))) rfl ?_
    refine wl_val (v_eqb Try.underlying4 rfl rfl) rfl ?_
    refine wl_nil ?_
    refine then_go ?_
    refine wc_cond rfl (fun h25 => ?_) (fun h25 => ?_)
    · refine wc_seq ?_
      refine wc_draw TF.mixed ?_
      have st := st.pure (touch_drew _)
      refine fl_val 0 rfl (fun _ => (v_fa TF.f30_0 rfl)) rfl (by kernel_rfl) ?_
      refine fl_ld 1 rfl (v_load rfl (by first | exact st.reads 2 rfl TF.t22 rfl | exact st.reads 3 rfl TF.t22 rfl)) (by kernel_rfl) ?_
      refine fl_val 2 rfl (fun _ => (v_fa TF.f30_0 rfl)) rfl (by kernel_rfl) ?_
      refine fl_ld 3 rfl (v_load rfl (by first | exact st.reads 4 rfl TF.t22 rfl | exact st.reads 5 rfl TF.t22 rfl)) (by kernel_rfl) ?_
      refine fl_val 4 rfl (fun _ => (v_move' (by conv => (lhs; whnf)))) rfl (by kernel_rfl) ?_
      refine fl_val 5 rfl (fun _ => (v_ias i Try.underlying22 TF.t24 rfl rfl (by first | rfl | omega) (by first | omega | (dsimp only at *; omega)))) rfl (by kernel_rfl) ?_
      refine fl_ld 6 rfl (v_load rfl (h1.rd rfl hm1 e1 st.im)) (by kernel_rfl) ?_
      refine fl_eff1 7 [5, 4, 2, 0] [3, 1] (by kernel_rfl) ⟨obl_ld rfl rfl rfl (v_load rfl (h1.rd rfl hm1 e1 st.im)), obl_ld rfl rfl rfl (v_load rfl (by first | exact st.reads 4 rfl TF.t22 rfl | exact st.reads 5 rfl TF.t22 rfl)), obl_ld rfl rfl rfl (v_load rfl (by first | exact st.reads 2 rfl TF.t22 rfl | exact st.reads 3 rfl TF.t22 rfl)), trivial⟩ rfl ?_
      refine wl_digOne _ l1 rfl st rfl ?_
      intro b33 w st
      refine wl_nil ⟨rfl, ?_⟩
      refine fl_eff1 8 [5, 4, 2, 0] [3] (by kernel_rfl) ⟨obl_ld rfl rfl rfl (v_load rfl (by first | exact st.reads 4 rfl TF.t22 rfl | exact st.reads 5 rfl TF.t22 rfl)), obl_ld rfl rfl rfl (v_load rfl (by first | exact st.reads 2 rfl TF.t22 rfl | exact st.reads 3 rfl TF.t22 rfl)), trivial⟩ rfl ?_
      refine wl_digApp 0 st rfl l1 rfl rfl (by rw [List.length_map]; omega) rfl ?_
      intro v1' w st hv1
      refine wl_nil ⟨rfl, ?_⟩
      refine fl_val 9 rfl (fun _ => (v_fa TF.f30_0 rfl)) rfl (by kernel_rfl) ?_
      refine fl_eff1 10 [] [] (by kernel_rfl) ⟨obl_ld rfl rfl rfl (v_load rfl (by first | exact st.reads 4 rfl TF.t22 rfl | exact st.reads 5 rfl TF.t22 rfl)), trivial⟩ rfl ?_
      refine wl_store1 2 st rfl TF.t22 rfl (by conv => (lhs; whnf)) hv1 (by first | exact lt_ok rfl | decide | simp) ?_
      intro w st
      refine wl_nil ⟨rfl, ?_⟩
      refine fl_nil (by kernel_rfl) trivial ?_
      refine then_go ?_
      refine wc_draw TF.mixed ?_
      have st := st.pure (touch_drew _)
      refine fl_val 0 rfl (fun _ => (v_fa TF.f30_1 rfl)) rfl (by kernel_rfl) ?_
      refine fl_ld 1 rfl (v_load rfl (by first | exact st.reads 2 rfl TF.t22 rfl | exact st.reads 3 rfl TF.t22 rfl)) (by kernel_rfl) ?_
      refine fl_val 2 rfl (fun _ => (v_fa TF.f30_1 rfl)) rfl (by kernel_rfl) ?_
      refine fl_ld 3 rfl (v_load rfl (by first | exact st.reads 4 rfl TF.t22 rfl | exact st.reads 5 rfl TF.t22 rfl)) (by kernel_rfl) ?_
      refine fl_val 4 rfl (fun _ => (v_move' (by conv => (lhs; whnf)))) rfl (by kernel_rfl) ?_
      refine fl_val 5 rfl (fun _ => (v_ias i Try.underlying22 TF.t24 rfl rfl (by first | rfl | omega) (by first | omega | (dsimp only at *; omega)))) rfl (by kernel_rfl) ?_
      refine fl_ld 6 rfl (v_load rfl (h2.rd rfl hm2 e2 st.im)) (by kernel_rfl) ?_
      refine fl_eff1 7 [5, 4, 2, 0] [3, 1] (by kernel_rfl) ⟨obl_ld rfl rfl rfl (v_load rfl (h2.rd rfl hm2 e2 st.im)), obl_ld rfl rfl rfl (v_load rfl (by first | exact st.reads 4 rfl TF.t22 rfl | exact st.reads 5 rfl TF.t22 rfl)), obl_ld rfl rfl rfl (v_load rfl (by first | exact st.reads 2 rfl TF.t22 rfl | exact st.reads 3 rfl TF.t22 rfl)), trivial⟩ rfl ?_
      refine wl_digOne _ l2 rfl st rfl ?_
      intro b43 w st
      refine wl_nil ⟨rfl, ?_⟩
      refine fl_eff1 8 [5, 4, 2, 0] [3] (by kernel_rfl) ⟨obl_ld rfl rfl rfl (v_load rfl (by first | exact st.reads 4 rfl TF.t22 rfl | exact st.reads 5 rfl TF.t22 rfl)), obl_ld rfl rfl rfl (v_load rfl (by first | exact st.reads 2 rfl TF.t22 rfl | exact st.reads 3 rfl TF.t22 rfl)), trivial⟩ rfl ?_
      refine wl_digApp 1 st rfl l2 rfl rfl (by rw [List.length_map]; omega) rfl ?_
      intro v2' w st hv2
      refine wl_nil ⟨rfl, ?_⟩
      refine fl_val 9 rfl (fun _ => (v_fa TF.f30_1 rfl)) rfl (by kernel_rfl) ?_
      refine fl_eff1 10 [] [] (by kernel_rfl) ⟨obl_ld rfl rfl rfl (v_load rfl (by first | exact st.reads 4 rfl TF.t22 rfl | exact st.reads 5 rfl TF.t22 rfl)), trivial⟩ rfl ?_
      refine wl_store1 2 st rfl TF.t22 rfl (by conv => (lhs; whnf)) hv2 (by first | exact lt_ok rfl | decide | simp) ?_
      intro w st
      refine wl_nil ⟨rfl, ?_⟩
      refine fl_nil (by kernel_rfl) trivial ?_
      refine block_go (then_go ?_)
      refine wc_region ?_
      refine wl_val (v_move' (by conv => (lhs; whnf))) rfl ?_
      refine wl_val (v_add' rfl rfl rfl (by first | omega | (dsimp only at *; omega)) (by first | omega | (dsimp only at *; omega))) rfl ?_
      refine wl_val (v_assign' (by conv => (lhs; whnf))) rfl ?_
      refine wl_nil ?_
      refine then_go ?_
      rw [if_pos h25] at htk
      refine ⟨q - 1, by simp; omega, i + 1, v1', v2', by omega, rfl, rfl, rfl, rfl, rfl, rfl, ?_⟩
      rw [htk, List.map_append, List.map_append]
      exact st
    · refine wc_skip ?_
      refine block_go (then_go ?_)
      refine wc_region ?_
      refine wl_val (v_move' (by conv => (lhs; whnf))) rfl ?_
      refine wl_val (v_add' rfl rfl rfl (by first | omega | (dsimp only at *; omega)) (by first | omega | (dsimp only at *; omega))) rfl ?_
      refine wl_val (v_assign' (by conv => (lhs; whnf))) rfl ?_
      refine wl_nil ?_
      refine then_go ?_
      rw [if_neg (by rw [h25]; simp), List.append_nil] at htk
      refine ⟨q - 1, by simp; omega, i + 1, v1, v2, by omega, rfl, rfl, rfl, rfl, rfl, rfl, ?_⟩
      rw [htk]
      exact st
  · refine wc_exit (then_exit (then_exit (block_hit ?_)))
    refine then_go ?_
    refine wc_seq ?_
    refine wc_region ?_
    refine wl_val (v_load rfl (st.reads 2 rfl TF.t30 (getV_all rfl))) rfl ?_
    refine wl_storeW (cs := #[v1, v2]) 3 st rfl TF.t30 rfl rfl rfl rfl ?_ ?_
    · intro u hu
      simp at hu
      rcases hu with rfl | rfl
      · exact row_one (st.at (i := 0) rfl)
      · exact row_one (st.at (i := 1) rfl)
    intro w st
    refine wl_nil ?_
    refine then_go ?_
    refine wc_ret ?_
    have hiL : i = L.length := by omega
    subst hiL
    rw [List.take_length] at st
    have hrd := st.reads (v := .agg #[v1, v2]) 3 rfl TF.t30 (getV_all rfl)
    obtain ⟨m1, hg1, hq1, st⟩ := st.keepDig (i := 0) rfl (hd1 _ List.filter_sublist.subset)
    obtain ⟨m2, hg2, hq2, st⟩ := st.keepDig (i := 0) rfl (hd2 _ List.filter_sublist.subset)
    exact ret1c rfl hrd ((st.keepOnly (l := []) (List.nil_sublist _)).out ⟨_, _, rfl, hq1.mono hg2.le, hq2⟩)
end
end Go.Proofs.Ytkbmhhbclbgdpaa
