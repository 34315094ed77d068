/-
  Two ways that are the same are told to be; the tree's Prove and Get.
-/
import Derived.Test.YtkbmhhbclbgdpaaUh
namespace Go.Proofs.Ytkbmhhbclbgdpaa
open Go Go.RowKit K SH PT

section
variable {P : Program} {r : Fr} {w : World} {ty : TypeId}
theorem v_neqF {T U : TypeId} {x y : Operand} {k : IntKind} {a b : Int} (h : a = b) (hx : ev r x = .int k a) (hy : ev r y = .int k b) : Val P (.binOp .neq T x y U) ty r w (.bool false) w := by
  have := v_neq (P := P) (T := T) (U := U) (ty := ty) (w := w) hx hy
  rwa [decide_eq_false (not_not_intro h)] at this
theorem v_neqT {T U : TypeId} {x y : Operand} {k : IntKind} {a b : Int} (h : ¬ a = b) (hx : ev r x = .int k a) (hy : ev r y = .int k b) : Val P (.binOp .neq T x y U) ty r w (.bool true) w := by
  have := v_neq (P := P) (T := T) (U := U) (ty := ty) (w := w) hx hy
  rwa [decide_eq_true h] at this
end
theorem v_neDF {r : Fr} {w : World} {ty U : TypeId} {x y : Operand} {a : By} (hx : ev r x = arr a) (hy : ev r y = arr a) (ha : a.length = 32) : Val Try.prog (.binOp .neq 24 x y U) ty r w (.bool false) w := by
  have h := v_ne_arr (U := U) (ty := ty) (w := w) Try.underlying24 TF.t5 Try.underlying5 TF.e24 hx hy ha ha
  rwa [decide_eq_false (not_not_intro rfl)] at h
theorem v_eqDT {r : Fr} {w : World} {ty U : TypeId} {x y : Operand} {a : By} (hx : ev r x = arr a) (hy : ev r y = arr a) (ha : a.length = 32) : Val Try.prog (.binOp .eql 24 x y U) ty r w (.bool true) w := by
  have h := v_eq_arr (U := U) (ty := ty) (w := w) Try.underlying24 TF.t5 Try.underlying5 TF.e24 hx hy ha ha
  rwa [decide_eq_true rfl] at h
theorem v_neD {r : Fr} {w : World} {ty U : TypeId} {x y : Operand} {a b : By} (hx : ev r x = arr a) (hy : ev r y = arr b) (ha : a.length = 32) (hb : b.length = 32) : Val Try.prog (.binOp .neq 24 x y U) ty r w (.bool (decide (¬ a = b))) w :=
  v_ne_arr Try.underlying24 TF.t5 Try.underlying5 TF.e24 hx hy ha hb
theorem v_eqD {r : Fr} {w : World} {ty U : TypeId} {x y : Operand} {a b : By} (hx : ev r x = arr a) (hy : ev r y = arr b) (ha : a.length = 32) (hb : b.length = 32) : Val Try.prog (.binOp .eql 24 x y U) ty r w (.bool (decide (a = b))) w :=
  v_eq_arr Try.underlying24 TF.t5 Try.underlying5 TF.e24 hx hy ha hb

section
variable {m : Mem} {wI : World}

theorem c_sameproof {v1 v2 : Value} {p : Prf} (him : Im m wI) (h1 : PrM m v1 p) (h2 : PrM m v2 p) (hl : p.S.length ≤ 1099511627776) :
    Ret Try.prog 18 #[v1, v2] wI fun v' w' => Tch wI w' [] [] ∧ v' = .bool true := by
  have st := St.start him
  obtain ⟨s1, rfl, hs1, hI, hV⟩ := h1
  obtain ⟨s2, rfl, hs2, _, _⟩ := h2
  obtain ⟨a1, c1, rfl⟩ := hs1.sl
  obtain ⟨a2, c2, rfl⟩ := hs2.sl
  refine ret_of Try.call18 Try.func18 rfl Try.ntmps18 Try.results18 rfl ?_
  refine wc_seq ?_
  refine wc_region ?_
  refine wl_box (v := .agg (prC (.slice a1 p.S.length c1) p.E p.I p.V)) rfl st rfl ?_
  intro b2 w st
  refine wl_box (v := .agg (prC (.slice a2 p.S.length c2) p.E p.I p.V)) rfl st rfl ?_
  intro b3 w st
  refine wl_val (v_assign' (by conv => (lhs; whnf))) rfl ?_
  refine wl_nil ?_
  refine then_go ?_
  refine wc_seq ?_
  refine wc_seq ?_
  refine wc_region ?_
  refine wl_val (v_fa TF.f41_0 rfl) rfl ?_
  refine wl_val (v_load rfl (st.reads 1 rfl TF.t22 prC_S)) rfl ?_
  refine wl_val (v_len_s Try.underlying22 rfl) rfl ?_
  refine wl_val (v_fa TF.f41_0 rfl) rfl ?_
  refine wl_val (v_load rfl (st.reads 0 rfl TF.t22 prC_S)) rfl ?_
  refine wl_val (v_len_s Try.underlying22 rfl) rfl ?_
  refine wl_val (v_neqF (a := (p.S.length : Int)) (b := (p.S.length : Int)) rfl rfl rfl) rfl ?_
  refine wl_val (v_move' (by conv => (lhs; whnf))) rfl ?_
  refine wl_on rfl rfl ?_
  refine wl_val (v_fa TF.f41_1 rfl) rfl ?_
  refine wl_on rfl rfl ?_
  refine wl_val (v_load rfl (st.reads 1 rfl TF.t3 prC_E)) rfl ?_
  refine wl_on rfl rfl ?_
  refine wl_val (v_fa TF.f41_1 rfl) rfl ?_
  refine wl_on rfl rfl ?_
  refine wl_val (v_load rfl (st.reads 0 rfl TF.t3 prC_E)) rfl ?_
  refine wl_on rfl rfl ?_
  refine wl_val (v_neqF (a := p.E) (b := p.E) rfl rfl rfl) rfl ?_
  refine wl_val (v_pick rfl) rfl ?_
  refine wl_val (v_move' (by conv => (lhs; whnf))) rfl ?_
  refine wl_on rfl rfl ?_
  refine wl_val (v_fa TF.f41_2 rfl) rfl ?_
  refine wl_on rfl rfl ?_
  refine wl_val (v_load rfl (st.reads 1 rfl TF.t24 (prC_I hI))) rfl ?_
  refine wl_on rfl rfl ?_
  refine wl_val (v_fa TF.f41_2 rfl) rfl ?_
  refine wl_on rfl rfl ?_
  refine wl_val (v_load rfl (st.reads 0 rfl TF.t24 (prC_I hI))) rfl ?_
  refine wl_on rfl rfl ?_
  refine wl_val (v_neDF rfl rfl hI) rfl ?_
  refine wl_val (v_pick rfl) rfl ?_
  refine wl_val (v_move' (by conv => (lhs; whnf))) rfl ?_
  refine wl_on rfl rfl ?_
  refine wl_val (v_fa TF.f41_3 rfl) rfl ?_
  refine wl_on rfl rfl ?_
  refine wl_val (v_load rfl (st.reads 1 rfl TF.t24 (prC_V hI hV))) rfl ?_
  refine wl_on rfl rfl ?_
  refine wl_val (v_fa TF.f41_3 rfl) rfl ?_
  refine wl_on rfl rfl ?_
  refine wl_val (v_load rfl (st.reads 0 rfl TF.t24 (prC_V hI hV))) rfl ?_
  refine wl_on rfl rfl ?_
  refine wl_val (v_neDF rfl rfl hV) rfl ?_
  refine wl_val (v_pick rfl) rfl ?_
  refine wl_nil ?_
  refine then_go ?_
  refine wc_false rfl ?_
  refine wc_skip ?_
  refine then_go ?_
  refine wc_seq ?_
  refine wc_seq ?_
  refine wc_region ?_
  refine wl_val (v_assign' (by conv => (lhs; whnf))) rfl ?_
  refine wl_nil ?_
  refine then_go ?_
  refine wc_block ?_
  refine wc_loop (S := Nat) (fun q r w' => ∃ (i : Nat), q + i = p.S.length ∧ r 2 = .pointer (some ⟨b2, 0, none⟩) ∧ r 3 = .pointer (some ⟨b3, 0, none⟩) ∧ r 5 = .int .i64 i ∧
    St m m [] wI w' [K.blk b3 (prC (.slice a2 p.S.length c2) p.E p.I p.V) 41, K.blk b2 (prC (.slice a1 p.S.length c1) p.E p.I p.V) 41]) id p.S.length ⟨0, by omega, rfl, rfl, rfl, st⟩ ?_
  rintro q r w2 ⟨i, hqi, g2, g3, g5, st⟩
  refine wc_o 2 g2 (wc_o 3 g3 (wc_o 5 g5 ?_))
  refine wc_seq ?_
  refine wc_seq ?_
  refine wc_region ?_
  refine wl_val (v_move' (by conv => (lhs; whnf))) rfl ?_
  refine wl_val (v_fa TF.f41_0 rfl) rfl ?_
  refine wl_val (v_load rfl (st.reads 1 rfl TF.t22 prC_S)) rfl ?_
  refine wl_val (v_len_s Try.underlying22 rfl) rfl ?_
  refine wl_val (v_lss rfl rfl) rfl ?_
  refine wl_nil ?_
  refine then_go ?_
  refine wc_if rfl (fun h38 => ?_) (fun h38 => ?_)
  · refine wc_skip ?_
    refine then_go ?_
    refine wc_seq ?_
    refine wc_block ?_
    refine wc_seq ?_
    have hi : i < p.S.length := by omega
    obtain ⟨ba, oa, hba⟩ := hs1.ptr (by omega)
    obtain ⟨bv, ov, hbv⟩ := hs2.ptr (by omega)
    subst hba
    subst hbv
    refine wc_draw TF.mixed ?_
    have st := st.pure (touch_drew _)
    refine fl_val 0 rfl (fun _ => (v_fa TF.f41_0 rfl)) rfl (by kernel_rfl) ?_
    refine fl_ld 1 rfl (v_load rfl (st.reads 1 rfl TF.t22 prC_S)) (by kernel_rfl) ?_
    refine fl_val 2 rfl (fun _ => (v_move' (by conv => (lhs; whnf)))) rfl (by kernel_rfl) ?_
    refine fl_val 3 rfl (fun _ => (v_ias i Try.underlying22 TF.t24 rfl rfl (by first | rfl | omega) (by first | omega | (dsimp only at *; omega)))) rfl (by kernel_rfl) ?_
    refine fl_ld 4 rfl (v_load rfl (hs1.rd rfl hi rfl st.im)) (by kernel_rfl) ?_
    refine fl_val 5 rfl (fun _ => (v_fa TF.f41_0 rfl)) rfl (by kernel_rfl) ?_
    refine fl_ld 6 rfl (v_load rfl (st.reads 0 rfl TF.t22 prC_S)) (by kernel_rfl) ?_
    refine fl_val 7 rfl (fun _ => (v_move' (by conv => (lhs; whnf)))) rfl (by kernel_rfl) ?_
    refine fl_val 8 rfl (fun _ => (v_ias i Try.underlying22 TF.t24 rfl rfl (by first | rfl | omega) (by first | omega | (dsimp only at *; omega)))) rfl (by kernel_rfl) ?_
    refine fl_ld 9 rfl (v_load rfl (hs2.rd rfl hi rfl st.im)) (by kernel_rfl) ?_
    refine fl_val 10 rfl (fun _ => (v_neDF rfl rfl (hs1.1.get hi))) rfl (by kernel_rfl) ?_
    refine fl_nil (by kernel_rfl) ⟨obl_ld rfl rfl rfl (v_load rfl (hs2.rd rfl hi rfl st.im)), obl_ld rfl rfl rfl (v_load rfl (st.reads 0 rfl TF.t22 prC_S)), obl_ld rfl rfl rfl (v_load rfl (hs1.rd rfl hi rfl st.im)), obl_ld rfl rfl rfl (v_load rfl (st.reads 1 rfl TF.t22 prC_S)), trivial⟩ ?_
    refine then_go ?_
    refine wc_false rfl ?_
    refine wc_skip ?_
    refine block_go (then_go ?_)
    refine wc_region ?_
    refine wl_val (v_move' (by conv => (lhs; whnf))) rfl ?_
    refine wl_val (v_add' rfl rfl rfl (by first | omega | (dsimp only at *; omega)) (by first | omega | (dsimp only at *; omega))) rfl ?_
    refine wl_val (v_assign' (by conv => (lhs; whnf))) rfl ?_
    refine wl_nil ?_
    refine then_go ?_
    exact ⟨q - 1, by simp; omega, i + 1, by omega, rfl, rfl, rfl, st⟩
  · refine wc_exit (then_exit (then_exit (block_hit ?_)))
    refine then_go ?_
    refine wc_seq ?_
    refine wc_region ?_
    refine wl_val (v_assign' (by conv => (lhs; whnf))) rfl ?_
    refine wl_nil ?_
    refine then_go ?_
    refine wc_ret ?_
    exact ret1 rfl ⟨(st.keepOnly (l := []) (List.nil_sublist _)).touch, rfl⟩
end
end Go.Proofs.Ytkbmhhbclbgdpaa
