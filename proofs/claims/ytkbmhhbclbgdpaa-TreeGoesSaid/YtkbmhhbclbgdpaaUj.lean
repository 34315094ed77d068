/-
  The tree's Prove and Get.
-/
import Derived.Test.YtkbmhhbclbgdpaaUi
namespace Go.Proofs.Ytkbmhhbclbgdpaa
open Go Go.RowKit K SH PT

namespace Tr
def prvS (x : By) : Tr → Nat → List By
  | .f a b, d => if bit x d = true then a.root :: prvS x b (d + 1) else b.root :: prvS x a (d + 1)
  | .e, _ => []
  | .l _ _, _ => []
def prvE (x : By) : Tr → Nat → Tr
  | .f a b, d => if bit x d = true then prvE x b (d + 1) else prvE x a (d + 1)
  | .e, _ => .e
  | .l i v, _ => .l i v
def endT : Tr → Int × By × By
  | .l i v => (1, i, v)
  | _ => (0, z32, z32)
def prv (x : By) (t : Tr) : Prf := ⟨prvS x t 0, (endT (prvE x t 0)).1, (endT (prvE x t 0)).2.1, (endT (prvE x t 0)).2.2⟩
def flat : Tr → Prop
  | .f _ _ => False
  | _ => True

theorem flat_n {t : Tr} (ho : t.ok) : t.flat ↔ t.n < 2 := by
  cases t with
  | e => simp [flat, n]
  | l => simp [flat, n]
  | f a b =>
    have h2 : 2 ≤ a.n + b.n := ho.fork.1
    exact ⟨fun h => h.elim, fun h => by simp only [n] at h; omega⟩
theorem flat_ht {t : Tr} (h : t.ht = 0) : t.flat := by
  cases t with
  | f a b => simp [ht] at h
  | _ => trivial
theorem flat_S {x : By} {t : Tr} {d : Nat} (h : t.flat) : prvS x t d = [] := by cases t <;> first | rfl | exact h.elim
theorem flat_E {x : By} {t : Tr} {d : Nat} (h : t.flat) : prvE x t d = t := by cases t <;> first | rfl | exact h.elim
theorem flat_prvE {x : By} : ∀ {t : Tr} {d : Nat}, (prvE x t d).flat
  | .e, _ => trivial
  | .l _ _, _ => trivial
  | .f a b, d => by rw [prvE]; split; exact flat_prvE; exact flat_prvE
theorem length_prvS {x : By} : ∀ {t : Tr} {d : Nat}, (prvS x t d).length ≤ t.ht
  | .e, _ => by simp [prvS]
  | .l _ _, _ => by simp [prvS]
  | .f a b, d => by
    have h1 := length_prvS (x := x) (t := a) (d := d + 1)
    have h2 := length_prvS (x := x) (t := b) (d := d + 1)
    rw [prvS]; split <;> simp only [List.length_cons, ht] <;> omega
theorem d32_prvS {x : By} : ∀ {t : Tr} {d : Nat}, D32 (prvS x t d)
  | .e, _ => by simp [prvS, D32]
  | .l _ _, _ => by simp [prvS, D32]
  | .f a b, d => by
    rw [prvS]
    split <;> intro y hy <;> rcases List.mem_cons.1 hy with rfl | hy
    · exact length_root _
    · exact d32_prvS y hy
    · exact length_root _
    · exact d32_prvS y hy
end Tr

section
variable {m : Mem} {wI : World}

theorem c_tprove {p : Nat} {t : Tr} {x : By} (him : Im m wI) (h : TreeM m p t) (hx : x.length = 32) (hok : t.ok) (hh : t.ht ≤ 256) :
    Ret Try.prog 19 #[ptrP p, arr x] wI fun v w' => Out m wI w' fun m' => PrM m' v (Tr.prv x t) := by
  have st := St.start him
  have hl32 := Tr.d32_prvS (x := x) (t := t) (d := 0)
  have hlen := Tr.length_prvS (x := x) (t := t) (d := 0)
  have hflat := Tr.flat_prvE (x := x) (t := t) (d := 0)
  obtain ⟨SS, hSS⟩ : ∃ SS, SS = Tr.prvS x t 0 := ⟨_, rfl⟩
  obtain ⟨TE, hTE⟩ : ∃ TE, TE = Tr.prvE x t 0 := ⟨_, rfl⟩
  have hgoal : Tr.prv x t = ⟨SS, (Tr.endT TE).1, (Tr.endT TE).2.1, (Tr.endT TE).2.2⟩ := by rw [Tr.prv, hSS, hTE]
  rw [← hSS] at hl32 hlen
  rw [← hTE] at hflat
  refine ret_ofX Try.call19 Try.func19 rfl Try.ntmps19 Try.results19 rfl ?_
  refine wx_seqc ?_
  refine wc_region ?_
  refine wl_box (v := ptrP p) rfl st rfl ?_
  intro b2 w st
  refine wl_box (v := arr x) rfl st rfl ?_
  intro b3 w st
  refine wl_alloc TF.z41 st rfl ?_
  intro b4 w st
  refine wl_nil ?_
  refine then_go ?_
  refine wx_seqc ?_
  refine wc_region ?_
  refine wl_alloc TF.z41 st rfl ?_
  intro b5 w st
  have st : St m m [] wI w [K.blk b5 (prC (.slice none 0 0) 0 z32 z32) 41, K.blk b4 (prC (.slice none 0 0) 0 z32 z32) 41, K.blk b3 (arr x).cells 24, K.blk b2 #[ptrP p] 27] := st
  refine wl_nil ?_
  refine then_go ?_
  refine wx_cut (fun ds r w' => ∃ (D l : Nat) (o : Obj) (m' : Mem) (p' : Nat) (sv : Value), ds = [K.mark D] ∧ r 2 = .pointer (some ⟨b2, 0, none⟩) ∧ r 4 = .pointer (some ⟨b4, 0, none⟩) ∧ r 5 = .pointer (some ⟨b5, 0, none⟩) ∧ TreeM m' p' TE ∧ St m m' [] wI w' [objE l o, objE D (.deferred (some [])), digE sv SS, K.blk b5 (prC sv 0 z32 z32) 41, K.blk b4 (prC (.slice none 0 0) 0 z32 z32) 41, K.blk b3 (arr x).cells 24, K.blk b2 #[ptrP p'] 27]) ?_ ?_
  · refine wx_seqc ?_
    refine wc_region ?_
    refine wl_val (v_load rfl (st.reads 2 rfl TF.t24 (getV_all (by simp [arr, Value.cells, bs, hx])))) rfl ?_
    refine wl_call rfl (c_bits st.im) rfl ?_
    rintro v9 w ⟨b9, rfl, t9, hE⟩
    have st := st.new (E := K.blk b9 _ _) t9 hE
    obtain ⟨m1, hg1, hm1, st⟩ := st.freeze (i := 0) rfl (by simp)
    have h := h.mono hg1.le
    change St _ _ _ _ _ [_, _, _, _] at st
    have st := st.nilDig
    refine wl_nil ?_
    refine then_go ?_
    refine wx_block ?_
    refine wx_range (lb := [.pointer (some ⟨b9, 0, none⟩)]) rfl Try.call42 st ?_
    intro l D fn tmps rec w1 hrec htm hval st
    refine Calls.mono (c_bits1 (d := x) (l := l) (b1 := b9) hx
      (fun i W => ∃ (t' : Tr) (p' : Nat) (sv : Value) (S : List By), S ++ Tr.prvS x t' i = SS ∧ Tr.prvE x t' i = TE ∧ t'.ok ∧ t'.ht + i ≤ 256 ∧ TreeM m1 p' t' ∧ St m m1 [] wI W [objE l (.loop (rec .ready none)), objE D (.deferred (some [])), digE sv S, K.blk b5 (prC sv 0 z32 z32) 41, K.blk b4 (prC (.slice none 0 0) 0 z32 z32) 41, K.blk b3 (arr x).cells 24, K.blk b2 #[ptrP p'] 27])
      (fun _ W => ∃ (p' : Nat) (sv : Value), TreeM m1 p' TE ∧ St m m1 [] wI W [objE l (.loop (rec .done (some (.exit 0)))), objE D (.deferred (some [])), digE sv SS, K.blk b5 (prC sv 0 z32 z32) 41, K.blk b4 (prC (.slice none 0 0) 0 z32 z32) 41, K.blk b3 (arr x).cells 24, K.blk b2 #[ptrP p'] 27]) ?_ ?_ ⟨t, p, _, [], hSS.symm, hTE.symm, hok, by omega, h, st⟩).2 ?_
    · rintro i W ⟨_, _, _, _, _, _, _, _, _, st⟩
      exact st.readm hm1 TF.t24 (getV_all (by simp [arr, Value.cells, bs, hx]))
    rintro i W hi ⟨t', p', sv, S, hS, hTE', hok', hh', h', st⟩
    refine yield_round hrec (st.at (i := 0) rfl) rfl htm hval rfl ?_
    · refine wi_region (by kernel_rfl) (fun _ _ h => h) ?_
      refine wl_val (v_assign' (by conv => (lhs; whnf))) rfl ?_
      refine wl_nil ?_
      refine then_go ⟨st.at (i := 0) rfl, ?_⟩
      have st := st.putObj 0 (.loop (rec .busy none)) rfl
      have hSl : S.length ≤ 256 := by have := congrArg List.length hS; simp at this; omega
      refine wi_block ?_
      refine wi_seq ?_
      refine wi_seq ?_
      refine wi_region (by kernel_rfl) (fun _ _ h => h) ?_
      refine wl_val (v_load rfl (st.reads 6 rfl TF.t27 rfl)) rfl ?_
      refine wl_val (v_nil rfl) rfl ?_
      refine wl_val (v_fa TF.f56_0 rfl) rfl ?_
      refine wl_val (v_load rfl (h'.rdN st)) rfl ?_
      refine wl_val (v_lss rfl rfl) rfl ?_
      refine wl_nil ?_
      refine then_go ?_
      refine wi_if rfl (fun h16 => ?_) (fun h16 => ?_)
      · refine wi_exit (then_exit (block_miss rfl ?_))
        have hf : t'.flat := (Tr.flat_n hok').2 (by omega)
        rw [Tr.flat_S hf, List.append_nil] at hS
        rw [Tr.flat_E hf] at hTE'
        subst hS
        subst hTE'
        exact ⟨st.at (i := 0) rfl, .inr ⟨rfl, p', sv, h', st.putObj 0 _ rfl⟩⟩
      · refine wi_skip ?_
        refine then_go ?_
        refine wi_seq ?_
        obtain ⟨ta, tb, rfl⟩ : ∃ a b, t' = .f a b := by
          cases t' with
          | f a b => exact ⟨a, b, rfl⟩
          | _ => simp [Tr.n] at h16
        obtain ⟨h2n, hoka, hokb⟩ := hok'.fork
        obtain ⟨pa, pb, hpa, hpb, hm⟩ := h'.fork
        have hha : ta.ht + (i + 1) ≤ 256 := by simp only [Tr.ht] at hh'; omega
        have hhb : tb.ht + (i + 1) ≤ 256 := by simp only [Tr.ht] at hh'; omega
        rw [Tr.prvS] at hS
        rw [Tr.prvE] at hTE'
        refine wi_region (by kernel_rfl) (fun _ _ h => h) ?_
        refine wl_val (v_move' (by conv => (lhs; whnf))) rfl ?_
        refine wl_nil ?_
        refine then_go ?_
        refine wi_cond rfl (fun h17 => ?_) (fun h17 => ?_)
        · refine wi_draw TF.mixed (by kernel_rfl) (fun _ _ h => h) ?_
          have st := st.pure (touch_drew _)
          refine fl_val 0 rfl (fun _ => (v_fa TF.f41_0 rfl)) rfl (by kernel_rfl) ?_
          refine fl_ld 1 rfl (v_load rfl (by first | exact st.reads 3 rfl TF.t22 prC_S | exact st.reads 4 rfl TF.t22 prC_S)) (by kernel_rfl) ?_
          refine fl_ld 2 rfl (v_load rfl (by first | exact st.reads 6 rfl TF.t27 rfl | exact st.reads 7 rfl TF.t27 rfl)) (by kernel_rfl) ?_
          refine fl_val 3 rfl (fun _ => (v_nil rfl)) rfl (by kernel_rfl) ?_
          refine fl_val 4 rfl (fun _ => (v_fa TF.f56_3 rfl)) rfl (by kernel_rfl) ?_
          refine fl_ld 5 rfl (v_load rfl (rdLp hm st)) (by kernel_rfl) ?_
          refine fl_val 6 rfl (fun _ => (v_nil rfl)) rfl (by kernel_rfl) ?_
          refine fl_val 7 rfl (fun _ => (v_fa TF.f56_5 rfl)) rfl (by kernel_rfl) ?_
          refine fl_ld 8 rfl (v_load rfl (hpa.rdR st)) (by kernel_rfl) ?_
          refine fl_ld 11 rfl (v_load rfl (by first | exact st.reads 6 rfl TF.t27 rfl | exact st.reads 7 rfl TF.t27 rfl)) (by kernel_rfl) ?_
          refine fl_val 12 rfl (fun _ => (v_nil rfl)) rfl (by kernel_rfl) ?_
          refine fl_val 13 rfl (fun _ => (v_fa TF.f56_4 rfl)) rfl (by kernel_rfl) ?_
          refine fl_ld 14 rfl (v_load rfl (rdRp hm st)) (by kernel_rfl) ?_
          refine fl_eff1 9 [13, 12, 7, 6, 4, 3, 0] [14, 11, 5, 2, 1] (by kernel_rfl) ⟨obl_ld rfl rfl rfl (v_load rfl (rdRp hm st)), obl_ld rfl rfl rfl (v_load rfl (by first | exact st.reads 6 rfl TF.t27 rfl | exact st.reads 7 rfl TF.t27 rfl)), obl_ld rfl rfl rfl (v_load rfl (hpa.rdR st)), obl_ld rfl rfl rfl (v_load rfl (rdLp hm st)), obl_ld rfl rfl rfl (v_load rfl (by first | exact st.reads 6 rfl TF.t27 rfl | exact st.reads 7 rfl TF.t27 rfl)), obl_ld rfl rfl rfl (v_load rfl (by first | exact st.reads 3 rfl TF.t22 prC_S | exact st.reads 4 rfl TF.t22 prC_S)), trivial⟩ rfl ?_
          refine wl_digOne _ (length_root ta) rfl st rfl ?_
          intro b27 w st
          refine wl_nil ⟨rfl, ?_⟩
          refine fl_eff1 10 [13, 12, 7, 6, 4, 3, 0] [14, 11, 5, 2] (by kernel_rfl) ⟨obl_ld rfl rfl rfl (v_load rfl (rdRp hm st)), obl_ld rfl rfl rfl (v_load rfl (by first | exact st.reads 6 rfl TF.t27 rfl | exact st.reads 7 rfl TF.t27 rfl)), obl_ld rfl rfl rfl (v_load rfl (rdLp hm st)), obl_ld rfl rfl rfl (v_load rfl (by first | exact st.reads 6 rfl TF.t27 rfl | exact st.reads 7 rfl TF.t27 rfl)), obl_ld rfl rfl rfl (v_load rfl (by first | exact st.reads 3 rfl TF.t22 prC_S | exact st.reads 4 rfl TF.t22 prC_S)), trivial⟩ rfl ?_
          refine wl_digApp 2 st rfl (length_root ta) rfl rfl (by omega) rfl ?_
          intro sv' w st hsv
          refine wl_nil ⟨rfl, ?_⟩
          refine fl_val 15 rfl (fun _ => (v_fa TF.f41_0 rfl)) rfl (by kernel_rfl) ?_
          refine fl_eff1 16 [13, 12] [14, 11] (by kernel_rfl) ⟨obl_ld rfl rfl rfl (v_load rfl (rdRp hm st)), obl_ld rfl rfl rfl (v_load rfl (by first | exact st.reads 6 rfl TF.t27 rfl | exact st.reads 7 rfl TF.t27 rfl)), obl_ld rfl rfl rfl (v_load rfl (rdLp hm st)), obl_ld rfl rfl rfl (v_load rfl (by first | exact st.reads 6 rfl TF.t27 rfl | exact st.reads 7 rfl TF.t27 rfl)), trivial⟩ rfl ?_
          refine wl_store1 3 st rfl TF.t22 rfl (by conv => (lhs; whnf)) hsv (by first | exact lt_ok rfl | decide | simp) ?_
          intro w st
          refine wl_nil ⟨rfl, ?_⟩
          refine fl_eff1 17 [] [] (by kernel_rfl) ⟨obl_ld rfl rfl rfl (v_load rfl (rdRp hm st)), obl_ld rfl rfl rfl (v_load rfl (by first | exact st.reads 6 rfl TF.t27 rfl | exact st.reads 7 rfl TF.t27 rfl)), trivial⟩ rfl ?_
          refine wl_store1 6 st rfl TF.t27 rfl (by conv => (lhs; whnf)) rfl (by first | exact lt_ok rfl | decide | simp) ?_
          intro w st
          refine wl_nil ⟨rfl, ?_⟩
          refine fl_nil (by kernel_rfl) trivial ?_
          refine block_go ?_
          rw [if_pos h17] at hS hTE'
          exact ⟨st.at (i := 0) rfl, .inl ⟨rfl, tb, pb, sv', S ++ [ta.root], by rw [List.append_assoc]; exact hS, hTE', hokb, hhb, hpb, st.putObj 0 _ rfl⟩⟩
        · refine wi_draw TF.mixed (by kernel_rfl) (fun _ _ h => h) ?_
          have st := st.pure (touch_drew _)
          refine fl_val 0 rfl (fun _ => (v_fa TF.f41_0 rfl)) rfl (by kernel_rfl) ?_
          refine fl_ld 1 rfl (v_load rfl (by first | exact st.reads 3 rfl TF.t22 prC_S | exact st.reads 4 rfl TF.t22 prC_S)) (by kernel_rfl) ?_
          refine fl_ld 2 rfl (v_load rfl (by first | exact st.reads 6 rfl TF.t27 rfl | exact st.reads 7 rfl TF.t27 rfl)) (by kernel_rfl) ?_
          refine fl_val 3 rfl (fun _ => (v_nil rfl)) rfl (by kernel_rfl) ?_
          refine fl_val 4 rfl (fun _ => (v_fa TF.f56_4 rfl)) rfl (by kernel_rfl) ?_
          refine fl_ld 5 rfl (v_load rfl (rdRp hm st)) (by kernel_rfl) ?_
          refine fl_val 6 rfl (fun _ => (v_nil rfl)) rfl (by kernel_rfl) ?_
          refine fl_val 7 rfl (fun _ => (v_fa TF.f56_5 rfl)) rfl (by kernel_rfl) ?_
          refine fl_ld 8 rfl (v_load rfl (hpb.rdR st)) (by kernel_rfl) ?_
          refine fl_ld 11 rfl (v_load rfl (by first | exact st.reads 6 rfl TF.t27 rfl | exact st.reads 7 rfl TF.t27 rfl)) (by kernel_rfl) ?_
          refine fl_val 12 rfl (fun _ => (v_nil rfl)) rfl (by kernel_rfl) ?_
          refine fl_val 13 rfl (fun _ => (v_fa TF.f56_3 rfl)) rfl (by kernel_rfl) ?_
          refine fl_ld 14 rfl (v_load rfl (rdLp hm st)) (by kernel_rfl) ?_
          refine fl_eff1 9 [13, 12, 7, 6, 4, 3, 0] [14, 11, 5, 2, 1] (by kernel_rfl) ⟨obl_ld rfl rfl rfl (v_load rfl (rdLp hm st)), obl_ld rfl rfl rfl (v_load rfl (by first | exact st.reads 6 rfl TF.t27 rfl | exact st.reads 7 rfl TF.t27 rfl)), obl_ld rfl rfl rfl (v_load rfl (hpb.rdR st)), obl_ld rfl rfl rfl (v_load rfl (rdRp hm st)), obl_ld rfl rfl rfl (v_load rfl (by first | exact st.reads 6 rfl TF.t27 rfl | exact st.reads 7 rfl TF.t27 rfl)), obl_ld rfl rfl rfl (v_load rfl (by first | exact st.reads 3 rfl TF.t22 prC_S | exact st.reads 4 rfl TF.t22 prC_S)), trivial⟩ rfl ?_
          refine wl_digOne _ (length_root tb) rfl st rfl ?_
          intro b27 w st
          refine wl_nil ⟨rfl, ?_⟩
          refine fl_eff1 10 [13, 12, 7, 6, 4, 3, 0] [14, 11, 5, 2] (by kernel_rfl) ⟨obl_ld rfl rfl rfl (v_load rfl (rdLp hm st)), obl_ld rfl rfl rfl (v_load rfl (by first | exact st.reads 6 rfl TF.t27 rfl | exact st.reads 7 rfl TF.t27 rfl)), obl_ld rfl rfl rfl (v_load rfl (rdRp hm st)), obl_ld rfl rfl rfl (v_load rfl (by first | exact st.reads 6 rfl TF.t27 rfl | exact st.reads 7 rfl TF.t27 rfl)), obl_ld rfl rfl rfl (v_load rfl (by first | exact st.reads 3 rfl TF.t22 prC_S | exact st.reads 4 rfl TF.t22 prC_S)), trivial⟩ rfl ?_
          refine wl_digApp 2 st rfl (length_root tb) rfl rfl (by omega) rfl ?_
          intro sv' w st hsv
          refine wl_nil ⟨rfl, ?_⟩
          refine fl_val 15 rfl (fun _ => (v_fa TF.f41_0 rfl)) rfl (by kernel_rfl) ?_
          refine fl_eff1 16 [13, 12] [14, 11] (by kernel_rfl) ⟨obl_ld rfl rfl rfl (v_load rfl (rdLp hm st)), obl_ld rfl rfl rfl (v_load rfl (by first | exact st.reads 6 rfl TF.t27 rfl | exact st.reads 7 rfl TF.t27 rfl)), obl_ld rfl rfl rfl (v_load rfl (rdRp hm st)), obl_ld rfl rfl rfl (v_load rfl (by first | exact st.reads 6 rfl TF.t27 rfl | exact st.reads 7 rfl TF.t27 rfl)), trivial⟩ rfl ?_
          refine wl_store1 3 st rfl TF.t22 rfl (by conv => (lhs; whnf)) hsv (by first | exact lt_ok rfl | decide | simp) ?_
          intro w st
          refine wl_nil ⟨rfl, ?_⟩
          refine fl_eff1 17 [] [] (by kernel_rfl) ⟨obl_ld rfl rfl rfl (v_load rfl (rdLp hm st)), obl_ld rfl rfl rfl (v_load rfl (by first | exact st.reads 6 rfl TF.t27 rfl | exact st.reads 7 rfl TF.t27 rfl)), trivial⟩ rfl ?_
          refine wl_store1 6 st rfl TF.t27 rfl (by conv => (lhs; whnf)) rfl (by first | exact lt_ok rfl | decide | simp) ?_
          intro w st
          refine wl_nil ⟨rfl, ?_⟩
          refine fl_nil (by kernel_rfl) trivial ?_
          refine block_go ?_
          rw [if_neg (by rw [h17]; simp)] at hS hTE'
          exact ⟨st.at (i := 0) rfl, .inl ⟨rfl, ta, pa, sv', S ++ [tb.root], by rw [List.append_assoc]; exact hS, hTE', hoka, hha, hpa, st.putObj 0 _ rfl⟩⟩
    rintro e W ⟨v, rfl, ⟨t', p', sv, S, hS, hTE', hok', hh', h', st⟩ | ⟨i, hi, p', sv, h', st⟩⟩
    · have st2 := st.putObj 0 (.loop (rec .exhausted none)) rfl
      have hf := Tr.flat_ht (t := t') (by omega)
      rw [Tr.flat_S hf, List.append_nil] at hS
      rw [Tr.flat_E hf] at hTE'
      subst hS
      subst hTE'
      exact ⟨v, rfl, .ready, none, by simp, st.at (i := 0) rfl, D, l, _, m1, p', sv, rfl, rfl, rfl, rfl, h', st2⟩
    · have st2 := st.putObj 0 (.loop (rec .exhausted (some (.exit 0)))) rfl
      exact ⟨v, rfl, .done, some (.exit 0), by simp, st.at (i := 0) rfl, wx_exit (blockx_hit ⟨D, l, _, m1, p', sv, rfl, rfl, rfl, rfl, h', st2⟩)⟩
  · rintro ds r w ⟨D, l, o, m', p', sv, rfl, g2, g4, g5, h', st⟩
    refine wx_of_wc (wc_o 2 g2 (wc_o 4 g4 (wc_o 5 g5 ?_)))
    refine wc_seq ?_
    refine wc_seq ?_
    have hcase : (∃ i v, TE = .l i v) ∨ TE = .e := by
      cases TE with
      | e => exact .inr rfl
      | l i v => exact .inl ⟨i, v, rfl⟩
      | f a b => exact hflat.elim
    rcases hcase with ⟨yi, yv, rfl⟩ | rfl
    · refine wc_region ?_
      refine wl_val (v_load rfl (st.reads 6 rfl TF.t27 rfl)) rfl ?_
      refine wl_val (v_nil rfl) rfl ?_
      refine wl_val (v_fa TF.f56_0 rfl) rfl ?_
      refine wl_val (v_load rfl (h'.rdN st)) rfl ?_
      refine wl_val (v_eqlT (a := ((Tr.n (.l yi yv) : Nat) : Int)) rfl rfl rfl) rfl ?_
      refine wl_nil ?_
      refine then_go ?_
      refine wc_true rfl ?_
      refine wc_draw TF.mixed ?_
      have st := st.pure (touch_drew _)
      refine fl_ld 0 rfl (v_load rfl (st.reads 6 rfl TF.t27 rfl)) (by kernel_rfl) ?_
      refine fl_val 1 rfl (fun _ => (v_nil rfl)) rfl (by kernel_rfl) ?_
      refine fl_val 2 rfl (fun _ => (v_fa TF.f56_1 rfl)) rfl (by kernel_rfl) ?_
      refine fl_ld 3 rfl (v_load rfl (h'.rdI st)) (by kernel_rfl) ?_
      refine fl_ld 4 rfl (v_load rfl (st.reads 6 rfl TF.t27 rfl)) (by kernel_rfl) ?_
      refine fl_val 5 rfl (fun _ => (v_nil rfl)) rfl (by kernel_rfl) ?_
      refine fl_val 6 rfl (fun _ => (v_fa TF.f56_2 rfl)) rfl (by kernel_rfl) ?_
      refine fl_ld 7 rfl (v_load rfl (h'.rdV st)) (by kernel_rfl) ?_
      refine fl_val 8 rfl (fun _ => (v_fa TF.f41_1 rfl)) rfl (by kernel_rfl) ?_
      refine fl_eff1 9 [6, 5, 2, 1] [7, 4, 3, 0] (by kernel_rfl) ⟨obl_ld rfl rfl rfl (v_load rfl (h'.rdV st)), obl_ld rfl rfl rfl (v_load rfl (st.reads 6 rfl TF.t27 rfl)), obl_ld rfl rfl rfl (v_load rfl (h'.rdI st)), obl_ld rfl rfl rfl (v_load rfl (st.reads 6 rfl TF.t27 rfl)), trivial⟩ rfl ?_
      refine wl_store1 3 st rfl TF.t3 rfl (by conv => (lhs; whnf)) rfl (by first | exact lt_ok rfl | decide | simp) ?_
      intro w st
      rw [set_prE] at st
      refine wl_nil ⟨rfl, ?_⟩
      refine fl_val 10 rfl (fun _ => (v_fa TF.f41_2 rfl)) rfl (by kernel_rfl) ?_
      refine fl_eff1 11 [6, 5] [7, 4] (by kernel_rfl) ⟨obl_ld rfl rfl rfl (v_load rfl (h'.rdV st)), obl_ld rfl rfl rfl (v_load rfl (st.reads 6 rfl TF.t27 rfl)), obl_ld rfl rfl rfl (v_load rfl (h'.rdI st)), obl_ld rfl rfl rfl (v_load rfl (st.reads 6 rfl TF.t27 rfl)), trivial⟩ rfl ?_
      refine wl_store (v := arr yi) 3 st rfl TF.t24 rfl rfl (by rw [size_arr, h'.leaf.1]) (fun u hu => one_bs _ u (by simpa [arr, Value.cells] using hu)) (by rw [size_prC rfl rfl]; decide) ?_
      intro w st
      rw [show (arr yi).cells.toList = bs yi by simp [arr, Value.cells], set_prI rfl h'.leaf.1] at st
      refine wl_nil ⟨rfl, ?_⟩
      refine fl_val 12 rfl (fun _ => (v_fa TF.f41_3 rfl)) rfl (by kernel_rfl) ?_
      refine fl_eff1 13 [] [] (by kernel_rfl) ⟨obl_ld rfl rfl rfl (v_load rfl (h'.rdV st)), obl_ld rfl rfl rfl (v_load rfl (st.reads 6 rfl TF.t27 rfl)), trivial⟩ rfl ?_
      refine wl_store (v := arr yv) 3 st rfl TF.t24 rfl rfl (by rw [size_arr, h'.leaf.2.1]) (fun u hu => one_bs _ u (by simpa [arr, Value.cells] using hu)) (by rw [size_prC h'.leaf.1 rfl]; decide) ?_
      intro w st
      rw [show (arr yv).cells.toList = bs yv by simp [arr, Value.cells], set_prV h'.leaf.1 rfl h'.leaf.2.1] at st
      refine wl_nil ⟨rfl, ?_⟩
      refine fl_nil (by kernel_rfl) trivial ?_
      refine then_go ?_
      refine wc_seq ?_
      refine wc_region ?_
      refine wl_val (v_load rfl (st.reads (v := .agg (prC sv 1 yi yv)) 3 rfl TF.t41 (getV_all (size_prC h'.leaf.1 h'.leaf.2.1)))) rfl ?_
      refine wl_storeW (cs := prC sv 1 yi yv) 4 st rfl TF.t41 rfl rfl (size_prC h'.leaf.1 h'.leaf.2.1) rfl (one_prC (row_one (st.at (i := 2) rfl))) ?_
      intro w st
      refine wl_nil ?_
      refine then_go ?_
      refine wc_ret ?_
      have hD := st.at (i := 1) rfl
      have st := st.putObj 1 (.deferred none) rfl
      have hrd := st.reads (v := .agg (prC sv 1 yi yv)) 4 rfl TF.t41 (getV_all (size_prC h'.leaf.1 h'.leaf.2.1))
      obtain ⟨m2, hg2, hq2, st⟩ := st.keepDig (i := 2) rfl hl32
      refine retX1 hD (ret1c rfl hrd ((st.keepOnly (l := []) (List.nil_sublist _)).out ?_))
      rw [hgoal]
      exact ⟨sv, rfl, hq2, h'.leaf.1, h'.leaf.2.1⟩
    · refine wc_region ?_
      refine wl_val (v_load rfl (st.reads 6 rfl TF.t27 rfl)) rfl ?_
      refine wl_val (v_nil rfl) rfl ?_
      refine wl_val (v_fa TF.f56_0 rfl) rfl ?_
      refine wl_val (v_load rfl (h'.rdN st)) rfl ?_
      refine wl_val (v_eqlF (a := ((Tr.n .e : Nat) : Int)) (by simp [Tr.n]) rfl rfl) rfl ?_
      refine wl_nil ?_
      refine then_go ?_
      refine wc_false rfl ?_
      refine wc_skip ?_
      refine then_go ?_
      refine wc_seq ?_
      refine wc_region ?_
      refine wl_val (v_load rfl (st.reads (v := .agg (prC sv 0 z32 z32)) 3 rfl TF.t41 (getV_all rfl))) rfl ?_
      refine wl_storeW (cs := prC sv 0 z32 z32) 4 st rfl TF.t41 rfl rfl rfl rfl (one_prC (row_one (st.at (i := 2) rfl))) ?_
      intro w st
      refine wl_nil ?_
      refine then_go ?_
      refine wc_ret ?_
      have hD := st.at (i := 1) rfl
      have st := st.putObj 1 (.deferred none) rfl
      have hrd := st.reads (v := .agg (prC sv 0 z32 z32)) 4 rfl TF.t41 (getV_all rfl)
      obtain ⟨m2, hg2, hq2, st⟩ := st.keepDig (i := 2) rfl hl32
      refine retX1 hD (ret1c rfl hrd ((st.keepOnly (l := []) (List.nil_sublist _)).out ?_))
      rw [hgoal]
      exact ⟨sv, rfl, hq2, rfl, rfl⟩
end
end Go.Proofs.Ytkbmhhbclbgdpaa
