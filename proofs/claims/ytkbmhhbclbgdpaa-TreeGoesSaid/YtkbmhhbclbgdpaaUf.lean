/-
  The reference's leaves: Put, Of, Get.
-/
import Derived.Test.YtkbmhhbclbgdpaaUe
namespace Go.Proofs.Ytkbmhhbclbgdpaa
open Go Go.RowKit K SH PT

def putG (x v : By) : List (By × By) → Bool → List (By × By)
  | [], b => if b = true then [] else [(x, v)]
  | e :: l, b => (if b = false ∧ lt e.1 x = false then [(x, v)] else []) ++ ((if e.1 = x then [] else [e]) ++ putG x v l (b || !lt e.1 x))
def putL (x v : By) (L : List (By × By)) : List (By × By) := putG x v L false

theorem mem_putG {x v : By} {y : By × By} : ∀ {l : List (By × By)} {b : Bool}, y ∈ putG x v l b → y = (x, v) ∨ y ∈ l
  | [], b, h => by unfold putG at h; split at h <;> simp at h; exact .inl h
  | e :: l, b, h => by
    unfold putG at h
    rcases List.mem_append.1 h with h | h
    · split at h <;> simp at h
      exact .inl h
    · rcases List.mem_append.1 h with h | h
      · split at h <;> simp at h
        exact .inr (by simp [h])
      · rcases mem_putG h with h | h
        · exact .inl h
        · exact .inr (by simp [h])

theorem length_putG {x v : By} : ∀ {l : List (By × By)} {b : Bool}, (putG x v l b).length ≤ l.length + (if b = true then 0 else 1)
  | [], b => by unfold putG; cases b <;> simp
  | e :: l, b => by
    unfold putG
    have h := length_putG (x := x) (v := v) (l := l) (b := b || !lt e.1 x)
    simp only [List.length_append, List.length_cons]
    have h1 : (if e.1 = x then ([] : List (By × By)) else [e]).length ≤ 1 := by split <;> simp
    cases b <;> cases hl : lt e.1 x <;> simp [hl] at h ⊢ <;> omega

def D32p (L : List (By × By)) : Prop := ∀ x ∈ L, x.1.length = 32 ∧ x.2.length = 32
theorem D32p.fst {L : List (By × By)} (h : D32p L) : D32 (L.map (·.1)) := fun x hx => by
  obtain ⟨y, hy, rfl⟩ := List.mem_map.1 hx
  exact (h y hy).1
theorem D32p.snd {L : List (By × By)} (h : D32p L) : D32 (L.map (·.2)) := fun x hx => by
  obtain ⟨y, hy, rfl⟩ := List.mem_map.1 hx
  exact (h y hy).2
theorem D32p.of {L : List (By × By)} (h1 : D32 (L.map (·.1))) (h2 : D32 (L.map (·.2))) : D32p L := fun x hx => ⟨h1 _ (List.mem_map.2 ⟨x, hx, rfl⟩), h2 _ (List.mem_map.2 ⟨x, hx, rfl⟩)⟩
theorem LvM.d32 {m : Mem} {v : Value} {L : List (By × By)} (h : LvM m v L) : D32p L := by
  obtain ⟨_, _, _, h1, h2⟩ := h
  exact .of h1.1 h2.1
theorem D32p.put {x v : By} {L : List (By × By)} (h : D32p L) (hx : x.length = 32) (hv : v.length = 32) : D32p (putL x v L) := fun y hy => by
  rcases mem_putG hy with rfl | hy
  · exact ⟨hx, hv⟩
  · exact h y hy

section
variable {m : Mem} {wI : World}

theorem c_rput {lv : Value} {L : List (By × By)} {x v : By} (him : Im m wI) (hl : LvM m lv L) (hx : x.length = 32) (hv : v.length = 32) (hL : L.length < 1099511627000) :
    Ret Try.prog 26 #[lv, arr x, arr v] wI fun v' w' => Out m wI w' fun m' => LvM m' v' (putL x v L) := by
  have st := St.start him
  have hd := hl.d32
  obtain ⟨a1, c1, a2, c2, rfl, h1, h2⟩ := hl.open
  have hlp := length_putG (x := x) (v := v) (l := L) (b := false)
  simp only [Bool.false_eq_true, if_false] at hlp
  refine ret_of Try.call26 Try.func26 rfl Try.ntmps26 Try.results26 rfl ?_
  refine wc_seq ?_
  refine wc_region ?_
  refine wl_box (v := .agg #[.slice a1 L.length c1, .slice a2 L.length c2]) rfl st rfl ?_
  intro b3 w st
  refine wl_box (v := arr x) rfl st rfl ?_
  intro b4 w st
  refine wl_box (v := arr v) rfl st rfl ?_
  intro b5 w st
  refine wl_alloc TF.z30 st rfl ?_
  intro b6 w st
  refine wl_nil ?_
  refine then_go ?_
  refine wc_seq ?_
  refine wc_region ?_
  refine wl_val (v_build (c' := #[.slice none 0 0, .slice none 0 0]) [] TF.z30 TF.p30 rfl rfl) rfl ?_
  refine wl_alloc TF.z30 st rfl ?_
  intro b7 w st
  refine wl_storeW (cs := #[.slice none 0 0, .slice none 0 0]) 0 st rfl TF.t30 rfl rfl rfl rfl (by simp [Value.oneCell']) ?_
  intro w st
  refine wl_nil ?_
  refine then_go ?_
  refine wc_seq ?_
  refine wc_region ?_
  refine wl_val (v_assign' (by conv => (lhs; whnf))) rfl ?_
  refine wl_nil ?_
  refine then_go ?_
  refine wc_seq ?_
  refine wc_seq ?_
  refine wc_region ?_
  refine wl_val (v_assign' (by conv => (lhs; whnf))) rfl ?_
  refine wl_nil ?_
  refine then_go ?_
  refine wc_block ?_
  have st := st.nilDig.nilDig
  refine wc_loop (S := Nat) (fun q r w' => ∃ (i : Nat) (fl : Bool) (out : List (By × By)) (v1 v2 : Value), q + i = L.length ∧ r 3 = .pointer (some ⟨b3, 0, none⟩) ∧ r 4 = .pointer (some ⟨b4, 0, none⟩) ∧ r 5 = .pointer (some ⟨b5, 0, none⟩) ∧ r 6 = .pointer (some ⟨b6, 0, none⟩) ∧ r 7 = .pointer (some ⟨b7, 0, none⟩) ∧ r 8 = .bool fl ∧ r 9 = .int .i64 i ∧ out ++ putG x v (L.drop i) fl = putG x v L false ∧
    St m m [] wI w' [digE v1 (out.map (·.1)), digE v2 (out.map (·.2)), K.blk b7 #[v1, v2] 30, K.blk b6 #[.slice none 0 0, .slice none 0 0] 30, K.blk b5 (arr v).cells 24, K.blk b4 (arr x).cells 24, K.blk b3 #[.slice a1 L.length c1, .slice a2 L.length c2] 30]) id L.length ⟨0, false, [], _, _, by omega, rfl, rfl, rfl, rfl, rfl, rfl, rfl, rfl, st⟩ ?_
  rintro q r w2 ⟨i, fl, out, v1, v2, hqi, g3, g4, g5, g6, g7, g8, g9, hG, st⟩
  refine wc_o 3 g3 (wc_o 4 g4 (wc_o 5 g5 (wc_o 6 g6 (wc_o 7 g7 (wc_o 8 g8 (wc_o 9 g9 ?_))))))
  have hol : out.length ≤ L.length + 1 := by
    have := congrArg List.length hG
    simp only [List.length_append] at this
    omega
  have hof : (out.map (·.1)).length ≤ L.length + 1 := by rw [List.length_map]; exact hol
  have hos : (out.map (·.2)).length ≤ L.length + 1 := by rw [List.length_map]; exact hol
  refine wc_seq ?_
  refine wc_seq ?_
  refine wc_region ?_
  refine wl_val (v_move' (by conv => (lhs; whnf))) rfl ?_
  refine wl_val (v_fa TF.f30_0 rfl) rfl ?_
  refine wl_val (v_load rfl (st.reads 6 rfl TF.t22 rfl)) rfl ?_
  refine wl_val (v_len_s Try.underlying22 rfl) rfl ?_
  refine wl_val (v_lss rfl rfl) rfl ?_
  refine wl_nil ?_
  refine then_go ?_
  refine wc_if rfl (fun h15 => ?_) (fun h15 => ?_)
  · refine wc_skip ?_
    refine then_go ?_
    refine wc_seq ?_
    refine wc_block ?_
    refine wc_seq ?_
    refine wc_seq ?_
    have hi : i < L.length := by omega
    have hm1 : i < (L.map (·.1)).length := by rw [List.length_map]; exact hi
    have hm2 : i < (L.map (·.2)).length := by rw [List.length_map]; exact hi
    have e1 : (L.map (·.1))[i] = L[i].1 := by simp
    have e2 : (L.map (·.2))[i] = L[i].2 := by simp
    have l1 : L[i].1.length = 32 := (hd _ (List.getElem_mem hi)).1
    have l2 : L[i].2.length = 32 := (hd _ (List.getElem_mem hi)).2
    rw [List.drop_eq_getElem_cons hi, putG] at hG
    obtain ⟨ba, oa, hba⟩ := h1.ptr (by omega)
    obtain ⟨bv, ov, hbv⟩ := h2.ptr (by omega)
    subst hba
    subst hbv
    rcases fl with _ | _
    · refine wc_draw TF.mixed ?_
      have st := st.pure (touch_drew _)
      refine fl_val 0 rfl (fun _ => (v_move' (by conv => (lhs; whnf)))) rfl (by kernel_rfl) ?_
      refine fl_val 1 rfl (fun _ => (v_not rfl)) rfl (by kernel_rfl) ?_
      refine fl_val 2 rfl (fun _ => (v_move' (by conv => (lhs; whnf)))) rfl (by kernel_rfl) ?_
      refine fl_on 3 rfl rfl rfl rfl (fun _ => (v_fa TF.f30_0 rfl)) rfl (by kernel_rfl) ?_
      refine fl_ond 4 rfl rfl rfl rfl (v_load rfl (st.reads 6 rfl TF.t22 rfl)) rfl (by kernel_rfl) ?_
      refine fl_on 5 rfl rfl rfl rfl (fun _ => (v_move' (by conv => (lhs; whnf)))) rfl (by kernel_rfl) ?_
      refine fl_on 6 rfl rfl rfl rfl (fun _ => (v_ias i Try.underlying22 TF.t24 rfl rfl (by first | rfl | omega) (by first | omega | (dsimp only at *; omega)))) rfl (by kernel_rfl) ?_
      refine fl_ond 7 rfl rfl rfl rfl (v_load rfl (h1.rd rfl hm1 e1 st.im)) rfl (by kernel_rfl) ?_
      refine fl_ond 8 rfl rfl rfl rfl (v_load rfl (st.reads 5 rfl TF.t24 (getV_all (by rw [size_arr, hx])))) rfl (by kernel_rfl) ?_
      refine fl_eff1 9 [6, 5, 3, 1, 0] [4] (by kernel_rfl) ⟨obl_on rfl rfl rfl rfl rfl (v_load rfl (st.reads 5 rfl TF.t24 (getV_all (by rw [size_arr, hx])))), obl_on rfl rfl rfl rfl rfl (v_load rfl (h1.rd rfl hm1 e1 st.im)), obl_on rfl rfl rfl rfl rfl (v_load rfl (st.reads 6 rfl TF.t22 rfl)), trivial⟩ rfl ?_
      refine wl_on rfl rfl ?_
      refine wl_call rfl (c_less st.im l1 hx) rfl ?_
      rintro v27 w ⟨t27, rfl⟩
      have st := st.pure t27
      refine wl_nil ⟨rfl, ?_⟩
      refine fl_on 10 rfl rfl rfl rfl (fun _ => (v_not rfl)) rfl (by kernel_rfl) ?_
      refine fl_val 11 rfl (fun _ => (v_pick rfl)) rfl (by kernel_rfl) ?_
      refine fl_nil (by kernel_rfl) ⟨obl_on rfl rfl rfl rfl rfl (v_load rfl (st.reads 6 rfl TF.t22 rfl)), trivial⟩ ?_
      refine then_go ?_
      refine wc_cond rfl (fun h29 => ?_) (fun h29 => ?_)
      · refine wc_seq ?_
        refine wc_region ?_
        refine wl_val (v_fa TF.f30_0 rfl) rfl ?_
        refine wl_val (v_load rfl (st.reads 2 rfl TF.t22 rfl)) rfl ?_
        refine wl_val (v_load rfl (st.reads 5 rfl TF.t24 (getV_all (by rw [size_arr, hx])))) rfl ?_
        refine wl_digOne _ hx rfl st rfl ?_
        intro b33 w st
        refine wl_digApp 0 st rfl hx rfl rfl (by omega) rfl ?_
        intro v1 w st hv1
        refine wl_val (v_fa TF.f30_0 rfl) rfl ?_
        refine wl_store1 2 st rfl TF.t22 rfl (by conv => (lhs; whnf)) hv1 (by first | exact lt_ok rfl | decide | simp) ?_
        intro w st
        refine wl_nil ?_
        refine then_go ?_
        refine wc_seq ?_
        refine wc_region ?_
        refine wl_val (v_fa TF.f30_1 rfl) rfl ?_
        refine wl_val (v_load rfl (st.reads 2 rfl TF.t22 rfl)) rfl ?_
        refine wl_val (v_load rfl (st.reads 4 rfl TF.t24 (getV_all (by rw [size_arr, hv])))) rfl ?_
        refine wl_digOne _ hv rfl st rfl ?_
        intro b33 w st
        refine wl_digApp 1 st rfl hv rfl rfl (by omega) rfl ?_
        intro v2 w st hv2
        refine wl_val (v_fa TF.f30_1 rfl) rfl ?_
        refine wl_store1 2 st rfl TF.t22 rfl (by conv => (lhs; whnf)) hv2 (by first | exact lt_ok rfl | decide | simp) ?_
        intro w st
        refine wl_nil ?_
        refine then_go ?_
        refine wc_region ?_
        refine wl_val (v_assign' (by conv => (lhs; whnf))) rfl ?_
        refine wl_nil ?_
        refine then_go ?_
        refine wc_seq ?_
        refine wc_draw TF.mixed ?_
        have st := st.pure (touch_drew _)
        refine fl_val 0 rfl (fun _ => (v_fa TF.f30_0 rfl)) rfl (by kernel_rfl) ?_
        refine fl_ld 1 rfl (v_load rfl (st.reads 6 rfl TF.t22 rfl)) (by kernel_rfl) ?_
        refine fl_val 2 rfl (fun _ => (v_move' (by conv => (lhs; whnf)))) rfl (by kernel_rfl) ?_
        refine fl_val 3 rfl (fun _ => (v_ias i Try.underlying22 TF.t24 rfl rfl (by first | rfl | omega) (by first | omega | (dsimp only at *; omega)))) rfl (by kernel_rfl) ?_
        refine fl_ld 4 rfl (v_load rfl (h1.rd rfl hm1 e1 st.im)) (by kernel_rfl) ?_
        refine fl_ld 5 rfl (v_load rfl (st.reads 5 rfl TF.t24 (getV_all (by rw [size_arr, hx])))) (by kernel_rfl) ?_
        refine fl_val 6 rfl (fun _ => (v_ne_arr Try.underlying24 TF.t5 Try.underlying5 TF.e24 rfl rfl l1 hx)) rfl (by kernel_rfl) ?_
        refine fl_nil (by kernel_rfl) ⟨obl_ld rfl rfl rfl (v_load rfl (st.reads 5 rfl TF.t24 (getV_all (by rw [size_arr, hx])))), obl_ld rfl rfl rfl (v_load rfl (h1.rd rfl hm1 e1 st.im)), obl_ld rfl rfl rfl (v_load rfl (st.reads 6 rfl TF.t22 rfl)), trivial⟩ ?_
        refine then_go ?_
        refine wc_if rfl (fun h48 => ?_) (fun h48 => ?_)
        · refine wc_seq ?_
          refine wc_draw TF.mixed ?_
          have st := st.pure (touch_drew _)
          refine fl_val 0 rfl (fun _ => (v_fa TF.f30_0 rfl)) rfl (by kernel_rfl) ?_
          refine fl_ld 1 rfl (v_load rfl (by first | exact st.reads 2 rfl TF.t22 rfl | exact st.reads 3 rfl TF.t22 rfl)) (by kernel_rfl) ?_
          refine fl_val 2 rfl (fun _ => (v_fa TF.f30_0 rfl)) rfl (by kernel_rfl) ?_
          refine fl_ld 3 rfl (v_load rfl (by first | exact st.reads 6 rfl TF.t22 rfl | exact st.reads 7 rfl TF.t22 rfl)) (by kernel_rfl) ?_
          refine fl_val 4 rfl (fun _ => (v_move' (by conv => (lhs; whnf)))) rfl (by kernel_rfl) ?_
          refine fl_val 5 rfl (fun _ => (v_ias i Try.underlying22 TF.t24 rfl rfl (by first | rfl | omega) (by first | omega | (dsimp only at *; omega)))) rfl (by kernel_rfl) ?_
          refine fl_ld 6 rfl (v_load rfl (h1.rd rfl hm1 e1 st.im)) (by kernel_rfl) ?_
          refine fl_eff1 7 [5, 4, 2, 0] [3, 1] (by kernel_rfl) ⟨obl_ld rfl rfl rfl (v_load rfl (h1.rd rfl hm1 e1 st.im)), obl_ld rfl rfl rfl (v_load rfl (by first | exact st.reads 6 rfl TF.t22 rfl | exact st.reads 7 rfl TF.t22 rfl)), obl_ld rfl rfl rfl (v_load rfl (by first | exact st.reads 2 rfl TF.t22 rfl | exact st.reads 3 rfl TF.t22 rfl)), trivial⟩ rfl ?_
          refine wl_digOne _ l1 rfl st rfl ?_
          intro b33 w st
          refine wl_nil ⟨rfl, ?_⟩
          refine fl_eff1 8 [5, 4, 2, 0] [3] (by kernel_rfl) ⟨obl_ld rfl rfl rfl (v_load rfl (by first | exact st.reads 6 rfl TF.t22 rfl | exact st.reads 7 rfl TF.t22 rfl)), obl_ld rfl rfl rfl (v_load rfl (by first | exact st.reads 2 rfl TF.t22 rfl | exact st.reads 3 rfl TF.t22 rfl)), trivial⟩ rfl ?_
          refine wl_digApp 0 st rfl l1 rfl rfl (by first | omega | (simp only [List.length_append, List.length_cons, List.length_nil]; omega)) rfl ?_
          intro v1 w st hv1
          refine wl_nil ⟨rfl, ?_⟩
          refine fl_val 9 rfl (fun _ => (v_fa TF.f30_0 rfl)) rfl (by kernel_rfl) ?_
          refine fl_eff1 10 [] [] (by kernel_rfl) ⟨obl_ld rfl rfl rfl (v_load rfl (by first | exact st.reads 6 rfl TF.t22 rfl | exact st.reads 7 rfl TF.t22 rfl)), trivial⟩ rfl ?_
          refine wl_store1 2 st rfl TF.t22 rfl (by conv => (lhs; whnf)) hv1 (by first | exact lt_ok rfl | decide | simp) ?_
          intro w st
          refine wl_nil ⟨rfl, ?_⟩
          refine fl_nil (by kernel_rfl) trivial ?_
          refine then_go ?_
          refine wc_draw TF.mixed ?_
          have st := st.pure (touch_drew _)
          refine fl_val 0 rfl (fun _ => (v_fa TF.f30_1 rfl)) rfl (by kernel_rfl) ?_
          refine fl_ld 1 rfl (v_load rfl (by first | exact st.reads 2 rfl TF.t22 rfl | exact st.reads 3 rfl TF.t22 rfl)) (by kernel_rfl) ?_
          refine fl_val 2 rfl (fun _ => (v_fa TF.f30_1 rfl)) rfl (by kernel_rfl) ?_
          refine fl_ld 3 rfl (v_load rfl (by first | exact st.reads 6 rfl TF.t22 rfl | exact st.reads 7 rfl TF.t22 rfl)) (by kernel_rfl) ?_
          refine fl_val 4 rfl (fun _ => (v_move' (by conv => (lhs; whnf)))) rfl (by kernel_rfl) ?_
          refine fl_val 5 rfl (fun _ => (v_ias i Try.underlying22 TF.t24 rfl rfl (by first | rfl | omega) (by first | omega | (dsimp only at *; omega)))) rfl (by kernel_rfl) ?_
          refine fl_ld 6 rfl (v_load rfl (h2.rd rfl hm2 e2 st.im)) (by kernel_rfl) ?_
          refine fl_eff1 7 [5, 4, 2, 0] [3, 1] (by kernel_rfl) ⟨obl_ld rfl rfl rfl (v_load rfl (h2.rd rfl hm2 e2 st.im)), obl_ld rfl rfl rfl (v_load rfl (by first | exact st.reads 6 rfl TF.t22 rfl | exact st.reads 7 rfl TF.t22 rfl)), obl_ld rfl rfl rfl (v_load rfl (by first | exact st.reads 2 rfl TF.t22 rfl | exact st.reads 3 rfl TF.t22 rfl)), trivial⟩ rfl ?_
          refine wl_digOne _ l2 rfl st rfl ?_
          intro b33 w st
          refine wl_nil ⟨rfl, ?_⟩
          refine fl_eff1 8 [5, 4, 2, 0] [3] (by kernel_rfl) ⟨obl_ld rfl rfl rfl (v_load rfl (by first | exact st.reads 6 rfl TF.t22 rfl | exact st.reads 7 rfl TF.t22 rfl)), obl_ld rfl rfl rfl (v_load rfl (by first | exact st.reads 2 rfl TF.t22 rfl | exact st.reads 3 rfl TF.t22 rfl)), trivial⟩ rfl ?_
          refine wl_digApp 1 st rfl l2 rfl rfl (by first | omega | (simp only [List.length_append, List.length_cons, List.length_nil]; omega)) rfl ?_
          intro v2 w st hv2
          refine wl_nil ⟨rfl, ?_⟩
          refine fl_val 9 rfl (fun _ => (v_fa TF.f30_1 rfl)) rfl (by kernel_rfl) ?_
          refine fl_eff1 10 [] [] (by kernel_rfl) ⟨obl_ld rfl rfl rfl (v_load rfl (by first | exact st.reads 6 rfl TF.t22 rfl | exact st.reads 7 rfl TF.t22 rfl)), trivial⟩ rfl ?_
          refine wl_store1 2 st rfl TF.t22 rfl (by conv => (lhs; whnf)) hv2 (by first | exact lt_ok rfl | decide | simp) ?_
          intro w st
          refine wl_nil ⟨rfl, ?_⟩
          refine fl_nil (by kernel_rfl) trivial ?_
          refine block_go (then_go ?_)
          refine wc_region ?_
          refine wl_val (v_move' (by conv => (lhs; whnf))) rfl ?_
          refine wl_val (v_add' rfl rfl rfl (by first | omega | (dsimp only at *; omega)) (by first | omega | (dsimp only at *; omega))) rfl ?_
          refine wl_val (v_assign' (by conv => (lhs; whnf))) rfl ?_
          refine wl_nil ?_
          refine then_go ?_
          have hlt : lt L[i].1 x = false := by simpa using h29
          rw [if_pos ⟨rfl, hlt⟩, if_neg h48, hlt] at hG
          refine ⟨q - 1, by simp; omega, i + 1, true, out ++ [(x, v)] ++ [L[i]], v1, v2, by omega, rfl, rfl, rfl, rfl, rfl, rfl, rfl, by simpa [List.append_assoc] using hG, ?_⟩
          simp only [List.map_append, List.map_cons, List.map_nil]
          exact st
        · refine wc_skip ?_
          refine block_go (then_go ?_)
          refine wc_region ?_
          refine wl_val (v_move' (by conv => (lhs; whnf))) rfl ?_
          refine wl_val (v_add' rfl rfl rfl (by first | omega | (dsimp only at *; omega)) (by first | omega | (dsimp only at *; omega))) rfl ?_
          refine wl_val (v_assign' (by conv => (lhs; whnf))) rfl ?_
          refine wl_nil ?_
          refine then_go ?_
          have hlt : lt L[i].1 x = false := by simpa using h29
          rw [if_pos ⟨rfl, hlt⟩, if_pos (Decidable.not_not.1 h48), hlt] at hG
          refine ⟨q - 1, by simp; omega, i + 1, true, out ++ [(x, v)], v1, v2, by omega, rfl, rfl, rfl, rfl, rfl, rfl, rfl, by simpa [List.append_assoc] using hG, ?_⟩
          simp only [List.map_append, List.map_cons, List.map_nil]
          exact st
      · refine wc_skip ?_
        refine then_go ?_
        refine wc_seq ?_
        refine wc_draw TF.mixed ?_
        have st := st.pure (touch_drew _)
        refine fl_val 0 rfl (fun _ => (v_fa TF.f30_0 rfl)) rfl (by kernel_rfl) ?_
        refine fl_ld 1 rfl (v_load rfl (st.reads 6 rfl TF.t22 rfl)) (by kernel_rfl) ?_
        refine fl_val 2 rfl (fun _ => (v_move' (by conv => (lhs; whnf)))) rfl (by kernel_rfl) ?_
        refine fl_val 3 rfl (fun _ => (v_ias i Try.underlying22 TF.t24 rfl rfl (by first | rfl | omega) (by first | omega | (dsimp only at *; omega)))) rfl (by kernel_rfl) ?_
        refine fl_ld 4 rfl (v_load rfl (h1.rd rfl hm1 e1 st.im)) (by kernel_rfl) ?_
        refine fl_ld 5 rfl (v_load rfl (st.reads 5 rfl TF.t24 (getV_all (by rw [size_arr, hx])))) (by kernel_rfl) ?_
        refine fl_val 6 rfl (fun _ => (v_ne_arr Try.underlying24 TF.t5 Try.underlying5 TF.e24 rfl rfl l1 hx)) rfl (by kernel_rfl) ?_
        refine fl_nil (by kernel_rfl) ⟨obl_ld rfl rfl rfl (v_load rfl (st.reads 5 rfl TF.t24 (getV_all (by rw [size_arr, hx])))), obl_ld rfl rfl rfl (v_load rfl (h1.rd rfl hm1 e1 st.im)), obl_ld rfl rfl rfl (v_load rfl (st.reads 6 rfl TF.t22 rfl)), trivial⟩ ?_
        refine then_go ?_
        refine wc_if rfl (fun h48 => ?_) (fun h48 => ?_)
        · refine wc_seq ?_
          refine wc_draw TF.mixed ?_
          have st := st.pure (touch_drew _)
          refine fl_val 0 rfl (fun _ => (v_fa TF.f30_0 rfl)) rfl (by kernel_rfl) ?_
          refine fl_ld 1 rfl (v_load rfl (by first | exact st.reads 2 rfl TF.t22 rfl | exact st.reads 3 rfl TF.t22 rfl)) (by kernel_rfl) ?_
          refine fl_val 2 rfl (fun _ => (v_fa TF.f30_0 rfl)) rfl (by kernel_rfl) ?_
          refine fl_ld 3 rfl (v_load rfl (by first | exact st.reads 6 rfl TF.t22 rfl | exact st.reads 7 rfl TF.t22 rfl)) (by kernel_rfl) ?_
          refine fl_val 4 rfl (fun _ => (v_move' (by conv => (lhs; whnf)))) rfl (by kernel_rfl) ?_
          refine fl_val 5 rfl (fun _ => (v_ias i Try.underlying22 TF.t24 rfl rfl (by first | rfl | omega) (by first | omega | (dsimp only at *; omega)))) rfl (by kernel_rfl) ?_
          refine fl_ld 6 rfl (v_load rfl (h1.rd rfl hm1 e1 st.im)) (by kernel_rfl) ?_
          refine fl_eff1 7 [5, 4, 2, 0] [3, 1] (by kernel_rfl) ⟨obl_ld rfl rfl rfl (v_load rfl (h1.rd rfl hm1 e1 st.im)), obl_ld rfl rfl rfl (v_load rfl (by first | exact st.reads 6 rfl TF.t22 rfl | exact st.reads 7 rfl TF.t22 rfl)), obl_ld rfl rfl rfl (v_load rfl (by first | exact st.reads 2 rfl TF.t22 rfl | exact st.reads 3 rfl TF.t22 rfl)), trivial⟩ rfl ?_
          refine wl_digOne _ l1 rfl st rfl ?_
          intro b33 w st
          refine wl_nil ⟨rfl, ?_⟩
          refine fl_eff1 8 [5, 4, 2, 0] [3] (by kernel_rfl) ⟨obl_ld rfl rfl rfl (v_load rfl (by first | exact st.reads 6 rfl TF.t22 rfl | exact st.reads 7 rfl TF.t22 rfl)), obl_ld rfl rfl rfl (v_load rfl (by first | exact st.reads 2 rfl TF.t22 rfl | exact st.reads 3 rfl TF.t22 rfl)), trivial⟩ rfl ?_
          refine wl_digApp 0 st rfl l1 rfl rfl (by first | omega | (simp only [List.length_append, List.length_cons, List.length_nil]; omega)) rfl ?_
          intro v1 w st hv1
          refine wl_nil ⟨rfl, ?_⟩
          refine fl_val 9 rfl (fun _ => (v_fa TF.f30_0 rfl)) rfl (by kernel_rfl) ?_
          refine fl_eff1 10 [] [] (by kernel_rfl) ⟨obl_ld rfl rfl rfl (v_load rfl (by first | exact st.reads 6 rfl TF.t22 rfl | exact st.reads 7 rfl TF.t22 rfl)), trivial⟩ rfl ?_
          refine wl_store1 2 st rfl TF.t22 rfl (by conv => (lhs; whnf)) hv1 (by first | exact lt_ok rfl | decide | simp) ?_
          intro w st
          refine wl_nil ⟨rfl, ?_⟩
          refine fl_nil (by kernel_rfl) trivial ?_
          refine then_go ?_
          refine wc_draw TF.mixed ?_
          have st := st.pure (touch_drew _)
          refine fl_val 0 rfl (fun _ => (v_fa TF.f30_1 rfl)) rfl (by kernel_rfl) ?_
          refine fl_ld 1 rfl (v_load rfl (by first | exact st.reads 2 rfl TF.t22 rfl | exact st.reads 3 rfl TF.t22 rfl)) (by kernel_rfl) ?_
          refine fl_val 2 rfl (fun _ => (v_fa TF.f30_1 rfl)) rfl (by kernel_rfl) ?_
          refine fl_ld 3 rfl (v_load rfl (by first | exact st.reads 6 rfl TF.t22 rfl | exact st.reads 7 rfl TF.t22 rfl)) (by kernel_rfl) ?_
          refine fl_val 4 rfl (fun _ => (v_move' (by conv => (lhs; whnf)))) rfl (by kernel_rfl) ?_
          refine fl_val 5 rfl (fun _ => (v_ias i Try.underlying22 TF.t24 rfl rfl (by first | rfl | omega) (by first | omega | (dsimp only at *; omega)))) rfl (by kernel_rfl) ?_
          refine fl_ld 6 rfl (v_load rfl (h2.rd rfl hm2 e2 st.im)) (by kernel_rfl) ?_
          refine fl_eff1 7 [5, 4, 2, 0] [3, 1] (by kernel_rfl) ⟨obl_ld rfl rfl rfl (v_load rfl (h2.rd rfl hm2 e2 st.im)), obl_ld rfl rfl rfl (v_load rfl (by first | exact st.reads 6 rfl TF.t22 rfl | exact st.reads 7 rfl TF.t22 rfl)), obl_ld rfl rfl rfl (v_load rfl (by first | exact st.reads 2 rfl TF.t22 rfl | exact st.reads 3 rfl TF.t22 rfl)), trivial⟩ rfl ?_
          refine wl_digOne _ l2 rfl st rfl ?_
          intro b33 w st
          refine wl_nil ⟨rfl, ?_⟩
          refine fl_eff1 8 [5, 4, 2, 0] [3] (by kernel_rfl) ⟨obl_ld rfl rfl rfl (v_load rfl (by first | exact st.reads 6 rfl TF.t22 rfl | exact st.reads 7 rfl TF.t22 rfl)), obl_ld rfl rfl rfl (v_load rfl (by first | exact st.reads 2 rfl TF.t22 rfl | exact st.reads 3 rfl TF.t22 rfl)), trivial⟩ rfl ?_
          refine wl_digApp 1 st rfl l2 rfl rfl (by first | omega | (simp only [List.length_append, List.length_cons, List.length_nil]; omega)) rfl ?_
          intro v2 w st hv2
          refine wl_nil ⟨rfl, ?_⟩
          refine fl_val 9 rfl (fun _ => (v_fa TF.f30_1 rfl)) rfl (by kernel_rfl) ?_
          refine fl_eff1 10 [] [] (by kernel_rfl) ⟨obl_ld rfl rfl rfl (v_load rfl (by first | exact st.reads 6 rfl TF.t22 rfl | exact st.reads 7 rfl TF.t22 rfl)), trivial⟩ rfl ?_
          refine wl_store1 2 st rfl TF.t22 rfl (by conv => (lhs; whnf)) hv2 (by first | exact lt_ok rfl | decide | simp) ?_
          intro w st
          refine wl_nil ⟨rfl, ?_⟩
          refine fl_nil (by kernel_rfl) trivial ?_
          refine block_go (then_go ?_)
          refine wc_region ?_
          refine wl_val (v_move' (by conv => (lhs; whnf))) rfl ?_
          refine wl_val (v_add' rfl rfl rfl (by first | omega | (dsimp only at *; omega)) (by first | omega | (dsimp only at *; omega))) rfl ?_
          refine wl_val (v_assign' (by conv => (lhs; whnf))) rfl ?_
          refine wl_nil ?_
          refine then_go ?_
          have hlt : lt L[i].1 x = true := by simpa using h29
          rw [if_neg (by rw [hlt]; simp), if_neg h48, hlt] at hG
          refine ⟨q - 1, by simp; omega, i + 1, false, out ++ [L[i]], v1, v2, by omega, rfl, rfl, rfl, rfl, rfl, rfl, rfl, by simpa [List.append_assoc] using hG, ?_⟩
          simp only [List.map_append, List.map_cons, List.map_nil]
          exact st
        · refine wc_skip ?_
          refine block_go (then_go ?_)
          refine wc_region ?_
          refine wl_val (v_move' (by conv => (lhs; whnf))) rfl ?_
          refine wl_val (v_add' rfl rfl rfl (by first | omega | (dsimp only at *; omega)) (by first | omega | (dsimp only at *; omega))) rfl ?_
          refine wl_val (v_assign' (by conv => (lhs; whnf))) rfl ?_
          refine wl_nil ?_
          refine then_go ?_
          have hlt : lt L[i].1 x = true := by simpa using h29
          rw [if_neg (by rw [hlt]; simp), if_pos (Decidable.not_not.1 h48), hlt] at hG
          exact ⟨q - 1, by simp; omega, i + 1, false, out, v1, v2, by omega, rfl, rfl, rfl, rfl, rfl, rfl, rfl, by simpa [List.append_assoc] using hG, st⟩
    · refine wc_draw TF.mixed ?_
      have st := st.pure (touch_drew _)
      refine fl_val 0 rfl (fun _ => (v_move' (by conv => (lhs; whnf)))) rfl (by kernel_rfl) ?_
      refine fl_val 1 rfl (fun _ => (v_not rfl)) rfl (by kernel_rfl) ?_
      refine fl_val 2 rfl (fun _ => (v_move' (by conv => (lhs; whnf)))) rfl (by kernel_rfl) ?_
      refine fl_off 3 rfl rfl rfl rfl rfl rfl (by kernel_rfl) ?_
      refine fl_offd 4 rfl rfl rfl rfl rfl rfl (by kernel_rfl) ?_
      refine fl_off 5 rfl rfl rfl rfl rfl rfl (by kernel_rfl) ?_
      refine fl_off 6 rfl rfl rfl rfl rfl rfl (by kernel_rfl) ?_
      refine fl_offd 7 rfl rfl rfl rfl rfl rfl (by kernel_rfl) ?_
      refine fl_offd 8 rfl rfl rfl rfl rfl rfl (by kernel_rfl) ?_
      refine fl_eff1 9 [6, 5, 3, 1, 0] [4] (by kernel_rfl) ⟨obl_off rfl rfl rfl rfl rfl rfl, obl_off rfl rfl rfl rfl rfl rfl, obl_off rfl rfl rfl rfl rfl rfl, trivial⟩ rfl ?_
      refine wl_off rfl rfl rfl rfl ?_
      refine wl_nil ⟨rfl, ?_⟩
      refine fl_off 10 rfl rfl rfl rfl rfl rfl (by kernel_rfl) ?_
      refine fl_val 11 rfl (fun _ => (v_pick rfl)) rfl (by kernel_rfl) ?_
      refine fl_nil (by kernel_rfl) ⟨obl_off rfl rfl rfl rfl rfl rfl, trivial⟩ ?_
      refine then_go ?_
      refine wc_false rfl ?_
      refine wc_skip ?_
      refine then_go ?_
      refine wc_seq ?_
      refine wc_draw TF.mixed ?_
      have st := st.pure (touch_drew _)
      refine fl_val 0 rfl (fun _ => (v_fa TF.f30_0 rfl)) rfl (by kernel_rfl) ?_
      refine fl_ld 1 rfl (v_load rfl (st.reads 6 rfl TF.t22 rfl)) (by kernel_rfl) ?_
      refine fl_val 2 rfl (fun _ => (v_move' (by conv => (lhs; whnf)))) rfl (by kernel_rfl) ?_
      refine fl_val 3 rfl (fun _ => (v_ias i Try.underlying22 TF.t24 rfl rfl (by first | rfl | omega) (by first | omega | (dsimp only at *; omega)))) rfl (by kernel_rfl) ?_
      refine fl_ld 4 rfl (v_load rfl (h1.rd rfl hm1 e1 st.im)) (by kernel_rfl) ?_
      refine fl_ld 5 rfl (v_load rfl (st.reads 5 rfl TF.t24 (getV_all (by rw [size_arr, hx])))) (by kernel_rfl) ?_
      refine fl_val 6 rfl (fun _ => (v_ne_arr Try.underlying24 TF.t5 Try.underlying5 TF.e24 rfl rfl l1 hx)) rfl (by kernel_rfl) ?_
      refine fl_nil (by kernel_rfl) ⟨obl_ld rfl rfl rfl (v_load rfl (st.reads 5 rfl TF.t24 (getV_all (by rw [size_arr, hx])))), obl_ld rfl rfl rfl (v_load rfl (h1.rd rfl hm1 e1 st.im)), obl_ld rfl rfl rfl (v_load rfl (st.reads 6 rfl TF.t22 rfl)), trivial⟩ ?_
      refine then_go ?_
      refine wc_if rfl (fun h48 => ?_) (fun h48 => ?_)
      · refine wc_seq ?_
        refine wc_draw TF.mixed ?_
        have st := st.pure (touch_drew _)
        refine fl_val 0 rfl (fun _ => (v_fa TF.f30_0 rfl)) rfl (by kernel_rfl) ?_
        refine fl_ld 1 rfl (v_load rfl (by first | exact st.reads 2 rfl TF.t22 rfl | exact st.reads 3 rfl TF.t22 rfl)) (by kernel_rfl) ?_
        refine fl_val 2 rfl (fun _ => (v_fa TF.f30_0 rfl)) rfl (by kernel_rfl) ?_
        refine fl_ld 3 rfl (v_load rfl (by first | exact st.reads 6 rfl TF.t22 rfl | exact st.reads 7 rfl TF.t22 rfl)) (by kernel_rfl) ?_
        refine fl_val 4 rfl (fun _ => (v_move' (by conv => (lhs; whnf)))) rfl (by kernel_rfl) ?_
        refine fl_val 5 rfl (fun _ => (v_ias i Try.underlying22 TF.t24 rfl rfl (by first | rfl | omega) (by first | omega | (dsimp only at *; omega)))) rfl (by kernel_rfl) ?_
        refine fl_ld 6 rfl (v_load rfl (h1.rd rfl hm1 e1 st.im)) (by kernel_rfl) ?_
        refine fl_eff1 7 [5, 4, 2, 0] [3, 1] (by kernel_rfl) ⟨obl_ld rfl rfl rfl (v_load rfl (h1.rd rfl hm1 e1 st.im)), obl_ld rfl rfl rfl (v_load rfl (by first | exact st.reads 6 rfl TF.t22 rfl | exact st.reads 7 rfl TF.t22 rfl)), obl_ld rfl rfl rfl (v_load rfl (by first | exact st.reads 2 rfl TF.t22 rfl | exact st.reads 3 rfl TF.t22 rfl)), trivial⟩ rfl ?_
        refine wl_digOne _ l1 rfl st rfl ?_
        intro b33 w st
        refine wl_nil ⟨rfl, ?_⟩
        refine fl_eff1 8 [5, 4, 2, 0] [3] (by kernel_rfl) ⟨obl_ld rfl rfl rfl (v_load rfl (by first | exact st.reads 6 rfl TF.t22 rfl | exact st.reads 7 rfl TF.t22 rfl)), obl_ld rfl rfl rfl (v_load rfl (by first | exact st.reads 2 rfl TF.t22 rfl | exact st.reads 3 rfl TF.t22 rfl)), trivial⟩ rfl ?_
        refine wl_digApp 0 st rfl l1 rfl rfl (by first | omega | (simp only [List.length_append, List.length_cons, List.length_nil]; omega)) rfl ?_
        intro v1 w st hv1
        refine wl_nil ⟨rfl, ?_⟩
        refine fl_val 9 rfl (fun _ => (v_fa TF.f30_0 rfl)) rfl (by kernel_rfl) ?_
        refine fl_eff1 10 [] [] (by kernel_rfl) ⟨obl_ld rfl rfl rfl (v_load rfl (by first | exact st.reads 6 rfl TF.t22 rfl | exact st.reads 7 rfl TF.t22 rfl)), trivial⟩ rfl ?_
        refine wl_store1 2 st rfl TF.t22 rfl (by conv => (lhs; whnf)) hv1 (by first | exact lt_ok rfl | decide | simp) ?_
        intro w st
        refine wl_nil ⟨rfl, ?_⟩
        refine fl_nil (by kernel_rfl) trivial ?_
        refine then_go ?_
        refine wc_draw TF.mixed ?_
        have st := st.pure (touch_drew _)
        refine fl_val 0 rfl (fun _ => (v_fa TF.f30_1 rfl)) rfl (by kernel_rfl) ?_
        refine fl_ld 1 rfl (v_load rfl (by first | exact st.reads 2 rfl TF.t22 rfl | exact st.reads 3 rfl TF.t22 rfl)) (by kernel_rfl) ?_
        refine fl_val 2 rfl (fun _ => (v_fa TF.f30_1 rfl)) rfl (by kernel_rfl) ?_
        refine fl_ld 3 rfl (v_load rfl (by first | exact st.reads 6 rfl TF.t22 rfl | exact st.reads 7 rfl TF.t22 rfl)) (by kernel_rfl) ?_
        refine fl_val 4 rfl (fun _ => (v_move' (by conv => (lhs; whnf)))) rfl (by kernel_rfl) ?_
        refine fl_val 5 rfl (fun _ => (v_ias i Try.underlying22 TF.t24 rfl rfl (by first | rfl | omega) (by first | omega | (dsimp only at *; omega)))) rfl (by kernel_rfl) ?_
        refine fl_ld 6 rfl (v_load rfl (h2.rd rfl hm2 e2 st.im)) (by kernel_rfl) ?_
        refine fl_eff1 7 [5, 4, 2, 0] [3, 1] (by kernel_rfl) ⟨obl_ld rfl rfl rfl (v_load rfl (h2.rd rfl hm2 e2 st.im)), obl_ld rfl rfl rfl (v_load rfl (by first | exact st.reads 6 rfl TF.t22 rfl | exact st.reads 7 rfl TF.t22 rfl)), obl_ld rfl rfl rfl (v_load rfl (by first | exact st.reads 2 rfl TF.t22 rfl | exact st.reads 3 rfl TF.t22 rfl)), trivial⟩ rfl ?_
        refine wl_digOne _ l2 rfl st rfl ?_
        intro b33 w st
        refine wl_nil ⟨rfl, ?_⟩
        refine fl_eff1 8 [5, 4, 2, 0] [3] (by kernel_rfl) ⟨obl_ld rfl rfl rfl (v_load rfl (by first | exact st.reads 6 rfl TF.t22 rfl | exact st.reads 7 rfl TF.t22 rfl)), obl_ld rfl rfl rfl (v_load rfl (by first | exact st.reads 2 rfl TF.t22 rfl | exact st.reads 3 rfl TF.t22 rfl)), trivial⟩ rfl ?_
        refine wl_digApp 1 st rfl l2 rfl rfl (by first | omega | (simp only [List.length_append, List.length_cons, List.length_nil]; omega)) rfl ?_
        intro v2 w st hv2
        refine wl_nil ⟨rfl, ?_⟩
        refine fl_val 9 rfl (fun _ => (v_fa TF.f30_1 rfl)) rfl (by kernel_rfl) ?_
        refine fl_eff1 10 [] [] (by kernel_rfl) ⟨obl_ld rfl rfl rfl (v_load rfl (by first | exact st.reads 6 rfl TF.t22 rfl | exact st.reads 7 rfl TF.t22 rfl)), trivial⟩ rfl ?_
        refine wl_store1 2 st rfl TF.t22 rfl (by conv => (lhs; whnf)) hv2 (by first | exact lt_ok rfl | decide | simp) ?_
        intro w st
        refine wl_nil ⟨rfl, ?_⟩
        refine fl_nil (by kernel_rfl) trivial ?_
        refine block_go (then_go ?_)
        refine wc_region ?_
        refine wl_val (v_move' (by conv => (lhs; whnf))) rfl ?_
        refine wl_val (v_add' rfl rfl rfl (by first | omega | (dsimp only at *; omega)) (by first | omega | (dsimp only at *; omega))) rfl ?_
        refine wl_val (v_assign' (by conv => (lhs; whnf))) rfl ?_
        refine wl_nil ?_
        refine then_go ?_
        rw [if_neg (by simp), if_neg h48] at hG
        refine ⟨q - 1, by simp; omega, i + 1, true, out ++ [L[i]], v1, v2, by omega, rfl, rfl, rfl, rfl, rfl, rfl, rfl, by simpa [List.append_assoc] using hG, ?_⟩
        simp only [List.map_append, List.map_cons, List.map_nil]
        exact st
      · refine wc_skip ?_
        refine block_go (then_go ?_)
        refine wc_region ?_
        refine wl_val (v_move' (by conv => (lhs; whnf))) rfl ?_
        refine wl_val (v_add' rfl rfl rfl (by first | omega | (dsimp only at *; omega)) (by first | omega | (dsimp only at *; omega))) rfl ?_
        refine wl_val (v_assign' (by conv => (lhs; whnf))) rfl ?_
        refine wl_nil ?_
        refine then_go ?_
        rw [if_neg (by simp), if_pos (Decidable.not_not.1 h48)] at hG
        exact ⟨q - 1, by simp; omega, i + 1, true, out, v1, v2, by omega, rfl, rfl, rfl, rfl, rfl, rfl, rfl, by simpa [List.append_assoc] using hG, st⟩
  · refine wc_exit (then_exit (then_exit (block_hit ?_)))
    refine then_go ?_
    refine wc_seq ?_
    refine wc_seq ?_
    have hiL : i = L.length := by omega
    subst hiL
    rw [List.drop_length, putG] at hG
    refine wc_region ?_
    refine wl_val (v_move' (by conv => (lhs; whnf))) rfl ?_
    refine wl_val (v_not rfl) rfl ?_
    refine wl_nil ?_
    refine then_go ?_
    refine wc_cond rfl (fun h70 => ?_) (fun h70 => ?_)
    · refine wc_seq ?_
      refine wc_region ?_
      refine wl_val (v_fa TF.f30_0 rfl) rfl ?_
      refine wl_val (v_load rfl (st.reads 2 rfl TF.t22 rfl)) rfl ?_
      refine wl_val (v_load rfl (st.reads 5 rfl TF.t24 (getV_all (by rw [size_arr, hx])))) rfl ?_
      refine wl_digOne _ hx rfl st rfl ?_
      intro b33 w st
      refine wl_digApp 0 st rfl hx rfl rfl (by omega) rfl ?_
      intro v1 w st hv1
      refine wl_val (v_fa TF.f30_0 rfl) rfl ?_
      refine wl_store1 2 st rfl TF.t22 rfl (by conv => (lhs; whnf)) hv1 (by first | exact lt_ok rfl | decide | simp) ?_
      intro w st
      refine wl_nil ?_
      refine then_go ?_
      refine wc_region ?_
      refine wl_val (v_fa TF.f30_1 rfl) rfl ?_
      refine wl_val (v_load rfl (st.reads 2 rfl TF.t22 rfl)) rfl ?_
      refine wl_val (v_load rfl (st.reads 4 rfl TF.t24 (getV_all (by rw [size_arr, hv])))) rfl ?_
      refine wl_digOne _ hv rfl st rfl ?_
      intro b33 w st
      refine wl_digApp 1 st rfl hv rfl rfl (by omega) rfl ?_
      intro v2 w st hv2
      refine wl_val (v_fa TF.f30_1 rfl) rfl ?_
      refine wl_store1 2 st rfl TF.t22 rfl (by conv => (lhs; whnf)) hv2 (by first | exact lt_ok rfl | decide | simp) ?_
      intro w st
      refine wl_nil ?_
      refine then_go ?_
      refine wc_seq ?_
      refine wc_region ?_
      refine wl_val (v_load rfl (st.reads (v := .agg #[v1, v2]) 2 rfl TF.t30 (getV_all rfl))) rfl ?_
      refine wl_storeW (cs := #[v1, v2]) 3 st rfl TF.t30 rfl rfl rfl rfl ?_ ?_
      · intro u hu
        simp at hu
        rcases hu with rfl | rfl
        · exact row_one (st.at (i := 0) rfl)
        · exact row_one (st.at (i := 1) rfl)
      intro w st
      refine wl_nil ?_
      refine then_go ?_
      refine wc_ret ?_
      have hG2 : out ++ [(x, v)] = putL x v L := by rw [if_neg (by simpa using h70)] at hG; exact hG
      have hrd := st.reads (v := .agg #[v1, v2]) 3 rfl TF.t30 (getV_all rfl)
      have hdp := hd.put hx hv
      rw [← hG2] at hdp
      have f1 := hdp.fst
      have f2 := hdp.snd
      simp only [List.map_append, List.map_cons, List.map_nil] at f1 f2
      obtain ⟨m1, hg1, hq1, st⟩ := st.keepDig (i := 0) rfl f1
      obtain ⟨m2, hg2, hq2, st⟩ := st.keepDig (i := 0) rfl f2
      refine ret1c rfl hrd ((st.keepOnly (l := []) (List.nil_sublist _)).out ⟨_, _, rfl, ?_, ?_⟩)
      · rw [← hG2]; simpa using hq1.mono hg2.le
      · rw [← hG2]; simpa using hq2
    · refine wc_skip ?_
      refine then_go ?_
      refine wc_seq ?_
      refine wc_region ?_
      refine wl_val (v_load rfl (st.reads (v := .agg #[v1, v2]) 2 rfl TF.t30 (getV_all rfl))) rfl ?_
      refine wl_storeW (cs := #[v1, v2]) 3 st rfl TF.t30 rfl rfl rfl rfl ?_ ?_
      · intro u hu
        simp at hu
        rcases hu with rfl | rfl
        · exact row_one (st.at (i := 0) rfl)
        · exact row_one (st.at (i := 1) rfl)
      intro w st
      refine wl_nil ?_
      refine then_go ?_
      refine wc_ret ?_
      have hG2 : out = putL x v L := by rw [if_pos (by simpa using h70), List.append_nil] at hG; exact hG
      have hrd := st.reads (v := .agg #[v1, v2]) 3 rfl TF.t30 (getV_all rfl)
      have hdp := hd.put hx hv
      rw [← hG2] at hdp
      obtain ⟨m1, hg1, hq1, st⟩ := st.keepDig (i := 0) rfl hdp.fst
      obtain ⟨m2, hg2, hq2, st⟩ := st.keepDig (i := 0) rfl hdp.snd
      refine ret1c rfl hrd ((st.keepOnly (l := []) (List.nil_sublist _)).out ⟨_, _, rfl, ?_, ?_⟩)
      · rw [← hG2]; exact hq1.mono hg2.le
      · rw [← hG2]; exact hq2
end
end Go.Proofs.Ytkbmhhbclbgdpaa
