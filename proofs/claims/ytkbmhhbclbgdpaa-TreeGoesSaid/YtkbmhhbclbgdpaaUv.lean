/-
  TreeOrders answers true.
-/
import Derived.Test.YtkbmhhbclbgdpaaUu
namespace Go.Proofs.Ytkbmhhbclbgdpaa
open Go Go.RowKit K SH PT

theorem zip_self : ∀ A : List By, A.zip A = A.map fun x => (x, x)
  | [] => rfl
  | x :: A => by simp [zip_self A]

theorem mem_diag {A : List By} (h : D32 A) : ∀ y : By × By, y ∈ ofLv (A.map fun x => (x, x)) ↔ y.1 = y.2 ∧ y.1 ∈ A := by
  induction h' : A.length generalizing A with
  | zero =>
    have := List.eq_nil_of_length_eq_zero h'
    subst this
    intro y
    simp [ofLv]
  | succ k ih =>
    have hne : A ≠ [] := by intro e; subst e; simp at h'
    intro y
    have hi := ih (A := A.dropLast) (fun x hx => h x ((List.dropLast_sublist A).subset hx)) (by simp [h']) y
    have hA : A = A.dropLast ++ [A.getLast hne] := (List.dropLast_concat_getLast hne).symm
    rw [hA, List.map_append, List.map_cons, List.map_nil, ofLv_snoc, (putL_perm _ _ _).mem_iff]
    simp only [List.mem_cons, List.mem_filter, decide_eq_true_eq, List.mem_append, List.not_mem_nil, or_false]
    rw [hi]
    generalize A.getLast hne = z
    constructor
    · rintro (rfl | ⟨⟨h1, h2⟩, _⟩)
      · exact ⟨rfl, .inr rfl⟩
      · exact ⟨h1, .inl h2⟩
    · rintro ⟨h1, h2⟩
      by_cases e : y.1 = z
      · left
        obtain ⟨a, b⟩ := y
        simp only at h1 e
        rw [← h1, e]
      · exact .inr ⟨⟨h1, h2.resolve_right e⟩, e⟩

theorem diag_perm {A B : List By} (ha : D32 A) (hb : D32 B) (h : ∀ x, x ∈ A ↔ x ∈ B) : List.Perm (ofLv (A.zip A)) (ofLv (B.zip B)) := by
  have n1 := (ofLv_dst (Z := A.zip A) fun x hx => (d32_zip ha ha x hx).1).1.nodup
  have n2 := (ofLv_dst (Z := B.zip B) fun x hx => (d32_zip hb hb x hx).1).1.nodup
  have key : ∀ {L : List (By × By)}, (L.map (·.1)).Nodup → L.Nodup := fun {L} hn => by
    induction L with
    | nil => simp
    | cons y l ih =>
      rw [List.map_cons, List.nodup_cons] at hn
      rw [List.nodup_cons]
      exact ⟨fun hm => hn.1 (List.mem_map.2 ⟨y, hm, rfl⟩), ih hn.2⟩
  rw [List.perm_ext_iff_of_nodup (key n1) (key n2)]
  intro y
  rw [zip_self, zip_self, mem_diag ha, mem_diag hb, h]

theorem v_to {P : Program} {r : Fr} {w w' : World} {ty : TypeId} {o : Op} {v v' : Value} (h : Val P o ty r w v w') (e : v = v') : Val P o ty r w v' w' := e ▸ h

/-- The list, turned about. -/
def turnL (A : List By) (k i : Nat) : List By := (List.range i).map fun j => A.getD ((k + A.length - j) % A.length) []

theorem turnL_succ {A : List By} {k i : Nat} : turnL A k (i + 1) = turnL A k i ++ [A.getD ((k + A.length - i) % A.length) []] := by
  simp [turnL, List.range_succ]

theorem getD_mem {A : List By} {i : Nat} (h : i < A.length) : A.getD i [] ∈ A := by
  simp only [List.getD, List.getElem?_eq_getElem h, Option.getD_some]
  exact List.getElem_mem h

theorem mem_turnL {A : List By} {k : Nat} (hk : k < A.length) (x : By) : x ∈ A ↔ x ∈ turnL A k A.length := by
  constructor
  · intro h
    obtain ⟨i, hi, rfl⟩ := List.mem_iff_getElem.1 h
    refine List.mem_map.2 ⟨if i ≤ k then k - i else k + A.length - i, ?_, ?_⟩
    · rw [List.mem_range]; split <;> omega
    · have e : (k + A.length - (if i ≤ k then k - i else k + A.length - i)) % A.length = i := by
        split
        · rw [show k + A.length - (k - i) = A.length + i by omega, Nat.add_mod_left, Nat.mod_eq_of_lt hi]
        · rw [show k + A.length - (k + A.length - i) = i by omega, Nat.mod_eq_of_lt hi]
      rw [e]
      simp [List.getD, hi]
  · intro h
    obtain ⟨j, _, rfl⟩ := List.mem_map.1 h
    exact getD_mem (Nat.mod_lt _ (by omega))

section
variable {m : Mem} {wI : World}

theorem c_f6 {va : Value} {A : List By} {z : Int} (him : Im m wI) (ha : DigM m va A) :
    Ret Try.prog 6 #[va, .int .i64 z] wI fun v w' => Tch wI w' [] [] ∧ v = .bool true := by
  have st := St.start him
  obtain ⟨a1, c1, rfl⟩ := ha.sl
  obtain ⟨hD, _⟩ := ofLv_dst (Z := A.zip A) fun x hx => (d32_zip ha.1 ha.1 x hx).1
  have hLl := length_ofLv (A.zip A)
  have hzl : (A.zip A).length ≤ A.length := by simp
  generalize hL : ofLv (A.zip A) = L at hD hLl
  refine ret_of Try.call6 Try.func6 rfl Try.ntmps6 Try.results6 rfl ?_
  refine wc_seq ?_
  refine wc_region ?_
  refine wl_val (v_assign' (by conv => (lhs; whnf))) rfl ?_
  refine wl_nil ?_
  refine then_go ?_
  refine wc_seq ?_
  refine wc_seq ?_
  refine wc_region ?_
  refine wl_val (v_move' (by conv => (lhs; whnf))) rfl ?_
  refine wl_call rfl (c_few st.im ha) rfl ?_
  rintro v16 w ⟨t16, rfl⟩
  have st := st.pure t16
  refine wl_val (v_not rfl) rfl ?_
  refine wl_val (v_move' (by conv => (lhs; whnf))) rfl ?_
  rcases Bool.eq_false_or_eq_true (!decide ((A.length : Int) ≤ 60)) with hg3 | hg3
  · rw [hg3]
    refine wl_off rfl rfl rfl rfl ?_
    refine wl_off rfl rfl rfl rfl ?_
    refine wl_off rfl rfl rfl rfl ?_
    refine wl_val (v_pick rfl) rfl ?_
    refine wl_nil ?_
    refine then_go ?_
    refine wc_true rfl ?_
    refine wc_seq ?_
    refine wc_region ?_
    refine wl_call rfl (c_works st.im) rfl ?_
    rintro v18 w ⟨t18, rfl⟩
    have st := st.pure t18
    refine wl_val (v_assign' (by conv => (lhs; whnf))) rfl ?_
    refine wl_nil ?_
    refine then_go ?_
    refine wc_ret (then_ret ?_)
    exact ret1 rfl ⟨(st.keepOnly (l := []) (List.nil_sublist _)).touch, rfl⟩
  · rw [hg3]
    refine wl_on rfl rfl ?_
    refine wl_val (v_move' (by conv => (lhs; whnf))) rfl ?_
    refine wl_on rfl rfl ?_
    refine wl_val (v_len_s Try.underlying22 rfl) rfl ?_
    refine wl_on rfl rfl ?_
    refine wl_val (v_eql rfl rfl) rfl ?_
    refine wl_val (v_pick rfl) rfl ?_
    refine wl_nil ?_
    refine then_go ?_
    refine wc_if rfl (fun h18 => ?_) (fun h18 => ?_)
    · refine wc_seq ?_
      refine wc_region ?_
      refine wl_call rfl (c_works st.im) rfl ?_
      rintro v18 w ⟨t18, rfl⟩
      have st := st.pure t18
      refine wl_val (v_assign' (by conv => (lhs; whnf))) rfl ?_
      refine wl_nil ?_
      refine then_go ?_
      refine wc_ret (then_ret ?_)
      exact ret1 rfl ⟨(st.keepOnly (l := []) (List.nil_sublist _)).touch, rfl⟩
    · refine wc_skip ?_
      refine then_go ?_
      refine wc_seq ?_
      refine wc_region ?_
      refine wl_val (v_move' (by conv => (lhs; whnf))) rfl ?_
      refine wl_val (v_move' (by conv => (lhs; whnf))) rfl ?_
      have hA60 : A.length ≤ 60 := by simp at hg3; omega
      have hA0 : 0 < A.length := by omega
      refine wl_call rfl (c_rof st.im ha ha (by omega) (by omega)) rfl ?_
      rintro v24 w ⟨t24, m2, hg2, hi2, hl⟩
      have st := st.grown hg2 t24 hi2
      have ha := ha.mono hg2.le
      rw [hL] at hl
      obtain ⟨l1, k1, l2, k2, rfl, hl1, hl2⟩ := hl.open
      refine wl_alloc TF.z30 st rfl ?_
      intro b5 w st
      refine wl_storeW (cs := #[.slice l1 L.length k1, .slice l2 L.length k2]) 0 st rfl TF.t30 rfl rfl rfl rfl (by simp [Value.oneCell']) ?_
      intro w st
      refine wl_nil ?_
      refine then_go ?_
      refine wc_seq ?_
      obtain ⟨u, hu⟩ : ∃ u, u = IntKind.u64.wrap z := ⟨_, rfl⟩
      have hu0 : 0 ≤ u := by rw [hu, IntKind.wrap_u64]; omega
      obtain ⟨k, hk⟩ : ∃ k : Nat, u % (A.length : Int) = k := ⟨(u % (A.length : Int)).toNat, (Int.toNat_of_nonneg (Int.emod_nonneg _ (by omega))).symm⟩
      have hkl : k < A.length := by have := Int.emod_lt_of_pos u (show (0 : Int) < A.length by omega); omega
      refine wc_region ?_
      refine wl_val (v_move' (by conv => (lhs; whnf))) rfl ?_
      refine wl_val (v_to (v' := .int .u64 u) (v_conv Try.underlying3 Try.underlying46 rfl) (by rw [hu])) rfl ?_
      refine wl_val (v_move' (by conv => (lhs; whnf))) rfl ?_
      refine wl_val (v_len_s Try.underlying22 rfl) rfl ?_
      refine wl_val (v_to (v' := .int .u64 (A.length : Nat)) (v_conv Try.underlying3 Try.underlying46 rfl) (by rw [wrap_u64_small (by omega)])) rfl ?_
      refine wl_val (v_rem' rfl rfl hu0 (by omega) hk) rfl ?_
      refine wl_val (v_to (v' := .int .i64 (k : Nat)) (v_conv Try.underlying46 Try.underlying3 rfl) (by rw [wrap_i64 (by omega) (by omega)])) rfl ?_
      refine wl_val (v_assign' (by conv => (lhs; whnf))) rfl ?_
      refine wl_nil ?_
      refine then_go ?_
      refine wc_seq ?_
      refine wc_region ?_
      refine wl_val (v_assign' (by conv => (lhs; whnf))) rfl ?_
      refine wl_nil ?_
      refine then_go ?_
      refine wc_seq ?_
      refine wc_seq ?_
      refine wc_region ?_
      refine wl_val (v_assign' (by conv => (lhs; whnf))) rfl ?_
      refine wl_nil ?_
      refine then_go ?_
      refine wc_block ?_
      have st := st.nilDig
      refine wc_loop (S := Nat) (fun q r w' => ∃ (i : Nat) (v : Value), q + i = A.length ∧ r 0 = .slice a1 A.length c1 ∧ r 5 = .pointer (some ⟨b5, 0, none⟩) ∧ r 6 = .int .i64 k ∧ r 7 = v ∧ r 8 = .int .i64 i ∧
        St m m2 [] wI w' [digE v (turnL A k i), K.blk b5 #[.slice l1 L.length k1, .slice l2 L.length k2] 30]) id A.length ⟨0, _, by omega, rfl, rfl, rfl, rfl, rfl, st⟩ ?_
      rintro q r w2 ⟨i, v, hqi, g0, g5, g6, g7, g8, st⟩
      refine wc_o 0 g0 (wc_o 5 g5 (wc_o 6 g6 (wc_o 7 g7 (wc_o 8 g8 ?_))))
      refine wc_seq ?_
      refine wc_seq ?_
      refine wc_region ?_
      refine wl_val (v_move' (by conv => (lhs; whnf))) rfl ?_
      refine wl_val (v_move' (by conv => (lhs; whnf))) rfl ?_
      refine wl_val (v_len_s Try.underlying22 rfl) rfl ?_
      refine wl_val (v_lss rfl rfl) rfl ?_
      refine wl_nil ?_
      refine then_go ?_
      refine wc_if rfl (fun h33 => ?_) (fun h33 => ?_)
      · refine wc_skip ?_
        refine then_go ?_
        refine wc_seq ?_
        refine wc_block ?_
        have hi : i < A.length := by omega
        obtain ⟨ba, oa, hba⟩ := ha.ptr (by omega)
        subst hba
        obtain ⟨j, hj⟩ : ∃ j, j = (k + A.length - i) % A.length := ⟨_, rfl⟩
        have hjl : j < A.length := by rw [hj]; exact Nat.mod_lt _ hA0
        have hjz : ((k : Int) + A.length - i) % A.length = j := by rw [hj, Int.natCast_emod]; congr 1; omega
        have hAj : A[j] = A.getD ((k + A.length - i) % A.length) [] := by rw [← hj]; simp [List.getD, hjl]
        refine wc_region ?_
        refine wl_val (v_move' (by conv => (lhs; whnf))) rfl ?_
        refine wl_val (v_move' (by conv => (lhs; whnf))) rfl ?_
        refine wl_val (v_move' (by conv => (lhs; whnf))) rfl ?_
        refine wl_val (v_move' (by conv => (lhs; whnf))) rfl ?_
        refine wl_val (v_len_s Try.underlying22 rfl) rfl ?_
        refine wl_val (v_add' rfl rfl rfl (by first | omega | (dsimp only at *; omega)) (by first | omega | (dsimp only at *; omega))) rfl ?_
        refine wl_val (v_move' (by conv => (lhs; whnf))) rfl ?_
        refine wl_val (v_sub' rfl rfl rfl (by first | omega | (dsimp only at *; omega)) (by first | omega | (dsimp only at *; omega))) rfl ?_
        refine wl_val (v_move' (by conv => (lhs; whnf))) rfl ?_
        refine wl_val (v_len_s Try.underlying22 rfl) rfl ?_
        refine wl_val (v_rem' rfl rfl (by omega) (by omega) hjz) rfl ?_
        refine wl_val (v_ias j Try.underlying22 TF.t24 rfl rfl (by first | rfl | omega) (by first | omega | (dsimp only at *; omega))) rfl ?_
        refine wl_val (v_load rfl (ha.rd rfl hjl rfl st.im)) rfl ?_
        refine wl_digOne _ (ha.1.get hjl) rfl st rfl ?_
        intro b49 w st
        refine wl_digApp 0 st rfl (ha.1.get hjl) rfl rfl (by simp [turnL]; omega) rfl ?_
        intro v50 w st hv50
        refine wl_val (v_assign' (by conv => (lhs; whnf))) rfl ?_
        refine wl_nil ?_
        refine block_go (then_go ?_)
        refine wc_region ?_
        refine wl_val (v_move' (by conv => (lhs; whnf))) rfl ?_
        refine wl_val (v_add' rfl rfl rfl (by first | omega | (dsimp only at *; omega)) (by first | omega | (dsimp only at *; omega))) rfl ?_
        refine wl_val (v_assign' (by conv => (lhs; whnf))) rfl ?_
        refine wl_nil ?_
        refine then_go ?_
        refine ⟨q - 1, by simp; omega, i + 1, v50, by omega, rfl, rfl, rfl, rfl, rfl, ?_⟩
        rw [turnL_succ, ← hAj]
        exact st
      · refine wc_exit (then_exit (then_exit (block_hit ?_)))
        refine then_go ?_
        refine wc_seq ?_
        have hiA : i = A.length := by omega
        subst hiA
        have hmem := mem_turnL hkl
        have hB : D32 (turnL A k A.length) := fun y hy => ha.1 y ((hmem y).2 hy)
        obtain ⟨m3, hg3', hb, st⟩ := st.keepDig (i := 0) rfl hB
        have ha := ha.mono hg3'.le
        have hl := hl.mono hg3'.le
        obtain ⟨B, hBe⟩ : ∃ B, B = turnL A k A.length := ⟨_, rfl⟩
        rw [← hBe] at hmem hB hb
        have hBl : B.length = A.length := by rw [hBe]; simp [turnL]
        have htr : treeOf (ofLv (B.zip B)) = treeOf L := by rw [← hL]; exact canon_perm (diag_perm hB ha.1 fun x => (hmem x).symm)
        change St _ _ _ _ _ [_] at st
        refine wc_region ?_
        refine wl_val (v_move' (by conv => (lhs; whnf))) rfl ?_
        refine wl_val (v_move' (by conv => (lhs; whnf))) rfl ?_
        refine wl_call rfl (c_tof' st.im ha ha hA60) rfl ?_
        rintro v53 w ⟨t53, m4, hg4, hi4, p, rfl, hp⟩
        have st := st.grown hg4 t53 hi4
        have hb := hb.mono hg4.le
        have hl := hl.mono hg4.le
        rw [hL] at hp
        refine wl_val (v_move' (by conv => (lhs; whnf))) rfl ?_
        refine wl_val (v_move' (by conv => (lhs; whnf))) rfl ?_
        refine wl_call rfl (c_tof' st.im hb hb (by omega)) rfl ?_
        rintro v56 w ⟨t56, m5, hg5, hi5, p2, rfl, hp2⟩
        have st := st.grown hg5 t56 hi5
        have hp := hp.mono hg5.le
        have hl := hl.mono hg5.le
        rw [htr] at hp2
        refine wl_val (v_assign' (by conv => (lhs; whnf))) rfl ?_
        refine wl_val (v_assign' (by conv => (lhs; whnf))) rfl ?_
        refine wl_nil ?_
        refine then_go ?_
        refine wc_seq ?_
        refine wc_draw TF.mixed ?_
        have st := st.pure (touch_drew _)
        refine fl_val 0 rfl (fun _ => (v_move' (by conv => (lhs; whnf)))) rfl (by kernel_rfl) ?_
        refine fl_val 1 rfl (fun _ => (v_ne_nil (p := some ⟨p, 0, none⟩) Try.underlying27 rfl rfl)) rfl (by kernel_rfl) ?_
        refine fl_val 2 rfl (fun _ => (v_move' (by conv => (lhs; whnf)))) rfl (by kernel_rfl) ?_
        refine fl_on 3 rfl rfl rfl rfl (fun _ => (v_move' (by conv => (lhs; whnf)))) rfl (by kernel_rfl) ?_
        refine fl_on 4 rfl rfl rfl rfl (fun _ => (v_ne_nil (p := some ⟨p2, 0, none⟩) Try.underlying27 rfl rfl)) rfl (by kernel_rfl) ?_
        refine fl_val 5 rfl (fun _ => (v_pick rfl)) rfl (by kernel_rfl) ?_
        refine fl_val 6 rfl (fun _ => (v_move' (by conv => (lhs; whnf)))) rfl (by kernel_rfl) ?_
        refine fl_on 7 rfl rfl rfl rfl (fun _ => (v_move' (by conv => (lhs; whnf)))) rfl (by kernel_rfl) ?_
        refine fl_on 9 rfl rfl rfl rfl (fun _ => (v_move' (by conv => (lhs; whnf)))) rfl (by kernel_rfl) ?_
        refine fl_eff1 8 [9, 5, 4, 3, 2, 1, 0] [] (by kernel_rfl) trivial rfl ?_
        refine wl_on rfl rfl ?_
        refine wl_call rfl (by first | exact c_troot st.im hp | exact c_troot st.im hp2) rfl ?_
        rintro v31 w ⟨t31, rfl⟩
        have st := st.pure t31
        refine wl_nil ⟨rfl, ?_⟩
        refine fl_eff1 10 [5, 4, 3, 2, 1, 0] [] (by kernel_rfl) trivial rfl ?_
        refine wl_on rfl rfl ?_
        refine wl_call rfl (by first | exact c_troot st.im hp | exact c_troot st.im hp2) rfl ?_
        rintro v31 w ⟨t31, rfl⟩
        have st := st.pure t31
        refine wl_nil ⟨rfl, ?_⟩
        refine fl_on 11 rfl rfl rfl rfl (fun _ => (v_eqDT rfl rfl (length_root _))) rfl (by kernel_rfl) ?_
        refine fl_val 12 rfl (fun _ => (v_pick rfl)) rfl (by kernel_rfl) ?_
        refine fl_val 13 rfl (fun _ => (v_move' (by conv => (lhs; whnf)))) rfl (by kernel_rfl) ?_
        refine fl_on 14 rfl rfl rfl rfl (fun _ => (v_move' (by conv => (lhs; whnf)))) rfl (by kernel_rfl) ?_
        refine fl_ond 16 rfl rfl rfl rfl (v_load rfl (st.reads (v := .agg #[.slice l1 L.length k1, .slice l2 L.length k2]) 0 rfl TF.t30 (getV_all rfl))) rfl (by kernel_rfl) ?_
        refine fl_eff1 15 [12, 11, 5, 4, 3, 2, 1, 0] [16] (by kernel_rfl) ⟨obl_on rfl rfl rfl rfl rfl (v_load rfl (st.reads (v := .agg #[.slice l1 L.length k1, .slice l2 L.length k2]) 0 rfl TF.t30 (getV_all rfl))), trivial⟩ rfl ?_
        refine wl_on rfl rfl ?_
        refine wl_call rfl (by first | exact c_troot st.im hp | exact c_troot st.im hp2) rfl ?_
        rintro v31 w ⟨t31, rfl⟩
        have st := st.pure t31
        refine wl_nil ⟨rfl, ?_⟩
        refine fl_eff1 17 [12, 11, 5, 4, 3, 2, 1, 0] [] (by kernel_rfl) ⟨obl_on rfl rfl rfl rfl rfl (v_load rfl (st.reads (v := .agg #[.slice l1 L.length k1, .slice l2 L.length k2]) 0 rfl TF.t30 (getV_all rfl))), trivial⟩ rfl ?_
        refine wl_on rfl rfl ?_
        refine wl_call rfl (c_rroot' st.im hl hD (by omega)) rfl ?_
        rintro v31 w ⟨t31, rfl⟩
        have st := st.pure t31
        refine wl_nil ⟨rfl, ?_⟩
        refine fl_on 18 rfl rfl rfl rfl (fun _ => (v_eqDT rfl rfl (length_root _))) rfl (by kernel_rfl) ?_
        refine fl_val 19 rfl (fun _ => (v_pick rfl)) rfl (by kernel_rfl) ?_
        refine fl_val 20 rfl (fun _ => (v_move' (by conv => (lhs; whnf)))) rfl (by kernel_rfl) ?_
        refine fl_eff1 21 [19, 18, 12, 11, 5, 4, 3, 2, 1, 0] [] (by kernel_rfl) trivial rfl ?_
        refine wl_on rfl rfl ?_
        refine wl_call rfl (c_works st.im) rfl ?_
        rintro v18 w ⟨t18, rfl⟩
        have st := st.pure t18
        refine wl_nil ⟨rfl, ?_⟩
        refine fl_val 22 rfl (fun _ => (v_pick rfl)) rfl (by kernel_rfl) ?_
        refine fl_eff1 23 [] [] (by kernel_rfl) trivial rfl ?_
        refine wl_val (v_assign' (by conv => (lhs; whnf))) rfl ?_
        refine wl_nil ⟨rfl, ?_⟩
        refine fl_nil (by kernel_rfl) trivial ?_
        refine then_go ?_
        refine wc_ret ?_
        exact ret1 rfl ⟨(st.keepOnly (l := []) (List.nil_sublist _)).touch, rfl⟩
end
end Go.Proofs.Ytkbmhhbclbgdpaa
