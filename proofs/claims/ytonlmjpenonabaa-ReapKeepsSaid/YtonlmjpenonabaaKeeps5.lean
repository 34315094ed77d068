/-
  Proved here: for every input the law ReapKeeps returns true, and what it was handed reads behind the call as before. No condition.
-/
import Derived.Test.YtonlmjpenonabaaRows
import Derived.Test.YtonlmjpenonabaaKeeps4

namespace Go.Proofs.Ytonlmjpenonabaa
open Go Go.RowKit K SH PT
theorem v_nesE {P : Program} {r : Fr} {w : World} {ty T U : TypeId} {x y : Operand} {a b : By} (hx : ev r x = .string (strB a)) (hy : ev r y = .string (strB b)) : Val P (.binOp .neq T x y U) ty r w (.bool (decide (¬ a = b))) w := by
 intro _ _ _ _
 simp only [execOp, eqGuard, hx, hy, binOp, Op.stringOp, strB_toList, Sem.run_bind, Sem.run_pure, Result.andThen_ok]
 by_cases h : a = b
 ·subst h; simp
 ·simp [h]
theorem nc_snoc {S : List By} {q : By} (h : NoClash S) (hq : ∀ p ∈ S, sum p = sum q → p = q) : NoClash (S ++ [q]) := by
 intro a ha b hb e
 rcases List.mem_append.1 ha with ha | ha
 ·rcases List.mem_append.1 hb with hb | hb
  ·exact h a ha b hb e
  ·rw [List.mem_singleton.1 hb] at e ⊢; exact hq a ha e
 ·rw [List.mem_singleton.1 ha] at e ⊢
  rcases List.mem_append.1 hb with hb | hb
  ·exact (hq b hb e.symm).symm
  ·exact (List.mem_singleton.1 hb).symm
section
variable {m : Mem} {wI : World}
theorem c_any17 {lv : Value} {N : List (By × Value)} (him : Im m wI) (hN : PcsM m lv N) (hNl : ∀ x ∈ N, x.1.length ≤ 1000000000) (hNn : N.length ≤ 1000000) :
  Ret Try.prog 19 #[lv] wI fun v w' => Tch wI w' [] [] ∧ ∃ c : Bool, v = .bool c ∧ (c = false → NoClash (N.map (·.1))) := by
 have st := St.start him
 obtain ⟨na, nc, hlv⟩ : ∃ a c, lv = .slice a N.length c := by obtain ⟨⟨_, a, c, h, _⟩, _⟩ := hN; exact ⟨a, c, h⟩
 subst hlv
 have hD32 : ∀ i, D32 ((N.take i).map fun x => sum x.1) := fun i x hx => by
  obtain ⟨y, _, rfl⟩ := List.mem_map.1 hx
  exact length_sum _
 refine ret_of Try.call19 Try.func19 rfl Try.ntmps19 Try.results19 rfl ?_
 refine wc_seq ?_
 refine wc_region ?_
 refine wl_val (v_assign' (by conv => (lhs; whnf))) rfl ?_
 refine wl_nil ?_
 refine then_go ?_
 refine wc_seq ?_
 refine wc_region ?_
 refine wl_val (v_assign' (by conv => (lhs; whnf))) rfl ?_
 refine wl_nil ?_
 refine then_go ?_
 refine wc_seq ?_
 refine wc_seq ?_
 refine wc_region ?_
 refine wl_val (v_assign' (by conv => (lhs; whnf))) rfl ?_
 refine wl_nil ?_
 refine then_go ?_
 refine wc_block ?_
 have st := st.nilDig
 refine wc_loop (S := Nat) (fun q r w' => ∃ (i : Nat) (v : Value), q + i = N.length ∧ r 0 = .slice na N.length nc ∧ r 3 = v ∧ r 4 = .int .i64 i ∧ NoClash ((N.take i).map (·.1)) ∧ St m m [] wI w' [digE v ((N.take i).map fun x => sum x.1)]) id N.length ⟨0, _, by omega, rfl, rfl, rfl, by intro a ha; simp at ha, st⟩ ?_
 clear st
 rintro q r w2 ⟨i, v, hqi, g0, g3, g4, hnc, st⟩
 refine wc_o 0 g0 (wc_o 3 g3 (wc_o 4 g4 ?_))
 refine wc_seq ?_
 refine wc_seq ?_
 refine wc_region ?_
 refine wl_val (v_move' (by conv => (lhs; whnf))) rfl ?_
 refine wl_val (v_move' (by conv => (lhs; whnf))) rfl ?_
 refine wl_val (v_len_s Try.underlying29 rfl) rfl ?_
 refine wl_val (v_lss rfl rfl) rfl ?_
 refine wl_nil ?_
 refine then_go ?_
 refine wc_if rfl (fun h9 => ?_) (fun h9 => ?_)
 ·refine wc_skip ?_
  refine then_go ?_
  refine wc_seq ?_
  refine wc_block ?_
  refine wc_seq ?_
  have hi : i < N.length := by omega
  obtain ⟨nb, no, _, hnv, hs0, hrp⟩ := hN.elem hi
  cases hnv
  have hsl := hNl _ (List.getElem_mem hi)
  refine wc_region ?_
  refine wl_val (v_move' (by conv => (lhs; whnf))) rfl ?_
  refine wl_val (v_move' (by conv => (lhs; whnf))) rfl ?_
  refine wl_val (v_move' (by conv => (lhs; whnf))) rfl ?_
  refine wl_val (v_ias i Try.underlying29 TF.t37 rfl rfl (by first | rfl | omega) (by first | omega | (dsimp only at *; omega))) rfl ?_
  refine wl_val (v_load rfl (hrp st.im)) rfl ?_
  refine wl_call rfl (c_ref3of st.im hs0 (by omega)) rfl ?_
  rintro v17 w ⟨t17, rfl⟩
  have st := st.pure t17
  refine wl_digOne _ (length_sum N[i].1) rfl st rfl ?_
  intro b18 w st
  refine wl_digApp 0 st rfl (length_sum N[i].1) rfl rfl (by simp; omega) rfl ?_
  intro v19 w st hv19
  have e1 : ((N.take i).map fun x => sum x.1) ++ [sum N[i].1] = (N.take (i + 1)).map fun x => sum x.1 := by rw [List.take_succ_eq_append_getElem hi, List.map_append]; rfl
  change St _ _ _ _ _ [digE v19 (((N.take i).map fun x => sum x.1) ++ [sum N[i].1])] at st
  rw [e1] at st
  obtain ⟨va, vc, hvv⟩ := row_sl (st.at (i := 0) rfl)
  subst hvv
  have hDl : ((N.take (i + 1)).map fun x => sum x.1).length = i + 1 := by simp; omega
  have hDM : ∀ {w' : World}, St m m [] wI w' [digE (.slice va ((N.take (i + 1)).map fun x => sum x.1).length vc) ((N.take (i + 1)).map fun x => sum x.1)] → DigM (heapM w') (.slice va ((N.take (i + 1)).map fun x => sum x.1).length vc) ((N.take (i + 1)).map fun x => sum x.1) := fun st => ⟨hD32 _, row_SlM (m := heapM _) (st.at (i := 0) rfl) (fun _ _ _ h => h)⟩
  obtain ⟨vb, vo, hva⟩ := (hDM st).ptr (by omega)
  subst hva
  obtain ⟨DL, hDL⟩ : ∃ DL, DL = (N.take (i + 1)).map fun x => sum x.1 := ⟨_, rfl⟩
  have hDk : ∀ k (hk : k < DL.length) (hkN : k < N.length), DL[k] = sum N[k].1 := fun k hk hkN => by subst hDL; simp
  rw [← hDL] at st hDM hDl ⊢
  refine wl_val (v_assign' (by conv => (lhs; whnf))) rfl ?_
  refine wl_nil ?_
  refine then_go ?_
  refine wc_seq ?_
  refine wc_region ?_
  refine wl_val (v_assign' (by conv => (lhs; whnf))) rfl ?_
  refine wl_nil ?_
  refine then_go ?_
  refine wc_block ?_
  refine wc_loop (S := Nat) (fun q r w' => ∃ (k : Nat), q + k = i ∧ r 0 = .slice (some ⟨nb, no, none⟩) N.length nc ∧ r 3 = .slice (some ⟨vb, vo, none⟩) DL.length vc ∧ r 4 = .int .i64 i ∧ r 5 = .int .i64 k ∧ (∀ p ∈ (N.take k).map (·.1), sum p = sum N[i].1 → p = N[i].1) ∧ St m m [] wI w' [digE (.slice (some ⟨vb, vo, none⟩) DL.length vc) DL]) id i ⟨0, by omega, rfl, rfl, rfl, rfl, by intro p hp; simp at hp, st⟩ ?_
  clear st
  rintro q2 r w3 ⟨k, hqk, g0, g3, g4, g5, hin, st⟩
  refine wc_o 0 g0 (wc_o 3 g3 (wc_o 4 g4 (wc_o 5 g5 ?_)))
  refine wc_seq ?_
  refine wc_seq ?_
  refine wc_region ?_
  refine wl_val (v_move' (by conv => (lhs; whnf))) rfl ?_
  refine wl_val (v_move' (by conv => (lhs; whnf))) rfl ?_
  refine wl_val (v_lss rfl rfl) rfl ?_
  refine wl_nil ?_
  refine then_go ?_
  refine wc_if rfl (fun h22 => ?_) (fun h22 => ?_)
  ·refine wc_skip ?_
   refine then_go ?_
   refine wc_seq ?_
   refine wc_block ?_
   refine wc_seq ?_
   by_cases hsum : sum N[k].1 = sum N[i].1
   ·have hk : k < i := by omega
    have hkN : k < N.length := by omega
    obtain ⟨_, _, _, hnv2, hs1, hrk⟩ := hN.elem hkN
    cases hnv2
    refine wc_draw TF.mixed ?_
    have st := st.pure (touch_drew _)
    refine fl_val 0 rfl (fun _ => (v_move' (by conv => (lhs; whnf)))) rfl (by kernel_rfl) ?_
    refine fl_val 1 rfl (fun _ => (v_move' (by conv => (lhs; whnf)))) rfl (by kernel_rfl) ?_
    refine fl_val 2 rfl (fun _ => (v_ias k Try.underlying22 TF.t28 rfl rfl (by first | rfl | omega) (by first | omega | (dsimp only at *; omega)))) rfl (by kernel_rfl) ?_
    refine fl_ld 3 rfl (v_load rfl ((hDM st).rd rfl (by omega) (hDk k (by omega) hkN) (im_heapM _))) (by kernel_rfl) ?_
    refine fl_val 4 rfl (fun _ => (v_move' (by conv => (lhs; whnf)))) rfl (by kernel_rfl) ?_
    refine fl_val 5 rfl (fun _ => (v_move' (by conv => (lhs; whnf)))) rfl (by kernel_rfl) ?_
    refine fl_val 6 rfl (fun _ => (v_ias i Try.underlying22 TF.t28 rfl rfl (by first | rfl | omega) (by first | omega | (dsimp only at *; omega)))) rfl (by kernel_rfl) ?_
    refine fl_ld 7 rfl (v_load rfl ((hDM st).rd rfl (by omega) (hDk i (by omega) hi) (im_heapM _))) (by kernel_rfl) ?_
    refine fl_val 8 rfl (fun _ => (wl_valD (v_eq_arr Try.underlying28 TF.t5 Try.underlying5 TF.e28 rfl rfl (length_sum _) (length_sum _)) (decide_eq_true hsum))) rfl (by kernel_rfl) ?_
    refine fl_val 9 rfl (fun _ => (v_move' (by conv => (lhs; whnf)))) rfl (by kernel_rfl) ?_
    refine fl_on 10 rfl rfl rfl rfl (fun _ => (v_move' (by conv => (lhs; whnf)))) rfl (by kernel_rfl) ?_
    refine fl_on 11 rfl rfl rfl rfl (fun _ => (v_move' (by conv => (lhs; whnf)))) rfl (by kernel_rfl) ?_
    refine fl_on 12 rfl rfl rfl rfl (fun _ => (v_ias k Try.underlying29 TF.t37 rfl rfl (by first | rfl | omega) (by first | omega | (dsimp only at *; omega)))) rfl (by kernel_rfl) ?_
    refine fl_ond 13 rfl rfl rfl rfl (v_load rfl (hrk st.im)) rfl (by kernel_rfl) ?_
    refine fl_ond 14 rfl rfl rfl rfl (v_b2s Try.underlying37 Try.underlying5 Try.underlying9 st.im hs1 rfl) rfl (by kernel_rfl) ?_
    refine fl_on 15 rfl rfl rfl rfl (fun _ => (v_move' (by conv => (lhs; whnf)))) rfl (by kernel_rfl) ?_
    refine fl_on 16 rfl rfl rfl rfl (fun _ => (v_move' (by conv => (lhs; whnf)))) rfl (by kernel_rfl) ?_
    refine fl_on 17 rfl rfl rfl rfl (fun _ => (v_ias i Try.underlying29 TF.t37 rfl rfl (by first | rfl | omega) (by first | omega | (dsimp only at *; omega)))) rfl (by kernel_rfl) ?_
    refine fl_ond 18 rfl rfl rfl rfl (v_load rfl (hrp st.im)) rfl (by kernel_rfl) ?_
    refine fl_ond 19 rfl rfl rfl rfl (v_b2s Try.underlying37 Try.underlying5 Try.underlying9 st.im hs0 rfl) rfl (by kernel_rfl) ?_
    refine fl_on 20 rfl rfl rfl rfl (fun _ => (v_nesE rfl rfl)) rfl (by kernel_rfl) ?_
    refine fl_val 21 rfl (fun _ => (v_pick rfl)) rfl (by kernel_rfl) ?_
    refine fl_nil (by kernel_rfl) ⟨obl_on rfl rfl rfl rfl rfl (v_b2s Try.underlying37 Try.underlying5 Try.underlying9 st.im hs0 rfl), obl_on rfl rfl rfl rfl rfl (v_load rfl (hrp st.im)), obl_on rfl rfl rfl rfl rfl (v_b2s Try.underlying37 Try.underlying5 Try.underlying9 st.im hs1 rfl), obl_on rfl rfl rfl rfl rfl (v_load rfl (hrk st.im)), obl_ld rfl rfl rfl (v_load rfl ((hDM st).rd rfl (by omega) (hDk i (by omega) hi) (im_heapM _))), obl_ld rfl rfl rfl (v_load rfl ((hDM st).rd rfl (by omega) (hDk k (by omega) hkN) (im_heapM _))), trivial⟩ ?_
    refine then_go ?_
    refine wc_cond rfl (fun h46 => ?_) (fun h46 => ?_)
    ·refine wc_seq ?_
     refine wc_region ?_
     refine wl_val (v_assign' (by conv => (lhs; whnf))) rfl ?_
     refine wl_nil ?_
     refine then_go ?_
     refine wc_ret (block_ret (then_ret (then_ret (block_ret (block_ret (then_ret (then_ret (block_ret (then_ret ?_)))))))))
     exact ret1 rfl ⟨(st.keepOnly (l := []) (List.nil_sublist _)).touch, true, rfl, fun h => by cases h⟩
    ·refine wc_skip ?_
     refine block_go (then_go ?_)
     refine wc_region ?_
     refine wl_val (v_move' (by conv => (lhs; whnf))) rfl ?_
     refine wl_val (v_add' (c := ((k + 1 : Nat) : Int)) rfl rfl (by omega) (by omega) (by omega)) rfl ?_
     refine wl_val (v_assign' (by conv => (lhs; whnf))) rfl ?_
     refine wl_nil ?_
     refine then_go ?_
     refine ⟨q2 - 1, by simp; omega, k + 1, by omega, rfl, rfl, rfl, rfl, ?_, st⟩
     intro p hp hps
     rw [List.take_succ_eq_append_getElem hkN, List.map_append] at hp
     rcases List.mem_append.1 hp with hp | hp
     ·exact hin p hp hps
     ·rw [List.map_singleton, List.mem_singleton] at hp
      subst hp
      first
      | (exact (hsum hps).elim)
      | (simpa using h46)
   ·have hk : k < i := by omega
    have hkN : k < N.length := by omega
    obtain ⟨_, _, _, hnv2, hs1, hrk⟩ := hN.elem hkN
    cases hnv2
    refine wc_draw TF.mixed ?_
    have st := st.pure (touch_drew _)
    refine fl_val 0 rfl (fun _ => (v_move' (by conv => (lhs; whnf)))) rfl (by kernel_rfl) ?_
    refine fl_val 1 rfl (fun _ => (v_move' (by conv => (lhs; whnf)))) rfl (by kernel_rfl) ?_
    refine fl_val 2 rfl (fun _ => (v_ias k Try.underlying22 TF.t28 rfl rfl (by first | rfl | omega) (by first | omega | (dsimp only at *; omega)))) rfl (by kernel_rfl) ?_
    refine fl_ld 3 rfl (v_load rfl ((hDM st).rd rfl (by omega) (hDk k (by omega) hkN) (im_heapM _))) (by kernel_rfl) ?_
    refine fl_val 4 rfl (fun _ => (v_move' (by conv => (lhs; whnf)))) rfl (by kernel_rfl) ?_
    refine fl_val 5 rfl (fun _ => (v_move' (by conv => (lhs; whnf)))) rfl (by kernel_rfl) ?_
    refine fl_val 6 rfl (fun _ => (v_ias i Try.underlying22 TF.t28 rfl rfl (by first | rfl | omega) (by first | omega | (dsimp only at *; omega)))) rfl (by kernel_rfl) ?_
    refine fl_ld 7 rfl (v_load rfl ((hDM st).rd rfl (by omega) (hDk i (by omega) hi) (im_heapM _))) (by kernel_rfl) ?_
    refine fl_val 8 rfl (fun _ => (wl_valD (v_eq_arr Try.underlying28 TF.t5 Try.underlying5 TF.e28 rfl rfl (length_sum _) (length_sum _)) (decide_eq_false hsum))) rfl (by kernel_rfl) ?_
    refine fl_val 9 rfl (fun _ => (v_move' (by conv => (lhs; whnf)))) rfl (by kernel_rfl) ?_
    refine fl_off 10 rfl rfl rfl rfl rfl rfl (by kernel_rfl) ?_
    refine fl_off 11 rfl rfl rfl rfl rfl rfl (by kernel_rfl) ?_
    refine fl_off 12 rfl rfl rfl rfl rfl rfl (by kernel_rfl) ?_
    refine fl_offd 13 rfl rfl rfl rfl rfl rfl (by kernel_rfl) ?_
    refine fl_offd 14 rfl rfl rfl rfl rfl rfl (by kernel_rfl) ?_
    refine fl_off 15 rfl rfl rfl rfl rfl rfl (by kernel_rfl) ?_
    refine fl_off 16 rfl rfl rfl rfl rfl rfl (by kernel_rfl) ?_
    refine fl_off 17 rfl rfl rfl rfl rfl rfl (by kernel_rfl) ?_
    refine fl_offd 18 rfl rfl rfl rfl rfl rfl (by kernel_rfl) ?_
    refine fl_offd 19 rfl rfl rfl rfl rfl rfl (by kernel_rfl) ?_
    refine fl_off 20 rfl rfl rfl rfl rfl rfl (by kernel_rfl) ?_
    refine fl_val 21 rfl (fun _ => (v_pick rfl)) rfl (by kernel_rfl) ?_
    refine fl_nil (by kernel_rfl) ⟨obl_off rfl rfl rfl rfl rfl rfl, obl_off rfl rfl rfl rfl rfl rfl, obl_off rfl rfl rfl rfl rfl rfl, obl_off rfl rfl rfl rfl rfl rfl, obl_ld rfl rfl rfl (v_load rfl ((hDM st).rd rfl (by omega) (hDk i (by omega) hi) (im_heapM _))), obl_ld rfl rfl rfl (v_load rfl ((hDM st).rd rfl (by omega) (hDk k (by omega) hkN) (im_heapM _))), trivial⟩ ?_
    refine then_go ?_
    refine wc_false rfl ?_
    refine wc_skip ?_
    refine block_go (then_go ?_)
    refine wc_region ?_
    refine wl_val (v_move' (by conv => (lhs; whnf))) rfl ?_
    refine wl_val (v_add' (c := ((k + 1 : Nat) : Int)) rfl rfl (by omega) (by omega) (by omega)) rfl ?_
    refine wl_val (v_assign' (by conv => (lhs; whnf))) rfl ?_
    refine wl_nil ?_
    refine then_go ?_
    refine ⟨q2 - 1, by simp; omega, k + 1, by omega, rfl, rfl, rfl, rfl, ?_, st⟩
    intro p hp hps
    rw [List.take_succ_eq_append_getElem hkN, List.map_append] at hp
    rcases List.mem_append.1 hp with hp | hp
    ·exact hin p hp hps
    ·rw [List.map_singleton, List.mem_singleton] at hp
     subst hp
     first
     | (exact (hsum hps).elim)
     | (simpa using h46)
  ·refine wc_exit (then_exit (then_exit (block_hit ?_)))
   refine block_go (then_go ?_)
   refine wc_region ?_
   refine wl_val (v_move' (by conv => (lhs; whnf))) rfl ?_
   refine wl_val (v_add' (c := ((i + 1 : Nat) : Int)) rfl rfl (by omega) (by omega) (by omega)) rfl ?_
   refine wl_val (v_assign' (by conv => (lhs; whnf))) rfl ?_
   refine wl_nil ?_
   refine then_go ?_
   have hki : k = i := by omega
   rw [hki] at hin
   refine ⟨q - 1, by simp; omega, i + 1, _, by omega, rfl, rfl, rfl, ?_, by rw [← hDL]; exact st⟩
   rw [List.take_succ_eq_append_getElem hi, List.map_append]
   exact nc_snoc hnc hin
 ·refine wc_exit (then_exit (then_exit (block_hit ?_)))
  refine then_go ?_
  refine wc_seq ?_
  refine wc_region ?_
  refine wl_val (v_assign' (by conv => (lhs; whnf))) rfl ?_
  refine wl_nil ?_
  refine then_go ?_
  refine wc_ret ?_
  have hiN : i = N.length := by omega
  subst hiN
  rw [List.take_length] at hnc
  exact ret1 rfl ⟨(st.keepOnly (l := []) (List.nil_sublist _)).touch, false, rfl, fun _ => hnc⟩
end
end Go.Proofs.Ytonlmjpenonabaa

namespace Go.Proofs.Ytonlmjpenonabaa
open Go Go.RowKit K SH PT
theorem keptF_mem {Z : List (By × By)} {Kp : List Bool} {L : List (By × By)} : ∀ {i : Nat}, L ∈ keptF Z Kp i → ∃ j, j + 1 ≤ i ∧ L = trF Z (j + 1)
 | 0, h => by cases h
 | i + 1, h => by
  rw [keptF] at h
  split at h
  ·rcases List.mem_append.1 h with h | h
   ·obtain ⟨j, h1, h2⟩ := keptF_mem h
    exact ⟨j, by omega, h2⟩
   ·exact ⟨i, Nat.le_refl _, List.mem_singleton.1 h⟩
  ·obtain ⟨j, h1, h2⟩ := keptF_mem h
   exact ⟨j, by omega, h2⟩
theorem allP_mem {Z : List (By × By)} {p : By} : ∀ {i : Nat}, p ∈ allP Z i ↔ ∃ j, j + 1 ≤ i ∧ p ∈ sv 256 0 (trF Z (j + 1))
 | 0 => by simp [allP]
 | i + 1 => by
  rw [allP, addP_mem, allP_mem]
  constructor
  ·rintro (⟨j, h1, h2⟩ | h)
   ·exact ⟨j, by omega, h2⟩
   ·exact ⟨i, Nat.le_refl _, h⟩
  ·rintro ⟨j, h1, h2⟩
   by_cases hj : j = i
   ·subst hj; exact .inr h2
   ·exact .inl ⟨j, by omega, h2⟩
theorem trF_fine {Z : List (By × By)} (h : D32p Z) {i : Nat} : Fine (trF Z i) := Fine.of fun x hx => h x (List.mem_of_mem_take hx)
theorem allP_short {Z : List (By × By)} (h : D32p Z) {i : Nat} : ∀ p ∈ allP Z i, p.length ≤ 1000000000 := fun p hp => by
 obtain ⟨j, _, hj⟩ := allP_mem.1 hp
 have hf := trF_fine h (i := j + 1)
 have := (sv_ok hf.d hf.D (g := 256) rfl p hj).2
 omega
theorem kept_fine {Z : List (By × By)} {Kp : List Bool} (h : D32p Z) {i : Nat} {L : List (By × By)} (hL : L ∈ keptF Z Kp i) : Fine L ∧ L.length ≤ i ∧ ∀ p ∈ sv 256 0 L, p ∈ allP Z i := by
 obtain ⟨j, h1, rfl⟩ := keptF_mem hL
 exact ⟨trF_fine h, Nat.le_trans trF_len h1, fun p hp => allP_mem.2 ⟨j, h1, hp⟩⟩
theorem kept_mark {Z : List (By × By)} {Kp : List Bool} {n : Nat} {N : List (By × Value)} (h : D32p Z) (hN : N.map (·.1) = allP Z n) (hc : NoClash (N.map (·.1))) :
  errF (pgM (mapOf N)) (linkF (keptF Z Kp n)) = 0 ∧ markF (pgM (mapOf N)) (linkF (keptF Z Kp n)) = (keptF Z Kp n).flatMap (sv 256 0) ∧ ∀ d ∈ linkF (keptF Z Kp n), (ldF (pgM (mapOf N)) d).1.length ≤ n := by
 have hfull : ∀ L ∈ keptF Z Kp n, FullL (pgM (mapOf N)) (sv 256 0 L) := fun L hL => full_map hc fun p hp => by rw [hN]; exact (kept_fine h hL).2.2 p hp
 have h1 := trees_mark (M := pgM (mapOf N)) (Ts := keptF Z Kp n) (fun L hL => (kept_fine h hL).1) hfull
 refine ⟨h1.1, h1.2, fun d hd => ?_⟩
 obtain ⟨L, hL, rfl⟩ := List.mem_map.1 hd
 rw [(tree_ld (kept_fine h hL).1 (hfull L hL)).1]
 exact (kept_fine h hL).2.1
theorem filt_len {α : Type} {p : α → Bool} : ∀ {l : List α}, (l.filter p).length + (l.filter fun x => !p x).length = l.length
 | [] => rfl
 | x :: l => by
  have := filt_len (p := p) (l := l)
  rw [List.filter_cons, List.filter_cons]
  cases p x <;> simp <;> omega
section
variable {m : Mem} {wI : World}
theorem c_reapKeeps {av vv kv : Value} {A V : List By} {Kp : List Bool} (him : Im m wI) (hA : DigM m av A) (hV : DigM m vv V) (hK : LsM m kv bC 1 Kp) :
  Ret Try.prog 11 #[.agg #[av, vv, kv]] wI fun v w' => Tch wI w' [] [] ∧ v = .bool true := by
 have st := St.start him
 refine ret_of Try.call11 Try.func11 rfl Try.ntmps11 Try.results11 rfl ?_
 refine wc_seq ?_
 refine wc_region ?_
 refine wl_box (v := .agg #[av, vv, kv]) rfl st rfl ?_
 intro b1 w st
 refine wl_val (v_assign' (by conv => (lhs; whnf))) rfl ?_
 refine wl_nil ?_
 refine then_go ?_
 refine wc_seq ?_
 refine wc_region ?_
 refine wl_val (v_load rfl (st.reads (v := .agg #[av, vv, kv]) 0 rfl TF.t53 (getV_all rfl))) rfl ?_
 refine wl_call rfl (c_all18 st.im hA hV hK) rfl ?_
 rintro v14 w ⟨t14, m1, hg1, hi1, lv, pv, tv, N, Ks, n, hn, rfl, hlk, hN, hls, hKs, hNe, hKe⟩
 have st := (st.grown hg1 t14 hi1).keepOnly (l := []) (List.nil_sublist _)
 obtain ⟨Z, hZ⟩ : ∃ Z, Z = A.zip V := ⟨_, rfl⟩
 have hZ32 : D32p Z := by rw [hZ]; exact d32_zip hA.1 hV.1
 rw [← hZ] at hlk hNe hKe
 have hn20 : n ≤ 20 := by omega
 have hNn : N.length ≤ 120000 := by
  have h1 := congrArg List.length hNe
  rw [List.length_map] at h1
  have := allP_len (Z := Z) hn20
  omega
 have hNl : ∀ x ∈ N, x.1.length ≤ 1000000000 := fun x hx => allP_short hZ32 x.1 (by rw [← hNe]; exact List.mem_map.2 ⟨x, hx, rfl⟩)
 obtain ⟨Ts, hTs⟩ : ∃ Ts, Ts = keptF Z Kp n := ⟨_, rfl⟩
 have hTl : Ts.length ≤ n := by rw [hTs]; exact keptF_len
 have hkf : ∀ L ∈ Ts, Fine L ∧ L.length ≤ n ∧ ∀ p ∈ sv 256 0 L, p ∈ allP Z n := fun L hL => kept_fine hZ32 (hTs ▸ hL)
 have hkm : NoClash (N.map (·.1)) → _ := fun hc => kept_mark (Kp := Kp) hZ32 hNe hc
 rw [← hTs] at hlk hKe hkm
 obtain ⟨la, lc, rfl⟩ := hlk.sl
 obtain ⟨pa, pc, hpv⟩ : ∃ a c, pv = .slice a N.length c := by obtain ⟨⟨_, a, c, h, _⟩, _⟩ := hN; exact ⟨a, c, h⟩
 subst hpv
 obtain ⟨ta, tc, rfl⟩ := hls.sl
 rw [List.length_map] at hlk ⊢
 refine wl_val (v_move' (by conv => (lhs; whnf))) rfl ?_
 refine wl_val (v_extract rfl rfl) rfl ?_
 refine wl_val (v_extract rfl rfl) rfl ?_
 refine wl_val (v_extract rfl rfl) rfl ?_
 refine wl_val (v_assign' (by conv => (lhs; whnf))) rfl ?_
 refine wl_val (v_assign' (by conv => (lhs; whnf))) rfl ?_
 refine wl_val (v_assign' (by conv => (lhs; whnf))) rfl ?_
 refine wl_nil ?_
 refine then_go ?_
 refine wc_seq ?_
 refine wc_seq ?_
 refine wc_region ?_
 refine wl_val (v_move' (by conv => (lhs; whnf))) rfl ?_
 refine wl_call rfl (c_any17 st.im hN hNl (by omega)) rfl ?_
 rintro v19 w ⟨t19, c, rfl, hany⟩
 have st := st.pure t19
 refine wl_nil ?_
 refine then_go ?_
 refine wc_cond rfl (fun h19 => ?_) (fun h19 => ?_)
 ·refine wc_seq ?_
  refine wc_region ?_
  refine wl_call rfl (c_works18 st.im) rfl ?_
  rintro v20 w ⟨t20, rfl⟩
  have st := st.pure t20
  refine wl_val (v_assign' (by conv => (lhs; whnf))) rfl ?_
  refine wl_nil ?_
  refine then_go ?_
  refine wc_ret (then_ret ?_)
  exact ret1 rfl ⟨st.touch, rfl⟩
 ·refine wc_skip ?_
  refine then_go ?_
  refine wc_seq ?_
  refine wc_region ?_
  refine wl_val (v_move' (by conv => (lhs; whnf))) rfl ?_
  refine wl_val (v_move' (by conv => (lhs; whnf))) rfl ?_
  have hnc := hany h19
  obtain ⟨k1, k2, k3⟩ := hkm hnc
  refine wl_call rfl (c_split st.im hlk hN hNl (by omega) (by rw [List.length_map]; omega) (fun d hd => Nat.le_trans (k3 d hd) (by omega))) rfl ?_
  rintro v24 w ⟨t24, m2, hg2, hi2, hv24⟩
  have st := st.grown hg2 t24 hi2
  unfold SplitOut at hv24
  rw [k1, if_neg (by simp), k2] at hv24
  obtain ⟨nv, iv, NA, NB, rfl, hNA, hNB, hAe, hBe⟩ := hv24
  have hAB : NA.length + NB.length = N.length := by
   have h1 := congrArg List.length hAe
   have h2 := congrArg List.length hBe
   rw [List.length_map] at h1 h2
   rw [h1, h2]
   exact filt_len.trans (List.length_map _)
  obtain ⟨xa, xc, hnv⟩ : ∃ a c, nv = .slice a NA.length c := by obtain ⟨⟨_, a, c, h, _⟩, _⟩ := hNA; exact ⟨a, c, h⟩
  obtain ⟨ya, yc, hiv⟩ : ∃ a c, iv = .slice a NB.length c := by obtain ⟨⟨_, a, c, h, _⟩, _⟩ := hNB; exact ⟨a, c, h⟩
  subst hnv
  subst hiv
  have hlk := hlk.mono hg2.le
  have hls := hls.mono hg2.le
  have hKs : ∀ x ∈ Ks, LvM m2 (.agg #[x.2.1, x.2.2]) x.1 := fun x hx => (hKs x hx).mono hg2.le
  have hcA : NoClash (NA.map (·.1)) := fun p hp q hq h => hnc p (by rw [hAe] at hp; exact (List.mem_filter.1 hp).1) q (by rw [hAe] at hq; exact (List.mem_filter.1 hq).1) h
  have hAf : ∀ L ∈ Ts, FullL (pgM (mapOf NA)) (sv 256 0 L) := fun L hL => full_map hcA fun p hp => by
   rw [hAe, hNe]
   exact List.mem_filter.2 ⟨(hkf L hL).2.2 p hp, decide_eq_true (List.mem_map.2 ⟨p, List.mem_flatMap.2 ⟨L, hL, hp⟩, rfl⟩)⟩
  have hAl : ∀ x ∈ NA, x.1.length ≤ 1000000000 := fun x hx => by
   have : x.1 ∈ NA.map (·.1) := List.mem_map.2 ⟨x, hx, rfl⟩
   rw [hAe] at this
   obtain ⟨y, hy, hyx⟩ := List.mem_map.1 (List.mem_filter.1 this).1
   rw [← hyx]; exact hNl y hy
  refine wl_val (v_move' (by conv => (lhs; whnf))) rfl ?_
  refine wl_val (v_extract rfl rfl) rfl ?_
  refine wl_val (v_extract rfl rfl) rfl ?_
  refine wl_val (v_extract rfl rfl) rfl ?_
  refine wl_val (v_assign' (by conv => (lhs; whnf))) rfl ?_
  refine wl_val (v_assign' (by conv => (lhs; whnf))) rfl ?_
  refine wl_val (v_assign' (by conv => (lhs; whnf))) rfl ?_
  refine wl_nil ?_
  refine then_go ?_
  refine wc_seq ?_
  refine wc_seq ?_
  refine wc_region ?_
  refine wl_val (v_move' (by conv => (lhs; whnf))) rfl ?_
  refine wl_val (wl_valD (v_neq rfl rfl) (q := false) rfl) rfl ?_
  refine wl_val (v_move' (by conv => (lhs; whnf))) rfl ?_
  refine wl_on rfl rfl ?_
  refine wl_val (v_move' (by conv => (lhs; whnf))) rfl ?_
  refine wl_on rfl rfl ?_
  refine wl_val (v_len_s Try.underlying29 rfl) rfl ?_
  refine wl_on rfl rfl ?_
  refine wl_val (v_move' (by conv => (lhs; whnf))) rfl ?_
  refine wl_on rfl rfl ?_
  refine wl_val (v_len_s Try.underlying29 rfl) rfl ?_
  refine wl_on rfl rfl ?_
  refine wl_val (v_add' (c := ((NA.length + NB.length : Nat) : Int)) rfl rfl (by omega) (by omega) (by omega)) rfl ?_
  refine wl_on rfl rfl ?_
  refine wl_val (v_move' (by conv => (lhs; whnf))) rfl ?_
  refine wl_on rfl rfl ?_
  refine wl_val (v_len_s Try.underlying29 rfl) rfl ?_
  refine wl_on rfl rfl ?_
  refine wl_val (wl_valD (v_neq rfl rfl) (q := false) (by simp; omega)) rfl ?_
  refine wl_val (v_pick rfl) rfl ?_
  refine wl_nil ?_
  refine then_go ?_
  refine wc_false rfl ?_
  refine wc_skip ?_
  refine then_go ?_
  refine wc_seq ?_
  refine wc_seq ?_
  refine wc_region ?_
  refine wl_val (v_assign' (by conv => (lhs; whnf))) rfl ?_
  refine wl_nil ?_
  refine then_go ?_
  refine wc_block ?_
  refine wc_loop (S := Nat) (fun q r w' => ∃ (i : Nat) (m' : Mem), q + i = Ts.length ∧ r 3 = .slice la Ts.length lc ∧ r 5 = .slice ta Ks.length tc ∧ r 6 = .slice xa NA.length xc ∧ r 9 = .int .i64 i ∧ (∀ k o, m2 k = some o → m' k = some o) ∧ St m m' [] wI w' []) id Ts.length ⟨0, m2, by omega, rfl, rfl, rfl, rfl, fun _ _ h => h, st⟩ ?_
  clear st
  rintro q r w2 ⟨i, m', hqi, g3, g5, g6, g9, hmm, st⟩
  refine wc_o 3 g3 (wc_o 5 g5 (wc_o 6 g6 (wc_o 9 g9 ?_)))
  have hlk := hlk.mono hmm
  have hls := hls.mono hmm
  have hNA := hNA.mono hmm
  refine wc_seq ?_
  refine wc_seq ?_
  refine wc_region ?_
  refine wl_val (v_move' (by conv => (lhs; whnf))) rfl ?_
  refine wl_val (v_move' (by conv => (lhs; whnf))) rfl ?_
  refine wl_val (v_len_s Try.underlying22 rfl) rfl ?_
  refine wl_val (v_lss rfl rfl) rfl ?_
  refine wl_nil ?_
  refine then_go ?_
  refine wc_if rfl (fun h43 => ?_) (fun h43 => ?_)
  ·refine wc_skip ?_
   refine then_go ?_
   refine wc_seq ?_
   refine wc_block ?_
   refine wc_seq ?_
   have hi : i < Ts.length := by omega
   have hKl : Ks.length = Ts.length := by rw [← hKe, List.length_map]
   have hiK : i < Ks.length := by omega
   have hil : i < (linkF Ts).length := by rw [List.length_map]; exact hi
   obtain ⟨lb, lo, hla, hrl⟩ := hlk.at hil
   subst hla
   obtain ⟨L, hL⟩ : ∃ L, L = Ts[i] := ⟨_, rfl⟩
   have hLT : L ∈ Ts := by rw [hL]; exact List.getElem_mem hi
   obtain ⟨hLf, hLn, _⟩ := hkf L hLT
   have hlL : (linkF Ts)[i] = sum (pg1 256 0 L) := by rw [hL]; exact List.getElem_map ..
   obtain ⟨q1, q2⟩ := tree_ld hLf (hAf L hLT)
   have hKi : Ks[i].1 = L := by
    have e : Ts[i] = (Ks.map (·.1))[i]'(by rw [List.length_map]; exact hiK) := by simp [hKe]
    rw [hL, e, List.getElem_map]
   have hLv := (hKs _ (List.getElem_mem hiK)).mono hmm
   rw [hKi] at hLv
   obtain ⟨tb, to', hta⟩ := hls.ptr (by omega) (by decide)
   subst hta
   rw [hlL] at hrl
   refine wc_region ?_
   refine wl_val (v_move' (by conv => (lhs; whnf))) rfl ?_
   refine wl_val (v_move' (by conv => (lhs; whnf))) rfl ?_
   refine wl_val (v_ias i Try.underlying22 TF.t28 rfl rfl (by first | rfl | omega) (by first | omega | (dsimp only at *; omega))) rfl ?_
   refine wl_val (v_load rfl (hrl st.im)) rfl ?_
   refine wl_val (v_move' (by conv => (lhs; whnf))) rfl ?_
   refine wl_call rfl (c_load st.im (length_sum _) hNA hAl (by omega) (by rw [q1]; show L.length ≤ _; omega)) rfl ?_
   rintro v52 w ⟨t52, m3, hg3, hi3, hv52⟩
   have st := st.grown hg3 t52 hi3
   unfold LdOut at hv52
   rw [q1, if_neg (by simp)] at hv52
   have hself : ofLv (L, 0).1 = L := ofLv_self hLf.D hLf.U hLf.d
   rw [hself, if_pos rfl] at hv52
   obtain ⟨p, rfl, hp⟩ := hv52
   have hLv := hLv.mono hg3.le
   have hls := hls.mono hg3.le
   have hrT : ∀ {w' : World}, Im m3 w' → Reads Try.prog w' 34 ⟨tb, to' + i * 2, none⟩ (.agg #[Ks[i].2.1, Ks[i].2.2]) := fun him => hls.rd0 rfl hiK (by decide) TF.t34 (v' := .agg #[Ks[i].2.1, Ks[i].2.2]) (getV_all rfl) him
   refine wl_val (v_move' (by conv => (lhs; whnf))) rfl ?_
   refine wl_val (v_extract rfl rfl) rfl ?_
   refine wl_val (v_extract rfl rfl) rfl ?_
   refine wl_val (v_assign' (by conv => (lhs; whnf))) rfl ?_
   refine wl_val (v_assign' (by conv => (lhs; whnf))) rfl ?_
   refine wl_nil ?_
   refine then_go ?_
   refine wc_seq ?_
   refine wc_draw TF.mixed ?_
   have st := st.pure (touch_drew _)
   refine fl_val 0 rfl (fun _ => (v_move' (by conv => (lhs; whnf)))) rfl (by kernel_rfl) ?_
   refine fl_val 1 rfl (fun _ => (wl_valD (v_neq rfl rfl) (q := false) rfl)) rfl (by kernel_rfl) ?_
   refine fl_val 2 rfl (fun _ => (v_move' (by conv => (lhs; whnf)))) rfl (by kernel_rfl) ?_
   refine fl_valg 3 rfl rfl rfl rfl (fun hg _ => (v_move' (by conv => (lhs; whnf)))) rfl (by kernel_rfl) ?_
   refine fl_valg 4 rfl rfl rfl rfl (fun hg _ => (wl_valD (v_eq_nil (p := some ⟨p, 0, none⟩) Try.underlying25 rfl rfl) (q := false) rfl)) rfl (by kernel_rfl) ?_
   refine fl_val 5 rfl (fun _ => (v_pick rfl)) rfl (by kernel_rfl) ?_
   refine fl_val 6 rfl (fun _ => (v_move' (by conv => (lhs; whnf)))) rfl (by kernel_rfl) ?_
   refine fl_valg 7 rfl rfl rfl rfl (fun hg _ => (v_move' (by conv => (lhs; whnf)))) rfl (by kernel_rfl) ?_
   refine fl_valg 9 rfl rfl rfl rfl (fun hg _ => (v_move' (by conv => (lhs; whnf)))) rfl (by kernel_rfl) ?_
   refine fl_valg 10 rfl rfl rfl rfl (fun hg _ => (v_move' (by conv => (lhs; whnf)))) rfl (by kernel_rfl) ?_
   refine fl_valg 11 rfl rfl rfl rfl (fun hg _ => (v_ias i Try.underlying54 TF.t34 rfl rfl (by first | rfl | omega) (by first | omega | (dsimp only at *; omega)))) rfl (by kernel_rfl) ?_
   refine fl_ldg 12 rfl rfl rfl (fun hg => (v_load rfl (hrT st.im))) (by kernel_rfl) ?_
   refine fl_eff1 8 [11, 10, 9, 5, 4, 3, 2, 1, 0] [12] (by kernel_rfl) ⟨obl_ldg (v' := undef) rfl rfl rfl rfl rfl rfl (fun _ => (v_load rfl (hrT st.im))), trivial⟩ rfl ?_
   refine wl_on rfl rfl ?_
   refine wl_call rfl (c_troot st.im hp) rfl ?_
   rintro v63 w ⟨t63, rfl⟩
   have st := st.pure t63
   refine wl_nil ⟨rfl, ?_⟩
   refine fl_eff1 13 [11, 10, 9, 5, 4, 3, 2, 1, 0] [] (by kernel_rfl) ⟨obl_ldg (v' := undef) rfl rfl rfl rfl rfl rfl (fun _ => (v_load rfl (hrT st.im))), trivial⟩ rfl ?_
   refine wl_on rfl rfl ?_
   refine wl_call rfl (c_rroot' st.im hLv hLf.D (by omega)) rfl ?_
   rintro v68 w ⟨t68, rfl⟩
   have st := st.pure t68
   refine wl_nil ⟨rfl, ?_⟩
   refine fl_valg 14 rfl rfl rfl rfl (fun hg _ => (wl_valD (v_ne_arr Try.underlying28 TF.t5 Try.underlying5 TF.e28 rfl rfl (length_root _) (length_root _)) (decide_eq_false (fun h => h rfl)))) rfl (by kernel_rfl) ?_
   refine fl_val 15 rfl (fun _ => (v_pick rfl)) rfl (by kernel_rfl) ?_
   refine fl_nil (by kernel_rfl) trivial ?_
   refine then_go ?_
   refine wc_false rfl ?_
   refine wc_skip ?_
   refine block_go (then_go ?_)
   refine wc_region ?_
   refine wl_val (v_move' (by conv => (lhs; whnf))) rfl ?_
   refine wl_val (v_add' (c := ((i + 1 : Nat) : Int)) rfl rfl (by omega) (by omega) (by omega)) rfl ?_
   refine wl_val (v_assign' (by conv => (lhs; whnf))) rfl ?_
   refine wl_nil ?_
   refine then_go ?_
   exact ⟨q - 1, by simp; omega, i + 1, m3, by omega, rfl, rfl, rfl, rfl, fun k o h => hg3.le k o (hmm k o h), st⟩
  ·refine wc_exit (then_exit (then_exit (block_hit ?_)))
   refine then_go ?_
   refine wc_seq ?_
   refine wc_region ?_
   refine wl_call rfl (c_works18 st.im) rfl ?_
   rintro v71 w ⟨t71, rfl⟩
   have st := st.pure t71
   refine wl_val (v_assign' (by conv => (lhs; whnf))) rfl ?_
   refine wl_nil ?_
   refine then_go ?_
   refine wc_ret ?_
   exact ret1 rfl ⟨st.touch, rfl⟩
end
end Go.Proofs.Ytonlmjpenonabaa

namespace Go.Proofs.Ytonlmjpenonabaa
open Go Go.ChangeShapes Go.WideShapes Go.ChangeAt Go.RowKit K SH PT
theorem Try.ownia : ownKnob Try.prog.godebug = none := by kernel_rfl
theorem Try.laidOutia : laidOutB Try.prog = true := by kernel_rfl
set_option maxRecDepth 100000 in
theorem reapKeeps_lifted (os : Os) (started : os.Started) (H : Type) (enc : TypeId × Value → H) :
  ReturnsInHanded {} Try.checked os 11 .any (Rows.reapKeepsSpec.pre6 enc Try.prog Try.f11 Rows.reapKeepsRow.domain false) (Rows.reapKeepsSpec.post enc Try.prog Try.f11 false true false false) := by
 refine returnsInHanded_of_change (C := Try.checked) Try.ownia started (by kernel_rfl) Try.func11
  (ChangeSpec.witness6 (enc := enc) (C := Try.checked) false ⟨#[], #[.agg #[.slice none 0 0, .slice none 0 0, .slice none 0 0]], []⟩ 12 (by kernel_rfl) (by kernel_rfl) (by kernel_rfl) (by kernel_rfl)) ?_
 intro W base args ds gs before hval0 hW hcnd _
 have hval : ∀ (j : Nat) t v, Try.f11.params[j]? = some t → args[j]? = some v → Value.okWide Try.prog W .any base t v := hval0
 have hW' := hW
 obtain ⟨p, q, hA0, hV, rfl, hfz, hnd⟩ := hW
 have hA : DataW.TrodAll enc Try.prog W 0 (fun _ => true) true Try.f11.params.toList args.toList ds p := hA0
 rw [Try.params11] at hA hval
 obtain ⟨v0, d0, rfl, rfl, h0⟩ := trodAll_one hA
 obtain ⟨l0, rfl, hl0⟩ := open_trees (hval 0 53 v0 rfl rfl) h0
 refine Calls.mono (P := Try.prog) (c_reapKeeps (im_heapM W) hl0.1 hl0.2.1 hl0.2.2).2 fun e W1 ⟨v, he, t, hv⟩ => ?_
 subst hv
 subst he
 exact ⟨_, rfl, post_true Try.laidOutia (by kernel_rfl) rfl hW' t rfl rfl Try.underlying4⟩
theorem reapKeeps_holds : Rows.ReapKeepsSaid :=
 OpenClaim.holds_of_wide 11 Try.f11 rfl rfl rfl rfl rfl rfl rfl ⟨rfl, rfl, rfl, rfl, rfl⟩ rfl rfl rfl rfl rfl (by kernel_rfl) Try.func11 (by kernel_rfl)
  (of_decide_eq_true (by kernel_rfl)) (by unfold Func.isWrapper; first | (rw [if_pos (by decide +kernel)]; kernel_rfl) | (rw [if_neg (by decide +kernel)]; exact ⟨rfl, rfl⟩))
  (fun os started H enc _ => reapKeeps_lifted os started H enc)
end Go.Proofs.Ytonlmjpenonabaa
