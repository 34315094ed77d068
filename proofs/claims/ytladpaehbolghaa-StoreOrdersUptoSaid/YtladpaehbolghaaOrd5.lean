/-
  Proved here: for every input of bulk at most 1048576 the law StoreOrders returns true, and what it was handed reads behind the call as before. No condition.
-/
import Derived.Test.YtladpaehbolghaaRows
import Derived.JoinedCond
import Derived.Test.YtladpaehbolghaaOrd4

namespace Go.Proofs.Ytladpaehbolghaa
open Go Go.RowKit K SH GC JR OS
open DK hiding By
section
variable {m : Mem} {wI : World}
theorem c_storeOrders {lv mv : Value} {A B : List AcT} {key : By} (him : Im m wI) (hA : AcsM m lv A) (hB : AcsM m mv B) (hsA : ShortA A) (hsB : ShortA B) (hk : key.length ≤ 9223372036854775807) :
    Ret Try.prog 3 #[lv, mv, .string (strB key)] wI fun v w' => Tch wI w' [] [] ∧ v = .bool true := by
  have st := St.start him
  obtain ⟨la, lc, rfl⟩ := hA.1.sl
  obtain ⟨ka, kc, rfl⟩ := hB.1.sl
  refine ret_of Try.call3 Try.func3 rfl Try.ntmps3 Try.results3 rfl ?_
  refine wc_seq ?_
  refine wc_region ?_
  refine wl_val (v_assign' (by conv => (lhs; whnf))) rfl ?_
  refine wl_nil ?_
  refine then_go ?_
  refine wc_seq ?_
  refine wc_region ?_
  refine wl_call rfl (c_fresh15 st) rfl ?_
  rintro v26 w ⟨m1, d1, k1, wv1, g1, gl1, sb1, mb1, n1, S1, s1, hn1, hm1, hlg1, hgn1, hmm1, rfl, st⟩
  refine wl_val (v_move' (by conv => (lhs; whnf))) rfl ?_
  refine wl_val (v_extract rfl rfl) rfl ?_
  refine wl_val (v_extract rfl rfl) rfl ?_
  refine wl_val (v_assign' (by conv => (lhs; whnf))) rfl ?_
  refine wl_val (v_assign' (by conv => (lhs; whnf))) rfl ?_
  refine wl_nil ?_
  refine then_go ?_
  refine wc_seq ?_
  refine wc_region ?_
  refine wl_call rfl (c_fresh15 st) rfl ?_
  rintro v30 w ⟨m2, d2, k2, wv2, g2, gl2, sb2, mb2, n2, S2, s2, hn2, hm2, hlg2, hgn2, hmm2, rfl, st⟩
  have hmm2 : ∀ k o, m k = some o → m2 k = some o := fun k o h => hmm2 k o (hmm1 k o h)
  have hA := hA.mono hmm2
  have hB := hB.mono hmm2
  refine wl_val (v_move' (by conv => (lhs; whnf))) rfl ?_
  refine wl_val (v_extract rfl rfl) rfl ?_
  refine wl_val (v_extract rfl rfl) rfl ?_
  refine wl_val (v_assign' (by conv => (lhs; whnf))) rfl ?_
  refine wl_val (v_assign' (by conv => (lhs; whnf))) rfl ?_
  refine wl_nil ?_
  refine then_go ?_
  refine wc_seq ?_
  refine wc_seq ?_
  refine wc_region ?_
  refine wl_val (v_move' (by conv => (lhs; whnf))) rfl ?_
  refine wl_val (v_eq_nil (p := some ⟨d1, 0, none⟩) Try.underlying23 rfl rfl) rfl ?_
  refine wl_val (v_move' (by conv => (lhs; whnf))) rfl ?_
  refine wl_on rfl rfl ?_
  refine wl_val (v_move' (by conv => (lhs; whnf))) rfl ?_
  refine wl_on rfl rfl ?_
  refine wl_val (v_eq_nil (p := some ⟨d2, 0, none⟩) Try.underlying23 rfl rfl) rfl ?_
  refine wl_val (v_pick rfl) rfl ?_
  refine wl_val (v_move' (by conv => (lhs; whnf))) rfl ?_
  refine wl_on rfl rfl ?_
  refine wl_val (v_move' (by conv => (lhs; whnf))) rfl ?_
  refine wl_on rfl rfl ?_
  refine wl_val (v_eq_nil (p := some ⟨sb1, 0, none⟩) Try.underlying24 rfl rfl) rfl ?_
  refine wl_val (v_pick rfl) rfl ?_
  refine wl_val (v_move' (by conv => (lhs; whnf))) rfl ?_
  refine wl_on rfl rfl ?_
  refine wl_val (v_move' (by conv => (lhs; whnf))) rfl ?_
  refine wl_on rfl rfl ?_
  refine wl_val (v_eq_nil (p := some ⟨sb2, 0, none⟩) Try.underlying24 rfl rfl) rfl ?_
  refine wl_val (v_pick rfl) rfl ?_
  refine wl_nil ?_
  refine then_go ?_
  refine wc_false rfl ?_
  refine wc_skip ?_
  refine then_go ?_
  refine wc_seq ?_
  refine wc_seq ?_
  refine wc_region ?_
  refine wl_val (v_move' (by conv => (lhs; whnf))) rfl ?_
  refine wl_call rfl (c_light st.im hA hsA) rfl ?_
  rintro v48 w ⟨t48, cl1, rfl, hf1⟩
  have st := st.pure t48
  refine wl_val (v_not rfl) rfl ?_
  refine wl_val (v_move' (by conv => (lhs; whnf))) rfl ?_
  rcases Bool.eq_false_or_eq_true (!cl1) with hg3 | hg3
  · rw [hg3]
    refine wl_off rfl rfl rfl rfl ?_
    refine wl_off rfl rfl rfl rfl ?_
    refine wl_off rfl rfl rfl rfl ?_
    refine wl_val (v_pick rfl) rfl ?_
    refine wl_val (v_move' (by conv => (lhs; whnf))) rfl ?_
    refine wl_off rfl rfl rfl rfl ?_
    refine wl_off rfl rfl rfl rfl ?_
    refine wl_off rfl rfl rfl rfl ?_
    refine wl_val (v_pick rfl) rfl ?_
    refine wl_val (v_move' (by conv => (lhs; whnf))) rfl ?_
    refine wl_off rfl rfl rfl rfl ?_
    refine wl_off rfl rfl rfl rfl ?_
    refine wl_off rfl rfl rfl rfl ?_
    refine wl_val (v_pick rfl) rfl ?_
    refine wl_nil ?_
    refine then_go ?_
    refine wc_true rfl ?_
    refine wc_seq ?_
    refine wc_region ?_
    refine wl_call rfl (c_works15 (Es := []) (st.keepOnly (List.nil_sublist _))) rfl ?_
    rintro vw w ⟨⟨mw, hmw, st⟩, rfl⟩
    refine wl_val (v_assign' (by conv => (lhs; whnf))) rfl ?_
    refine wl_nil ?_
    refine then_go ?_
    refine wc_ret (then_ret ?_)
    exact ret1 rfl ⟨st.touch, rfl⟩
  · rw [hg3]
    refine wl_on rfl rfl ?_
    refine wl_val (v_move' (by conv => (lhs; whnf))) rfl ?_
    refine wl_on rfl rfl ?_
    refine wl_call rfl (c_light st.im hB hsB) rfl ?_
    rintro v52 w ⟨t52, cl2, rfl, hf2⟩
    have st := st.pure t52
    refine wl_on rfl rfl ?_
    refine wl_val (v_not rfl) rfl ?_
    refine wl_val (v_pick rfl) rfl ?_
    refine wl_val (v_move' (by conv => (lhs; whnf))) rfl ?_
    rcases Bool.eq_false_or_eq_true (!cl2) with hg8 | hg8
    · rw [hg8]
      refine wl_off rfl rfl rfl rfl ?_
      refine wl_off rfl rfl rfl rfl ?_
      refine wl_off rfl rfl rfl rfl ?_
      refine wl_val (v_pick rfl) rfl ?_
      refine wl_val (v_move' (by conv => (lhs; whnf))) rfl ?_
      refine wl_off rfl rfl rfl rfl ?_
      refine wl_off rfl rfl rfl rfl ?_
      refine wl_off rfl rfl rfl rfl ?_
      refine wl_val (v_pick rfl) rfl ?_
      refine wl_nil ?_
      refine then_go ?_
      refine wc_true rfl ?_
      refine wc_seq ?_
      refine wc_region ?_
      refine wl_call rfl (c_works15 (Es := []) (st.keepOnly (List.nil_sublist _))) rfl ?_
      rintro vw w ⟨⟨mw, hmw, st⟩, rfl⟩
      refine wl_val (v_assign' (by conv => (lhs; whnf))) rfl ?_
      refine wl_nil ?_
      refine then_go ?_
      refine wc_ret (then_ret ?_)
      exact ret1 rfl ⟨st.touch, rfl⟩
    · rw [hg8]
      refine wl_on rfl rfl ?_
      refine wl_val (v_move' (by conv => (lhs; whnf))) rfl ?_
      refine wl_on rfl rfl ?_
      refine wl_call rfl (c_chk st.im hA (by have := (hf1 (by simpa using hg3)).1; omega)) rfl ?_
      rintro v57 w ⟨t57, rfl⟩
      have st := st.pure t57
      refine wl_on rfl rfl ?_
      refine wl_val (v_neq rfl rfl) rfl ?_
      refine wl_val (v_pick rfl) rfl ?_
      refine wl_val (v_move' (by conv => (lhs; whnf))) rfl ?_
      by_cases hg13 : ¬ ((chkL (A.map (·.1)) : Nat) : Int) = 0
      · rw [show decide (¬ ((chkL (A.map (·.1)) : Nat) : Int) = 0) = true from decide_eq_true hg13]
        refine wl_off rfl rfl rfl rfl ?_
        refine wl_off rfl rfl rfl rfl ?_
        refine wl_off rfl rfl rfl rfl ?_
        refine wl_val (v_pick rfl) rfl ?_
        refine wl_nil ?_
        refine then_go ?_
        refine wc_true rfl ?_
        refine wc_seq ?_
        refine wc_region ?_
        refine wl_call rfl (c_works15 (Es := []) (st.keepOnly (List.nil_sublist _))) rfl ?_
        rintro vw w ⟨⟨mw, hmw, st⟩, rfl⟩
        refine wl_val (v_assign' (by conv => (lhs; whnf))) rfl ?_
        refine wl_nil ?_
        refine then_go ?_
        refine wc_ret (then_ret ?_)
        exact ret1 rfl ⟨st.touch, rfl⟩
      · rw [show decide (¬ ((chkL (A.map (·.1)) : Nat) : Int) = 0) = false from decide_eq_false hg13]
        refine wl_on rfl rfl ?_
        refine wl_val (v_move' (by conv => (lhs; whnf))) rfl ?_
        refine wl_on rfl rfl ?_
        refine wl_call rfl (c_chk st.im hB (by have := (hf2 (by simpa using hg8)).1; omega)) rfl ?_
        rintro v62 w ⟨t62, rfl⟩
        have st := st.pure t62
        refine wl_on rfl rfl ?_
        refine wl_val (v_neq rfl rfl) rfl ?_
        refine wl_val (v_pick rfl) rfl ?_
        refine wl_nil ?_
        refine then_go ?_
        refine wc_cond rfl (fun h64 => ?_) (fun h64 => ?_)
        · refine wc_seq ?_
          refine wc_region ?_
          refine wl_call rfl (c_works15 (Es := []) (st.keepOnly (List.nil_sublist _))) rfl ?_
          rintro vw w ⟨⟨mw, hmw, st⟩, rfl⟩
          refine wl_val (v_assign' (by conv => (lhs; whnf))) rfl ?_
          refine wl_nil ?_
          refine then_go ?_
          refine wc_ret (then_ret ?_)
          exact ret1 rfl ⟨st.touch, rfl⟩
        · refine wc_skip ?_
          refine then_go ?_
          refine wc_seq ?_
          refine wc_seq ?_
          have cA := hf1 (by simpa using hg3)
          have cB := hf2 (by simpa using hg8)
          have kA : chkL (A.map (·.1)) = 0 := by omega
          have kB : chkL (B.map (·.1)) = 0 := by have := of_decide_eq_false h64; omega
          have hlA := cA.1
          have hlB := cB.1
          refine wc_region ?_
          refine wl_val (v_assign' (by conv => (lhs; whnf))) rfl ?_
          refine wl_nil ?_
          refine then_go ?_
          refine wc_block ?_
          refine wc_loop (S := Nat) (fun q r w' => ∃ (i : Nat), q + i = A.length ∧ r 0 = .slice la A.length lc ∧ r 1 = .slice ka B.length kc ∧ r 2 = .string (strB key) ∧ r 8 = .pointer (some ⟨sb1, 0, none⟩) ∧ r 10 = .pointer (some ⟨sb2, 0, none⟩) ∧ r 11 = .int .i64 i ∧ (∀ a ∈ A.take i, ∀ b ∈ B, a.1.key ≠ b.1.key) ∧ St m m2 [] wI w' (lgE g2 d2 k2 n2 s2 gl2 wv2 S2 [] (stE sb2 g2 mb2 [] (lgE g1 d1 k1 n1 s1 gl1 wv1 S1 [] (stE sb1 g1 mb1 [] []))))) id A.length ⟨0, by omega, rfl, rfl, rfl, rfl, rfl, rfl, by simp, st⟩ ?_
          clear st
          rintro q r w4 ⟨i, hqi, g0, g1', g2', g8, g10, g11, hap, st⟩
          refine wc_o 0 g0 (wc_o 1 g1' (wc_o 2 g2' (wc_o 8 g8 (wc_o 10 g10 (wc_o 11 g11 ?_)))))
          refine wc_seq ?_
          refine wc_seq ?_
          refine wc_region ?_
          refine wl_val (v_move' (by conv => (lhs; whnf))) rfl ?_
          refine wl_val (v_move' (by conv => (lhs; whnf))) rfl ?_
          refine wl_val (v_len_s Try.underlying22 rfl) rfl ?_
          refine wl_val (v_lss rfl rfl) rfl ?_
          refine wl_nil ?_
          refine then_go ?_
          refine wc_if rfl (fun h69 => ?_) (fun h69 => ?_)
          · refine wc_skip ?_
            refine then_go ?_
            refine wc_seq ?_
            refine wc_block ?_
            refine wc_seq ?_
            refine wc_region ?_
            refine wl_val (v_assign' (by conv => (lhs; whnf))) rfl ?_
            refine wl_nil ?_
            refine then_go ?_
            refine wc_block ?_
            have hi : i < A.length := by omega
            refine wc_loop (S := Nat) (fun q r w' => ∃ (j : Nat), q + j = B.length ∧ r 0 = .slice la A.length lc ∧ r 1 = .slice ka B.length kc ∧ r 2 = .string (strB key) ∧ r 8 = .pointer (some ⟨sb1, 0, none⟩) ∧ r 10 = .pointer (some ⟨sb2, 0, none⟩) ∧ r 11 = .int .i64 i ∧ r 12 = .int .i64 j ∧ (∀ b ∈ B.take j, A[i].1.key ≠ b.1.key) ∧ St m m2 [] wI w' (lgE g2 d2 k2 n2 s2 gl2 wv2 S2 [] (stE sb2 g2 mb2 [] (lgE g1 d1 k1 n1 s1 gl1 wv1 S1 [] (stE sb1 g1 mb1 [] []))))) id B.length ⟨0, by omega, rfl, rfl, rfl, rfl, rfl, rfl, rfl, by simp, st⟩ ?_
            clear st
            rintro q2 r w5 ⟨j, hqj, g0, g1', g2', g8, g10, g11, g12, hbp, st⟩
            refine wc_o 0 g0 (wc_o 1 g1' (wc_o 2 g2' (wc_o 8 g8 (wc_o 10 g10 (wc_o 11 g11 (wc_o 12 g12 ?_))))))
            refine wc_seq ?_
            refine wc_seq ?_
            refine wc_region ?_
            refine wl_val (v_move' (by conv => (lhs; whnf))) rfl ?_
            refine wl_val (v_move' (by conv => (lhs; whnf))) rfl ?_
            refine wl_val (v_len_s Try.underlying22 rfl) rfl ?_
            refine wl_val (v_lss rfl rfl) rfl ?_
            refine wl_nil ?_
            refine then_go ?_
            refine wc_if rfl (fun h75 => ?_) (fun h75 => ?_)
            · refine wc_skip ?_
              refine then_go ?_
              refine wc_seq ?_
              refine wc_block ?_
              refine wc_seq ?_
              have hj : j < B.length := by omega
              obtain ⟨lb, lo, da, dc, hla, hd, _, hrk, _, _⟩ := hA.at hi
              obtain ⟨ub, uo, ea, ec, hua, he, _, hsk, _, _⟩ := hB.at hj
              subst hla hua
              refine wc_draw TF.mixed ?_
              have st := st.pure (touch_drew _)
              refine fl_val 0 rfl (fun _ => (v_move' (by conv => (lhs; whnf)))) rfl (by kernel_rfl) ?_
              refine fl_val 1 rfl (fun _ => (v_move' (by conv => (lhs; whnf)))) rfl (by kernel_rfl) ?_
              refine fl_val 2 rfl (fun _ => (v_ias i Try.underlying22 TF.t33 rfl rfl (by first | rfl | omega) (by first | omega | (dsimp only at *; omega)))) rfl (by kernel_rfl) ?_
              refine fl_val 3 rfl (fun _ => (v_fa TF.f33_0 rfl)) rfl (by kernel_rfl) ?_
              refine fl_ld 4 rfl (v_load rfl (hrk st.im)) (by kernel_rfl) ?_
              refine fl_val 5 rfl (fun _ => (v_move' (by conv => (lhs; whnf)))) rfl (by kernel_rfl) ?_
              refine fl_val 6 rfl (fun _ => (v_move' (by conv => (lhs; whnf)))) rfl (by kernel_rfl) ?_
              refine fl_val 7 rfl (fun _ => (v_ias j Try.underlying22 TF.t33 rfl rfl (by first | rfl | omega) (by first | omega | (dsimp only at *; omega)))) rfl (by kernel_rfl) ?_
              refine fl_val 8 rfl (fun _ => (v_fa TF.f33_0 rfl)) rfl (by kernel_rfl) ?_
              refine fl_ld 9 rfl (v_load rfl (hsk st.im)) (by kernel_rfl) ?_
              refine fl_val 10 rfl (fun _ => (v_eqs rfl rfl)) rfl (by kernel_rfl) ?_
              refine fl_nil (by kernel_rfl) ⟨obl_ld rfl rfl rfl (v_load rfl (hsk st.im)), obl_ld rfl rfl rfl (v_load rfl (hrk st.im)), trivial⟩ ?_
              refine then_go ?_
              refine wc_cond rfl (fun h88 => ?_) (fun h88 => ?_)
              · refine wc_seq ?_
                refine wc_region ?_
                refine wl_call rfl (c_works15 (Es := []) (st.keepOnly (List.nil_sublist _))) rfl ?_
                rintro vw w ⟨⟨mw, hmw, st⟩, rfl⟩
                refine wl_val (v_assign' (by conv => (lhs; whnf))) rfl ?_
                refine wl_nil ?_
                refine then_go ?_
                refine wc_ret (block_ret (then_ret (then_ret (block_ret (block_ret (then_ret (then_ret (block_ret (then_ret ?_)))))))))
                exact ret1 rfl ⟨st.touch, rfl⟩
              · refine wc_skip ?_
                refine block_go (then_go ?_)
                refine wc_region ?_
                refine wl_val (v_move' (by conv => (lhs; whnf))) rfl ?_
                refine wl_val (v_add' (c := ((j + 1 : Nat) : Int)) rfl rfl (by omega) (by omega) (by omega)) rfl ?_
                refine wl_val (v_assign' (by conv => (lhs; whnf))) rfl ?_
                refine wl_nil ?_
                refine then_go ?_
                exact ⟨q2 - 1, by simp; omega, j + 1, by omega, rfl, rfl, rfl, rfl, rfl, rfl, rfl, by intro b hb; rw [List.take_succ_eq_append_getElem hj] at hb; rcases List.mem_append.1 hb with hb | hb; exact hbp b hb; rw [List.mem_singleton.1 hb]; simpa using h88, st⟩
            · refine wc_exit (then_exit (then_exit (block_hit ?_)))
              refine block_go (then_go ?_)
              have hjB : j = B.length := by omega
              refine wc_region ?_
              refine wl_val (v_move' (by conv => (lhs; whnf))) rfl ?_
              refine wl_val (v_add' (c := ((i + 1 : Nat) : Int)) rfl rfl (by omega) (by omega) (by omega)) rfl ?_
              refine wl_val (v_assign' (by conv => (lhs; whnf))) rfl ?_
              refine wl_nil ?_
              refine then_go ?_
              exact ⟨q - 1, by simp; omega, i + 1, by omega, rfl, rfl, rfl, rfl, rfl, rfl, by intro a ha b hb; rw [List.take_succ_eq_append_getElem hi] at ha; rcases List.mem_append.1 ha with ha | ha; exact hap a ha b hb; rw [List.mem_singleton.1 ha]; exact hbp b (by rw [hjB, List.take_length]; exact hb), st⟩
          · refine wc_exit (then_exit (then_exit (block_hit ?_)))
            refine then_go ?_
            refine wc_seq ?_
            have hiA : i = A.length := by omega
            have hne : ∀ a ∈ (A.map (·.1)), ∀ b ∈ (B.map (·.1)), a.key ≠ b.key := by
              intro a ha b hb
              obtain ⟨x, hx, rfl⟩ := List.mem_map.1 ha
              obtain ⟨y, hy, rfl⟩ := List.mem_map.1 hb
              exact hap x (by rw [hiA, List.take_length]; exact hx) y hy
            clear hap
            refine wc_region ?_
            refine wl_val (v_move' (by conv => (lhs; whnf))) rfl ?_
            refine wl_val (v_move' (by conv => (lhs; whnf))) rfl ?_
            have rn : Risen ([] : Kys) := by simp [Risen]
            obtain ⟨o1, ho1⟩ : ∃ o, o = applyR [] [] (A.map (·.1)) n1 := ⟨_, rfl⟩
            obtain ⟨ri1, bk1, ln1⟩ := apply_facts (R := []) (A := (A.map (·.1))) (n := n1) rn
            have ok1 := apply_ok (M := []) (R := []) (n := n1) kA
            rw [← ho1] at ri1 bk1 ln1 ok1
            have bk0 : bulkK ([] : Kys) = 0 := rfl
            rw [bk0] at bk1
            simp only [List.length_nil, List.length_map] at ln1
            have st : St m m2 [] wI _ ((lgE g1 d1 k1 n1 s1 gl1 wv1 S1 [] (stE sb1 g1 mb1 [] [])) ++ (lgE g2 d2 k2 n2 s2 gl2 wv2 S2 [] (stE sb2 g2 mb2 [] []))) := st.perm (List.perm_append_comm (l₁ := (lgE g2 d2 k2 n2 s2 gl2 wv2 S2 [] (stE sb2 g2 mb2 [] []))) (l₂ := (lgE g1 d1 k1 n1 s1 gl1 wv1 S1 [] (stE sb1 g1 mb1 [] []))))
            refine wl_call rfl (c_sapply (N := []) (L := []) st hlg1 (by rw [hgn1]; decide) (by intro x hx; cases hx) (by intro x hx; cases hx) rn (.refl _) hA (by omega) (by simp) (by simp [bulkK]; omega)) rfl ?_
            rintro v92 w ⟨m3, wva1, gla1, Na1, Sa1, sa1, La1, hmm3, hv92, hPa1, _, hNa1, oka1, hga1, hkva1, _, hpea1, st⟩
            have hv92 : v92 = .int .i64 (o1.2.2 : Nat) := by rw [ho1]; exact hv92
            subst hv92
            have hNa1 : Na1.map (·.1) = o1.2.1 := by rw [ho1]; exact hNa1
            have hpea1 : o1.1.Perm (kvs La1) := by rw [ho1]; exact hpea1
            have hla1 := hpea1.length_eq
            rw [length_kvs] at hla1
            have hB := hB.mono hmm3
            have hA := hA.mono hmm3
            refine wl_val (v_move' (by conv => (lhs; whnf))) rfl ?_
            refine wl_val (v_move' (by conv => (lhs; whnf))) rfl ?_
            obtain ⟨o2, ho2⟩ : ∃ o, o = applyR o1.1 (Na1.map (·.1)) (B.map (·.1)) n1 := ⟨_, rfl⟩
            obtain ⟨ri2, bk2, ln2⟩ := apply_facts (R := Na1.map (·.1)) (A := (B.map (·.1))) (n := n1) ri1
            have ok2 := apply_ok (M := o1.1) (R := Na1.map (·.1)) (n := n1) kB
            rw [← ho2] at ri2 bk2 ln2 ok2
            simp only [List.length_map] at ln2
            refine wl_call rfl (c_sapply st oka1 (by have : s1.gen.toNat = 1 := by rw [hgn1]; rfl
                                                     omega) hPa1 hkva1 ri1 hpea1 hB (by omega) (by omega) (by omega)) rfl ?_
            rintro v95 w ⟨m4, wva2, gla2, Na2, Sa2, sa2, La2, hmm4, hv95, hPa2, _, hNa2, oka2, hga2, hkva2, _, hpea2, st⟩
            have hv95 : v95 = .int .i64 (o2.2.2 : Nat) := by rw [ho2]; exact hv95
            subst hv95
            have hpea2 : o2.1.Perm (kvs La2) := by rw [ho2]; exact hpea2
            have hla2 := hpea2.length_eq
            rw [length_kvs] at hla2
            have hB := hB.mono hmm4
            have hA := hA.mono hmm4
            refine wl_val (v_assign' (by conv => (lhs; whnf))) rfl ?_
            refine wl_val (v_assign' (by conv => (lhs; whnf))) rfl ?_
            refine wl_nil ?_
            refine then_go ?_
            refine wc_seq ?_
            refine wc_region ?_
            refine wl_val (v_move' (by conv => (lhs; whnf))) rfl ?_
            refine wl_val (v_move' (by conv => (lhs; whnf))) rfl ?_
            obtain ⟨o3, ho3⟩ : ∃ o, o = applyR [] [] (B.map (·.1)) n2 := ⟨_, rfl⟩
            obtain ⟨ri3, bk3, ln3⟩ := apply_facts (R := []) (A := (B.map (·.1))) (n := n2) rn
            have ok3 := apply_ok (M := []) (R := []) (n := n2) kB
            rw [← ho3] at ri3 bk3 ln3 ok3
            rw [bk0] at bk3
            simp only [List.length_nil, List.length_map] at ln3
            have st : St m m4 [] wI _ ((lgE g2 d2 k2 n2 s2 gl2 wv2 S2 [] (stE sb2 g2 mb2 [] [])) ++ (lgE g1 d1 k1 n1 sa2 gla2 wva2 Sa2 Na2 (stE sb1 g1 mb1 La2 []))) := st.perm (List.perm_append_comm (l₁ := (lgE g1 d1 k1 n1 sa2 gla2 wva2 Sa2 Na2 (stE sb1 g1 mb1 La2 []))) (l₂ := (lgE g2 d2 k2 n2 s2 gl2 wv2 S2 [] (stE sb2 g2 mb2 [] []))))
            refine wl_call rfl (c_sapply (N := []) (L := []) st hlg2 (by rw [hgn2]; decide) (by intro x hx; cases hx) (by intro x hx; cases hx) rn (.refl _) hB (by omega) (by simp) (by simp [bulkK]; omega)) rfl ?_
            rintro v98 w ⟨m5, wvb1, glb1, Nb1, Sb1, sb1', Lb1, hmm5, hv98, hPb1, _, hNb1, okb1, hgb1, hkvb1, _, hpeb1, st⟩
            have hv98 : v98 = .int .i64 (o3.2.2 : Nat) := by rw [ho3]; exact hv98
            subst hv98
            have hpeb1 : o3.1.Perm (kvs Lb1) := by rw [ho3]; exact hpeb1
            have hlb1 := hpeb1.length_eq
            rw [length_kvs] at hlb1
            have hA := hA.mono hmm5
            refine wl_val (v_move' (by conv => (lhs; whnf))) rfl ?_
            refine wl_val (v_move' (by conv => (lhs; whnf))) rfl ?_
            obtain ⟨o4, ho4⟩ : ∃ o, o = applyR o3.1 (Nb1.map (·.1)) (A.map (·.1)) n2 := ⟨_, rfl⟩
            obtain ⟨ri4, bk4, ln4⟩ := apply_facts (R := Nb1.map (·.1)) (A := (A.map (·.1))) (n := n2) ri3
            have ok4 := apply_ok (M := o3.1) (R := Nb1.map (·.1)) (n := n2) kA
            rw [← ho4] at ri4 bk4 ln4 ok4
            simp only [List.length_map] at ln4
            refine wl_call rfl (c_sapply st okb1 (by have : s2.gen.toNat = 1 := by rw [hgn2]; rfl
                                                     omega) hPb1 hkvb1 ri3 hpeb1 hA (by omega) (by omega) (by omega)) rfl ?_
            rintro v101 w ⟨m6, wvb2, glb2, Nb2, Sb2, sb2', Lb2, hmm6, hv101, hPb2, _, hNb2, okb2, hgb2, hkvb2, _, hpeb2, st⟩
            have hv101 : v101 = .int .i64 (o4.2.2 : Nat) := by rw [ho4]; exact hv101
            subst hv101
            have hpeb2 : o4.1.Perm (kvs Lb2) := by rw [ho4]; exact hpeb2
            have hlb2 := hpeb2.length_eq
            rw [length_kvs] at hlb2
            refine wl_val (v_assign' (by conv => (lhs; whnf))) rfl ?_
            refine wl_val (v_assign' (by conv => (lhs; whnf))) rfl ?_
            refine wl_nil ?_
            refine then_go ?_
            refine wc_seq ?_
            refine wc_seq ?_
            refine wc_region ?_
            refine wl_val (v_move' (by conv => (lhs; whnf))) rfl ?_
            refine wl_val (v_neq rfl rfl) rfl ?_
            refine wl_val (v_move' (by conv => (lhs; whnf))) rfl ?_
            refine wl_valg rfl rfl (fun e => (v_move' (by conv => (lhs; whnf)))) rfl ?_
            refine wl_valg rfl rfl (fun e => (v_neq (by first | rfl | exact gx e rfl) (by first | rfl | exact gx e rfl))) rfl ?_
            refine wl_val (v_pickO rfl rfl rfl) rfl ?_
            refine wl_val (v_move' (by conv => (lhs; whnf))) rfl ?_
            refine wl_valg rfl rfl (fun e => (v_move' (by conv => (lhs; whnf)))) rfl ?_
            refine wl_valg rfl rfl (fun e => (v_neq (by first | rfl | exact gx e rfl) (by first | rfl | exact gx e rfl))) rfl ?_
            refine wl_val (v_pickO rfl rfl rfl) rfl ?_
            refine wl_val (v_move' (by conv => (lhs; whnf))) rfl ?_
            refine wl_valg rfl rfl (fun e => (v_move' (by conv => (lhs; whnf)))) rfl ?_
            refine wl_valg rfl rfl (fun e => (v_neq (by first | rfl | exact gx e rfl) (by first | rfl | exact gx e rfl))) rfl ?_
            refine wl_val (v_pickO rfl rfl rfl) rfl ?_
            refine wl_nil ?_
            refine then_go ?_
            refine wc_cond rfl (fun h115 => ?_) (fun h115 => ?_)
            · refine wc_seq ?_
              refine wc_region ?_
              refine wl_val (v_move' (by conv => (lhs; whnf))) rfl ?_
              refine wl_val (v_eql rfl rfl) rfl ?_
              refine wl_val (v_move' (by conv => (lhs; whnf))) rfl ?_
              refine wl_valg rfl rfl (fun e => (v_move' (by conv => (lhs; whnf)))) rfl ?_
              refine wl_valg rfl rfl (fun e => (v_eql (by first | rfl | exact gx e rfl) (by first | rfl | exact gx e rfl))) rfl ?_
              refine wl_val (v_pickO rfl rfl rfl) rfl ?_
              refine wl_val (v_move' (by conv => (lhs; whnf))) rfl ?_
              refine wl_valg rfl rfl (fun e => (v_move' (by conv => (lhs; whnf)))) rfl ?_
              refine wl_valg rfl rfl (fun e => (v_eql (by first | rfl | exact gx e rfl) (by first | rfl | exact gx e rfl))) rfl ?_
              refine wl_val (v_pickO rfl rfl rfl) rfl ?_
              refine wl_val (v_move' (by conv => (lhs; whnf))) rfl ?_
              refine wl_valg rfl rfl (fun e => (v_move' (by conv => (lhs; whnf)))) rfl ?_
              refine wl_valg rfl rfl (fun e => (v_eql (by first | rfl | exact gx e rfl) (by first | rfl | exact gx e rfl))) rfl ?_
              refine wl_val (v_pickO rfl rfl rfl) rfl ?_
              refine wl_val (v_assign' (by conv => (lhs; whnf))) rfl ?_
              refine wl_nil ?_
              refine then_go ?_
              refine wc_ret (then_ret ?_)
              refine ret1 rfl ⟨st.touch, congrArg Value.bool ?_⟩
              exact any13 (ok1.imp And.left id) (ok2.imp And.left id) (ok3.imp And.left id) (ok4.imp And.left id) h115
            · refine wc_skip ?_
              refine then_go ?_
              refine wc_seq ?_
              obtain ⟨z1, z2, z3, z4⟩ := none13 h115
              have e1 := (ok1.resolve_right (by omega)).2
              have e2 := (ok2.resolve_right (by omega)).2
              have e3 := (ok3.resolve_right (by omega)).2
              have e4 := (ok4.resolve_right (by omega)).2
              have heq : o2.1 = o4.1 := by rw [e2, e1, e4, e3]; exact doneS_comm rn hne
              have hkva2 : KvOk m6 La2 := hkva2.mono fun k o h => hmm6 k o (hmm5 k o h)
              refine wc_region ?_
              refine wl_val (v_move' (by conv => (lhs; whnf))) rfl ?_
              have st : St m m6 [] wI _ ((lgE g1 d1 k1 n1 sa2 gla2 wva2 Sa2 Na2 (stE sb1 g1 mb1 La2 [])) ++ (lgE g2 d2 k2 n2 sb2' glb2 wvb2 Sb2 Nb2 (stE sb2 g2 mb2 Lb2 []))) := st.perm (List.perm_append_comm (l₁ := (lgE g2 d2 k2 n2 sb2' glb2 wvb2 Sb2 Nb2 (stE sb2 g2 mb2 Lb2 []))) (l₂ := (lgE g1 d1 k1 n1 sa2 gla2 wva2 Sa2 Na2 (stE sb1 g1 mb1 La2 []))))
              refine wl_call rfl (c_sallK st hkva2 ri2 hpea2 (by omega)) rfl ?_
              rintro v132 w ⟨kv1, vv1, E1, m7, rfl, hE1, hmm7, st⟩
              have st : St m m7 [] wI w (ksE kv1 E1 :: vsE vv1 E1 :: ((lgE g1 d1 k1 n1 sa2 gla2 wva2 Sa2 Na2 (stE sb1 g1 mb1 La2 [])) ++ (rowsE (E1.map (·.2)) ++ (lgE g2 d2 k2 n2 sb2' glb2 wvb2 Sb2 Nb2 (stE sb2 g2 mb2 Lb2 []))))) := st
              obtain ⟨m8, hmm8, hK1, st⟩ := all_keep st (kvok_len hkva2 hpea2 hE1)
              have p1 := SlM.one1 hK1.1
              have p2 := SlM.one1 hK1.2.1
              have hkva2 : KvOk m8 La2 := hkva2.mono fun k o h => hmm8 k o (hmm7 k o h)
              have hkvb2 : KvOk m8 Lb2 := hkvb2.mono fun k o h => hmm8 k o (hmm7 k o h)
              have st : St m m8 [] wI w ((lgE g1 d1 k1 n1 sa2 gla2 wva2 Sa2 Na2 (stE sb1 g1 mb1 La2 [])) ++ (lgE g2 d2 k2 n2 sb2' glb2 wvb2 Sb2 Nb2 (stE sb2 g2 mb2 Lb2 []))) := st
              refine wl_val (v_move' (by conv => (lhs; whnf))) rfl ?_
              refine wl_val (v_extract rfl rfl) rfl ?_
              refine wl_val (v_extract rfl rfl) rfl ?_
              refine wl_alloc TF.z37 st rfl ?_
              intro b17 w st
              refine wl_storeW (cs := #[kv1, vv1]) 0 st rfl TF.t37 rfl rfl rfl rfl (by intro u hu; simp at hu; rcases hu with rfl | rfl <;> assumption) ?_
              intro w st
              refine wl_val (v_assign' (by conv => (lhs; whnf))) rfl ?_
              refine wl_nil ?_
              refine then_go ?_
              refine wc_seq ?_
              refine wc_region ?_
              refine wl_val (v_move' (by conv => (lhs; whnf))) rfl ?_
              have st : St m m8 [] wI _ ((lgE g2 d2 k2 n2 sb2' glb2 wvb2 Sb2 Nb2 (stE sb2 g2 mb2 Lb2 [])) ++ (K.blk b17 #[kv1, vv1] 37 :: (lgE g1 d1 k1 n1 sa2 gla2 wva2 Sa2 Na2 (stE sb1 g1 mb1 La2 [])))) := st.perm (List.perm_append_comm (l₁ := (K.blk b17 #[kv1, vv1] 37 :: (lgE g1 d1 k1 n1 sa2 gla2 wva2 Sa2 Na2 (stE sb1 g1 mb1 La2 [])))) (l₂ := (lgE g2 d2 k2 n2 sb2' glb2 wvb2 Sb2 Nb2 (stE sb2 g2 mb2 Lb2 []))))
              refine wl_call rfl (c_sallK st hkvb2 ri4 hpeb2 (by omega)) rfl ?_
              rintro v137 w ⟨kv2, vv2, E2, m9, rfl, hE2, hmm9, st⟩
              have st : St m m9 [] wI w (ksE kv2 E2 :: vsE vv2 E2 :: ((lgE g2 d2 k2 n2 sb2' glb2 wvb2 Sb2 Nb2 (stE sb2 g2 mb2 Lb2 [])) ++ (rowsE (E2.map (·.2)) ++ (K.blk b17 #[kv1, vv1] 37 :: (lgE g1 d1 k1 n1 sa2 gla2 wva2 Sa2 Na2 (stE sb1 g1 mb1 La2 [])))))) := st
              obtain ⟨m10, hmm10, hK2, st⟩ := all_keep st (kvok_len hkvb2 hpeb2 hE2)
              have p3 := SlM.one1 hK2.1
              have p4 := SlM.one1 hK2.2.1
              have hkva2 : KvOk m10 La2 := hkva2.mono fun k o h => hmm10 k o (hmm9 k o h)
              have hkvb2 : KvOk m10 Lb2 := hkvb2.mono fun k o h => hmm10 k o (hmm9 k o h)
              have hK1 : KyM m10 kv1 vv1 E1 := hK1.mono fun k o h => hmm10 k o (hmm9 k o h)
              have st : St m m10 [] wI w ((lgE g2 d2 k2 n2 sb2' glb2 wvb2 Sb2 Nb2 (stE sb2 g2 mb2 Lb2 [])) ++ (K.blk b17 #[kv1, vv1] 37 :: (lgE g1 d1 k1 n1 sa2 gla2 wva2 Sa2 Na2 (stE sb1 g1 mb1 La2 [])))) := st
              refine wl_val (v_move' (by conv => (lhs; whnf))) rfl ?_
              refine wl_val (v_extract rfl rfl) rfl ?_
              refine wl_val (v_extract rfl rfl) rfl ?_
              refine wl_alloc TF.z37 st rfl ?_
              intro b19 w st
              refine wl_storeW (cs := #[kv2, vv2]) 0 st rfl TF.t37 rfl rfl rfl rfl (by intro u hu; simp at hu; rcases hu with rfl | rfl <;> assumption) ?_
              intro w st
              refine wl_val (v_assign' (by conv => (lhs; whnf))) rfl ?_
              refine wl_nil ?_
              refine then_go ?_
              refine wc_seq ?_
              refine wc_region ?_
              refine wl_val (v_move' (by conv => (lhs; whnf))) rfl ?_
              refine wl_val (v_move' (by conv => (lhs; whnf))) rfl ?_
              have st : St m m10 [] wI w ((lgE g1 d1 k1 n1 sa2 gla2 wva2 Sa2 Na2 (stE sb1 g1 mb1 La2 [])) ++ (K.blk b19 #[kv2, vv2] 37 :: (lgE g2 d2 k2 n2 sb2' glb2 wvb2 Sb2 Nb2 (stE sb2 g2 mb2 Lb2 [K.blk b17 #[kv1, vv1] 37])))) := st.perm (List.perm_append_comm (l₁ := K.blk b19 #[kv2, vv2] 37 :: (lgE g2 d2 k2 n2 sb2' glb2 wvb2 Sb2 Nb2 (stE sb2 g2 mb2 Lb2 [K.blk b17 #[kv1, vv1] 37]))) (l₂ := (lgE g1 d1 k1 n1 sa2 gla2 wva2 Sa2 Na2 (stE sb1 g1 mb1 La2 []))))
              refine wl_call rfl (c_sget (k := key) st hkva2 ri2 hpea2 hk) rfl ?_
              rintro v143 w ⟨u, rfl, st⟩
              obtain ⟨m11, hg11, hm11, st3⟩ := st.freezeR (i := 0) rfl (by simp)
              have hu := row_SlM (m := m11) (st.at (i := 0) rfl) hm11
              have hkvb2 : KvOk m11 Lb2 := hkvb2.mono hg11.le
              have st : St m m11 [] wI w ((lgE g1 d1 k1 n1 sa2 gla2 wva2 Sa2 Na2 (stE sb1 g1 mb1 La2 [K.blk b19 #[kv2, vv2] 37])) ++ (lgE g2 d2 k2 n2 sb2' glb2 wvb2 Sb2 Nb2 (stE sb2 g2 mb2 Lb2 [K.blk b17 #[kv1, vv1] 37]))) := st3
              refine wl_val (v_move' (by conv => (lhs; whnf))) rfl ?_
              refine wl_val (v_extract rfl rfl) rfl ?_
              refine wl_val (v_extract rfl rfl) rfl ?_
              refine wl_val (v_assign' (by conv => (lhs; whnf))) rfl ?_
              refine wl_val (v_assign' (by conv => (lhs; whnf))) rfl ?_
              refine wl_nil ?_
              refine then_go ?_
              refine wc_seq ?_
              refine wc_region ?_
              refine wl_val (v_move' (by conv => (lhs; whnf))) rfl ?_
              refine wl_val (v_move' (by conv => (lhs; whnf))) rfl ?_
              have st : St m m11 [] wI w ((lgE g2 d2 k2 n2 sb2' glb2 wvb2 Sb2 Nb2 (stE sb2 g2 mb2 Lb2 [K.blk b17 #[kv1, vv1] 37])) ++ (lgE g1 d1 k1 n1 sa2 gla2 wva2 Sa2 Na2 (stE sb1 g1 mb1 La2 [K.blk b19 #[kv2, vv2] 37]))) := st.perm (List.perm_append_comm (l₁ := lgE g1 d1 k1 n1 sa2 gla2 wva2 Sa2 Na2 (stE sb1 g1 mb1 La2 [K.blk b19 #[kv2, vv2] 37])) (l₂ := lgE g2 d2 k2 n2 sb2' glb2 wvb2 Sb2 Nb2 (stE sb2 g2 mb2 Lb2 [K.blk b17 #[kv1, vv1] 37])))
              refine wl_call rfl (c_sget (k := key) st hkvb2 ri4 hpeb2 hk) rfl ?_
              rintro v149 w ⟨u2, rfl, st⟩
              obtain ⟨m12, hg12, hm12, st3⟩ := st.freezeR (i := 0) rfl (by simp)
              have hu2 := row_SlM (m := m12) (st.at (i := 0) rfl) hm12
              have st : St m m12 [] wI w ((lgE g2 d2 k2 n2 sb2' glb2 wvb2 Sb2 Nb2 (stE sb2 g2 mb2 Lb2 [K.blk b17 #[kv1, vv1] 37])) ++ (lgE g1 d1 k1 n1 sa2 gla2 wva2 Sa2 Na2 (stE sb1 g1 mb1 La2 [K.blk b19 #[kv2, vv2] 37]))) := st3
              have hmm12 : ∀ k o, m10 k = some o → m12 k = some o := fun k o h => hg12.le k o (hg11.le k o h)
              refine wl_val (v_move' (by conv => (lhs; whnf))) rfl ?_
              refine wl_val (v_extract rfl rfl) rfl ?_
              refine wl_val (v_extract rfl rfl) rfl ?_
              refine wl_val (v_assign' (by conv => (lhs; whnf))) rfl ?_
              refine wl_val (v_assign' (by conv => (lhs; whnf))) rfl ?_
              refine wl_nil ?_
              refine then_go ?_
              refine wc_seq ?_
              refine wc_region ?_
              refine wl_val (v_move' (by conv => (lhs; whnf))) rfl ?_
              refine wl_val (v_move' (by conv => (lhs; whnf))) rfl ?_
              refine wl_on rfl rfl ?_
              refine wl_val (v_move' (by conv => (lhs; whnf))) rfl ?_
              refine wl_val (v_pick rfl) rfl ?_
              refine wl_val (v_move' (by conv => (lhs; whnf))) rfl ?_
              refine wl_on rfl rfl ?_
              refine wl_val (v_load rfl (st.reads (v := .agg #[kv1, vv1]) 5 rfl TF.t37 (getV_all rfl))) rfl ?_
              refine wl_on rfl rfl ?_
              refine wl_val (v_load rfl (st.reads (v := .agg #[kv2, vv2]) 11 rfl TF.t37 (getV_all rfl))) rfl ?_
              refine wl_on rfl rfl ?_
              refine wl_call rfl (c_samekeys st.im (hK1.mono hmm12) (hK2.mono hmm12) (by rw [hE1, hE2, heq]) (by have := congrArg List.length hE1; rw [length_kvs] at this; omega)) rfl ?_
              rintro v159 w ⟨t159, m13, hg13, hi13, rfl⟩
              have st := st.grown hg13 t159 hi13
              refine wl_val (v_pick rfl) rfl ?_
              refine wl_val (v_move' (by conv => (lhs; whnf))) rfl ?_
              refine wl_on rfl rfl ?_
              refine wl_val (v_move' (by conv => (lhs; whnf))) rfl ?_
              refine wl_on rfl rfl ?_
              refine wl_val (v_move' (by conv => (lhs; whnf))) rfl ?_
              refine wl_on rfl rfl ?_
              refine wl_val (wl_valD (v_eqb Try.underlying4 rfl rfl) (q := true) (by rw [heq]; simp)) rfl ?_
              refine wl_val (v_pick rfl) rfl ?_
              refine wl_val (v_move' (by conv => (lhs; whnf))) rfl ?_
              refine wl_on rfl rfl ?_
              refine wl_val (v_move' (by conv => (lhs; whnf))) rfl ?_
              refine wl_on rfl rfl ?_
              refine wl_val (v_move' (by conv => (lhs; whnf))) rfl ?_
              refine wl_on rfl rfl ?_
              refine wl_call rfl (c_same17 st.im (hu.mono fun k o h => hg13.le k o (hg12.le k o h)) (hu2.mono hg13.le)) rfl ?_
              rintro v169 w ⟨t169, rfl⟩
              have st := st.pure t169
              rw [decide_eq_true (by rw [heq])]
              refine wl_val (v_pick rfl) rfl ?_
              refine wl_val (v_move' (by conv => (lhs; whnf))) rfl ?_
              refine wl_on rfl rfl ?_
              refine wl_call rfl (c_works15 (Es := []) (st.keepOnly (List.nil_sublist _))) rfl ?_
              rintro vw w ⟨⟨mw, hmw, st⟩, rfl⟩
              refine wl_val (v_pick rfl) rfl ?_
              refine wl_val (v_assign' (by conv => (lhs; whnf))) rfl ?_
              refine wl_nil ?_
              refine then_go ?_
              refine wc_ret ?_
              exact ret1 rfl ⟨st.touch, rfl⟩
end
end Go.Proofs.Ytladpaehbolghaa

namespace Go.Proofs.Ytladpaehbolghaa
open Go Go.ChangeShapes Go.WideShapes Go.ChangeAt Go.RowKit K SH GC JR OS
theorem Try.ownof : ownKnob Try.prog.godebug = none := by kernel_rfl
theorem Try.laidOutof : laidOutB Try.prog = true := by kernel_rfl
theorem Try.trodAllof {H : Type} {enc : TypeId × Value → H} {w : World} {held : Bool} {P : Program} {base : Nat} {spare : Nat → Bool} {t0 t1 t2 : TypeId} {args : Array Value} {ds : List (DataW H)} {ps : List MemPlace} (h : DataW.TrodAll enc P w base spare held [t0, t1, t2] args.toList ds ps) :
  ∃ v0 v1 v2 d0 d1 d2 p0 p1 p2, args = #[v0, v1, v2] ∧ ds = [d0, d1, d2] ∧ ps = p0 ++ p1 ++ p2 ∧ DataW.Trod enc P w base spare held t0 v0 d0 p0 ∧ DataW.Trod enc P w base spare held t1 v1 d1 p1 ∧ DataW.Trod enc P w base spare held t2 v2 d2 p2 := by
 obtain ⟨v0, vs0, d0, ds0, p0, q0, hargs, rfl, rfl, hd0, h⟩ := trodAll_cons h
 obtain ⟨v1, vs1, d1, ds1, p1, q1, rfl, rfl, rfl, hd1, h⟩ := trodAll_cons h
 obtain ⟨v2, vs2, d2, ds2, p2, q2, rfl, rfl, rfl, hd2, h⟩ := trodAll_cons h
 obtain ⟨rfl, rfl, rfl⟩ := trodAll_nil h
 exact ⟨v0, v1, v2, d0, d1, d2, p0, p1, p2, by cases args; simp_all, rfl, by simp, hd0, hd1, hd2⟩
set_option maxRecDepth 100000 in
theorem storeOrders_lifted (os : Os) (started : os.Started) (H : Type) (enc : TypeId × Value → H) (Fi : Stop.Interp) :
  ReturnsInHanded {} Try.checked os 3 .any ((Rows.OpenSpec.upto Rows.storeOrdersSpec).pre6 enc Try.prog Try.f3 Rows.storeOrdersUptoRow.domain false) (((Rows.OpenSpec.upto Rows.storeOrdersSpec).at Fi).post enc Try.prog Try.f3 false true false false) := by
 refine returnsInHanded_of_cond (C := Try.checked) (s := (Rows.OpenSpec.upto Rows.storeOrdersSpec)) (k := Rows.uptoSmall) rfl Try.ownof started (by kernel_rfl) Try.func3
  (OpenSpec.witness (enc := enc) (C := Try.checked) (s := (Rows.OpenSpec.upto Rows.storeOrdersSpec)) (k := Rows.uptoSmall) rfl false ⟨#[], #[.slice none 0 0, .slice none 0 0, .string ⟨#[]⟩], []⟩ 12 (by kernel_rfl) (by kernel_rfl) (by kernel_rfl) (x := ([.nil, .nil, .lit (.string [])], [], [])) (by kernel_rfl) rfl (by kernel_rfl)) ?_
 intro W base args ds gs before hval0 hW _ hk _
 have hval : ∀ (j : Nat) t v, Try.f3.params[j]? = some t → args[j]? = some v → Value.okWide Try.prog W .any base t v := hval0
 have hW' := hW
 obtain ⟨p, q, hA0, hV, rfl, hfz, hnd⟩ := hW
 have hkb := bulk_of hk
 have hA : DataW.TrodAll enc Try.prog W 0 (fun _ => true) true Try.f3.params.toList args.toList ds p := hA0
 rw [Try.params3] at hA hval
 obtain ⟨v0, v1, v2, d0, d1, d2, p0, p1, p2, rfl, rfl, rfl, h0, h1, h2⟩ := Try.trodAllof hA
 obtain ⟨fu0, hf0⟩ := h0
 obtain ⟨sa0, sl0, sc0, rfl⟩ := okWide_slice Try.underlying22 (hval 0 22 v0 rfl rfl)
 have hb0 := hkb d0 (by simp)
 obtain ⟨l0, hl0, hu0⟩ := open_actsB hf0
 obtain ⟨fu1, hf1⟩ := h1
 obtain ⟨sa1, sl1, sc1, rfl⟩ := okWide_slice Try.underlying22 (hval 1 22 v1 rfl rfl)
 have hb1 := hkb d1 (by simp)
 obtain ⟨l1, hl1, hu1⟩ := open_actsB hf1
 obtain ⟨l2, rfl, hl2⟩ := open_str (hval 2 9 v2 rfl rfl) h2
 refine Calls.mono (P := Try.prog) (c_storeOrders (im_heapM W) hl0 hl1 (shortA hu0.1 hu0.2 hb0) (shortA hu1.1 hu1.2 hb1) hl2).2 fun e W1 ⟨v, he, t, hv⟩ => ?_
 subst hv
 subst he
 exact ⟨_, rfl, post_true Try.laidOutof (by kernel_rfl) rfl hW' t rfl rfl Try.underlying4⟩
theorem storeOrdersUpto_holds : Rows.StoreOrdersUptoSaid :=
 OpenClaim.holds_of_cond 3 Try.f3 rfl rfl rfl rfl rfl rfl rfl ⟨rfl, rfl, rfl, rfl, rfl⟩ rfl rfl rfl rfl rfl (by kernel_rfl) Try.func3 (by kernel_rfl)
  (of_decide_eq_true (by kernel_rfl)) (by unfold Func.isWrapper; first | (rw [if_pos (by decide +kernel)]; kernel_rfl) | (rw [if_neg (by decide +kernel)]; exact ⟨rfl, rfl⟩))
  (fun os started H enc _ Fi => storeOrders_lifted os started H enc Fi)
end Go.Proofs.Ytladpaehbolghaa
