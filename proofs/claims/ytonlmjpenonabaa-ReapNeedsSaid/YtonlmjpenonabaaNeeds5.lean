/-
  Proved here: for every input the law ReapNeeds returns true, and what it was handed reads behind the call as before. No condition.
-/
import Derived.Test.YtonlmjpenonabaaRows
import Derived.Test.YtonlmjpenonabaaNeeds4

namespace Go.Proofs.Ytonlmjpenonabaa
open Go Go.RowKit K SH PT
theorem hon_sub {U S : List By} {N : List (By × Value)} (hc : NoClash U) (hS : ∀ p ∈ S, p ∈ U) (hN : ∀ q ∈ N.map (·.1), q ∈ U) : HonL (pgM (mapOf N)) S := fun p hp => by
 cases hq : pgM (mapOf N) (sum p) with
 | none => exact .inl rfl
 | some q =>
  obtain ⟨h1, h2⟩ := pgM_mem hq
  rw [hc q (hN q h1) p (hS p hp) h2]
  exact .inr rfl
theorem ldE_7 {M : By → Option By} {d : By} (h : (ldF M d).2 = 7) : ldE M d = 7 := by unfold ldE; rw [h, if_pos (by decide)]
section
variable {m : Mem} {wI : World}
theorem c_reapNeeds {av vv kv : Value} {A V : List By} {Kp : List Bool} {z : Int} (him : Im m wI) (hA : DigM m av A) (hV : DigM m vv V) (hK : LsM m kv bC 1 Kp) :
    Ret Try.prog 8 #[.agg #[av, vv, kv], .int .i64 z] wI fun v w' => Tch wI w' [] [] ∧ v = .bool true := by
  have st := St.start him
  refine ret_of Try.call8 Try.func8 rfl Try.ntmps8 Try.results8 rfl ?_
  refine wc_seq ?_
  refine wc_region ?_
  refine wl_box (v := .agg #[av, vv, kv]) rfl st rfl ?_
  intro b2 w st
  refine wl_val (v_assign' (by conv => (lhs; whnf))) rfl ?_
  refine wl_nil ?_
  refine then_go ?_
  refine wc_seq ?_
  refine wc_region ?_
  refine wl_val (v_load rfl (st.reads (v := .agg #[av, vv, kv]) 0 rfl TF.t53 (getV_all rfl))) rfl ?_
  refine wl_call rfl (c_all18 st.im hA hV hK) rfl ?_
  rintro v19 w ⟨t19, m1, hg1, hi1, lv, pv, tv, N, Ks, n, hn, rfl, hlk, hN, hls, hKs, hNe, hKe⟩
  have st := (st.grown hg1 t19 hi1).keepOnly (l := []) (List.nil_sublist _)
  obtain ⟨Z, hZ⟩ : ∃ Z, Z = A.zip V := ⟨_, rfl⟩
  have hZ32 : D32p Z := by rw [hZ]; exact d32_zip hA.1 hV.1
  rw [← hZ] at hlk hNe hKe
  have hn20 : n ≤ 20 := by omega
  have hNn : N.length ≤ 120000 := by
    have h1 := congrArg List.length hNe
    rw [List.length_map] at h1
    have := allP_len (Z := Z) hn20
    omega
  have hNl : ∀ x ∈ N, x.1.length ≤ 1000000000 := fun x hx => allP_short hZ32 x.1 (by rw [← hNe]; exact List.mem_map.2 ⟨x, hx, rfl⟩)
  obtain ⟨Ts, hTs⟩ : ∃ Ts, Ts = keptF Z Kp n := ⟨_, rfl⟩
  have hTl : Ts.length ≤ n := by rw [hTs]; exact keptF_len
  have hkf : ∀ L ∈ Ts, Fine L ∧ L.length ≤ n ∧ ∀ p ∈ sv 256 0 L, p ∈ allP Z n := fun L hL => kept_fine hZ32 (hTs ▸ hL)
  have hkm : NoClash (N.map (·.1)) → _ := fun hc => kept_mark (Kp := Kp) hZ32 hNe hc
  rw [← hTs] at hlk hKe hkm
  obtain ⟨la, lc, rfl⟩ := hlk.sl
  obtain ⟨pa, pc, hpv⟩ : ∃ a c, pv = .slice a N.length c := by obtain ⟨⟨_, a, c, h, _⟩, _⟩ := hN; exact ⟨a, c, h⟩
  subst hpv
  obtain ⟨ta, tc, rfl⟩ := hls.sl
  rw [List.length_map] at hlk ⊢
  refine wl_val (v_move' (by conv => (lhs; whnf))) rfl ?_
  refine wl_val (v_extract rfl rfl) rfl ?_
  refine wl_val (v_extract rfl rfl) rfl ?_
  refine wl_val (v_extract rfl rfl) rfl ?_
  refine wl_val (v_assign' (by conv => (lhs; whnf))) rfl ?_
  refine wl_val (v_assign' (by conv => (lhs; whnf))) rfl ?_
  refine wl_val (v_assign' (by conv => (lhs; whnf))) rfl ?_
  refine wl_nil ?_
  refine then_go ?_
  refine wc_seq ?_
  refine wc_seq ?_
  refine wc_region ?_
  refine wl_val (v_move' (by conv => (lhs; whnf))) rfl ?_
  refine wl_call rfl (c_any17 st.im hN hNl (by omega)) rfl ?_
  rintro v24 w ⟨t24, c, rfl, hany⟩
  have st := st.pure t24
  refine wl_nil ?_
  refine then_go ?_
  refine wc_cond rfl (fun h24 => ?_) (fun h24 => ?_)
  · refine wc_seq ?_
    refine wc_region ?_
    refine wl_call rfl (c_works18 st.im) rfl ?_
    rintro v25 w ⟨t25, rfl⟩
    have st := st.pure t25
    refine wl_val (v_assign' (by conv => (lhs; whnf))) rfl ?_
    refine wl_nil ?_
    refine then_go ?_
    refine wc_ret (then_ret ?_)
    exact ret1 rfl ⟨st.touch, rfl⟩
  · refine wc_skip ?_
    refine then_go ?_
    refine wc_seq ?_
    refine wc_region ?_
    refine wl_val (v_move' (by conv => (lhs; whnf))) rfl ?_
    refine wl_val (v_move' (by conv => (lhs; whnf))) rfl ?_
    have hnc := hany h24
    obtain ⟨k1, k2, k3⟩ := hkm hnc
    refine wl_call rfl (c_split st.im hlk hN hNl (by omega) (by rw [List.length_map]; omega) (fun d hd => Nat.le_trans (k3 d hd) (by omega))) rfl ?_
    rintro v29 w ⟨t29, m2, hg2, hi2, hv29⟩
    have st := st.grown hg2 t29 hi2
    unfold SplitOut at hv29
    rw [k1, if_neg (by simp), k2] at hv29
    obtain ⟨nv, iv, NA, NB, rfl, hNA, hNB, hAe, hBe⟩ := hv29
    have hAB : NA.length + NB.length = N.length := by
      have h1 := congrArg List.length hAe
      have h2 := congrArg List.length hBe
      rw [List.length_map] at h1 h2
      rw [h1, h2]
      exact filt_len.trans (List.length_map _)
    obtain ⟨xa, xc, hnv⟩ : ∃ a c, nv = .slice a NA.length c := by obtain ⟨⟨_, a, c, h, _⟩, _⟩ := hNA; exact ⟨a, c, h⟩
    obtain ⟨ya, yc, hiv⟩ : ∃ a c, iv = .slice a NB.length c := by obtain ⟨⟨_, a, c, h, _⟩, _⟩ := hNB; exact ⟨a, c, h⟩
    subst hnv
    subst hiv
    have hlk := hlk.mono hg2.le
    have hls := hls.mono hg2.le
    have hKs : ∀ x ∈ Ks, LvM m2 (.agg #[x.2.1, x.2.2]) x.1 := fun x hx => (hKs x hx).mono hg2.le
    have hcA : NoClash (NA.map (·.1)) := fun p hp q hq h => hnc p (by rw [hAe] at hp; exact (List.mem_filter.1 hp).1) q (by rw [hAe] at hq; exact (List.mem_filter.1 hq).1) h
    have hAf : ∀ L ∈ Ts, FullL (pgM (mapOf NA)) (sv 256 0 L) := fun L hL => full_map hcA fun p hp => by
      rw [hAe, hNe]
      exact List.mem_filter.2 ⟨(hkf L hL).2.2 p hp, decide_eq_true (List.mem_map.2 ⟨p, List.mem_flatMap.2 ⟨L, hL, hp⟩, rfl⟩)⟩
    have hAl : ∀ x ∈ NA, x.1.length ≤ 1000000000 := fun x hx => by
      have : x.1 ∈ NA.map (·.1) := List.mem_map.2 ⟨x, hx, rfl⟩
      rw [hAe] at this
      obtain ⟨y, hy, hyx⟩ := List.mem_map.1 (List.mem_filter.1 this).1
      rw [← hyx]; exact hNl y hy
    have hcap : NA.length ≤ xc := by obtain ⟨⟨_, _, _, he, hk, _⟩, _⟩ := hNA; cases he; exact hk
    have hAin : ∀ p ∈ NA.map (·.1), p ∈ allP Z n := fun p hp => by rw [hAe, hNe] at hp; exact (List.mem_filter.1 hp).1
    have hnc2 : NoClash (allP Z n) := hNe ▸ hnc
    have hAnd : (NA.map (·.1)).Nodup := by rw [hAe, hNe]; exact List.Nodup.sublist List.filter_sublist allP_nodup
    refine wl_val (v_move' (by conv => (lhs; whnf))) rfl ?_
    refine wl_val (v_extract rfl rfl) rfl ?_
    refine wl_val (v_extract rfl rfl) rfl ?_
    refine wl_val (v_extract rfl rfl) rfl ?_
    refine wl_val (v_assign' (by conv => (lhs; whnf))) rfl ?_
    refine wl_val (v_assign' (by conv => (lhs; whnf))) rfl ?_
    refine wl_val (v_assign' (by conv => (lhs; whnf))) rfl ?_
    refine wl_nil ?_
    refine then_go ?_
    refine wc_seq ?_
    refine wc_seq ?_
    refine wc_region ?_
    refine wl_val (v_move' (by conv => (lhs; whnf))) rfl ?_
    refine wl_val (wl_valD (v_neq rfl rfl) (q := false) rfl) rfl ?_
    refine wl_nil ?_
    refine then_go ?_
    refine wc_false rfl ?_
    refine wc_skip ?_
    refine then_go ?_
    refine wc_seq ?_
    refine wc_seq ?_
    refine wc_region ?_
    refine wl_val (v_move' (by conv => (lhs; whnf))) rfl ?_
    refine wl_val (v_len_s Try.underlying29 rfl) rfl ?_
    refine wl_val (v_eql rfl rfl) rfl ?_
    refine wl_nil ?_
    refine then_go ?_
    refine wc_cond rfl (fun h37 => ?_) (fun h37 => ?_)
    · refine wc_seq ?_
      have hT0 : Ts.length = 0 := by
        have h0 : NA.length = 0 := by simpa using h37
        have h00 : NA = [] := List.eq_nil_of_length_eq_zero h0
        rcases Nat.eq_zero_or_pos Ts.length with h | h
        · exact h
        · obtain ⟨L, hL⟩ : ∃ L, L ∈ Ts := ⟨_, List.getElem_mem h⟩
          have hf := hAf L hL
          obtain ⟨p, hp⟩ : ∃ p, p ∈ sv 256 0 L := ⟨_, by rw [sv_eq]; exact List.mem_cons_self⟩
          have := hf p hp
          rw [h00] at this
          cases this
      refine wc_region ?_
      refine wl_val (v_move' (by conv => (lhs; whnf))) rfl ?_
      refine wl_val (v_len_s Try.underlying22 rfl) rfl ?_
      refine wl_val (wl_valD (v_eql rfl rfl) (q := true) (decide_eq_true (by omega))) rfl ?_
      refine wl_val (v_move' (by conv => (lhs; whnf))) rfl ?_
      refine wl_on rfl rfl ?_
      refine wl_call rfl (c_works18 st.im) rfl ?_
      rintro v42 w ⟨t42, rfl⟩
      have st := st.pure t42
      refine wl_val (v_pick rfl) rfl ?_
      refine wl_val (v_assign' (by conv => (lhs; whnf))) rfl ?_
      refine wl_nil ?_
      refine then_go ?_
      refine wc_ret (then_ret ?_)
      exact ret1 rfl ⟨st.touch, rfl⟩
    · refine wc_skip ?_
      refine then_go ?_
      refine wc_seq ?_
      have hA1 : 1 ≤ NA.length := by have : ¬ (NA.length : Int) = 0 := by simpa using h37
                                     omega
      obtain ⟨u, hu⟩ : ∃ u, u = IntKind.u64.wrap z := ⟨_, rfl⟩
      have hu0 : 0 ≤ u := by rw [hu, IntKind.wrap_u64]; omega
      obtain ⟨k, hk⟩ : ∃ k : Nat, u % (NA.length : Int) = k := ⟨(u % (NA.length : Int)).toNat, (Int.toNat_of_nonneg (Int.emod_nonneg _ (by omega))).symm⟩
      have hkl : k < NA.length := by have := Int.emod_lt_of_pos u (show (0 : Int) < NA.length by omega); omega
      have hAN : NA.length ≤ 120000 := by omega
      refine wc_region ?_
      refine wl_val (v_move' (by conv => (lhs; whnf))) rfl ?_
      refine wl_val (v_to (v' := .int .u64 u) (v_conv Try.underlying3 Try.underlying39 rfl) (by rw [hu])) rfl ?_
      refine wl_val (v_move' (by conv => (lhs; whnf))) rfl ?_
      refine wl_val (v_len_s Try.underlying29 rfl) rfl ?_
      refine wl_val (v_to (v' := .int .u64 (NA.length : Nat)) (v_conv Try.underlying3 Try.underlying39 rfl) (by rw [wrap_u64_small (by omega)])) rfl ?_
      refine wl_val (v_rem' rfl rfl hu0 (by omega) hk) rfl ?_
      refine wl_val (v_to (v' := .int .i64 (k : Nat)) (v_conv Try.underlying39 Try.underlying3 rfl) (by rw [wrap_i64 (by omega) (by omega)])) rfl ?_
      refine wl_val (v_assign' (by conv => (lhs; whnf))) rfl ?_
      refine wl_nil ?_
      refine then_go ?_
      refine wc_seq ?_
      have hNk : (NA.map (·.1))[k]'(by simpa using hkl) = NA[k].1 := by simp
      have hout := nodup_out hAnd (k := k) (by simpa using hkl)
      rw [hNk, ← List.map_take, ← List.map_drop, ← List.map_append] at hout
      have st := nilRow st 37 1
      refine wc_region ?_
      refine wl_val (v_assign' (by conv => (lhs; whnf))) rfl ?_
      refine wl_nil ?_
      refine then_go ?_
      refine wc_seq ?_
      refine wc_region ?_
      refine wl_val (v_move' (by conv => (lhs; whnf))) rfl ?_
      refine wl_val (v_move' (by conv => (lhs; whnf))) rfl ?_
      refine wl_val (v_move' (by conv => (lhs; whnf))) rfl ?_
      refine wl_val (v_to (v' := .slice (sliceOff xa xc 0 1) k xc) (v_sls 0 k Try.underlying29 TF.t37 rfl rfl ⟨_, _, rfl, rfl⟩ (Nat.zero_le _) (by omega)) (by rw [Nat.sub_zero, Nat.sub_zero])) rfl ?_
      have hq := hNA.sub 0 k (Nat.zero_le _) (by omega)
      rw [List.drop_zero, Nat.sub_zero, Nat.sub_zero] at hq
      have hsr := hq.src (P := Try.prog) st.im
      have hkt : (NA.take k).length = k := by rw [List.length_take]; omega
      rw [hkt] at hsr
      refine wl_append (news := (NA.take k).map (fun x : By × Value => x.2)) 0 st rfl Try.underlying29 Try.underlying29 (.inr ⟨_, rfl⟩) TF.t37 TF.z37 rfl rfl rfl hsr (by omega) (by omega) rfl ?_
      clear st
      intro v55 w _ st
      refine wl_val (v_assign' (by conv => (lhs; whnf))) rfl ?_
      refine wl_nil ?_
      refine then_go ?_
      refine wc_seq ?_
      refine wc_region ?_
      refine wl_val (v_move' (by conv => (lhs; whnf))) rfl ?_
      refine wl_val (v_move' (by conv => (lhs; whnf))) rfl ?_
      refine wl_val (v_move' (by conv => (lhs; whnf))) rfl ?_
      refine wl_val (v_add' rfl rfl rfl (by first | omega | (dsimp only at *; omega)) (by first | omega | (dsimp only at *; omega))) rfl ?_
      refine wl_val (v_sls (k + 1) NA.length Try.underlying29 TF.t37 rfl ⟨_, _, rfl, rfl⟩ rfl hkl hcap) rfl ?_
      have hq2 := hNA.sub (k + 1) NA.length hkl (Nat.le_refl _)
      have hdt : ((NA.drop (k + 1)).take (NA.length - (k + 1))) = NA.drop (k + 1) := List.take_of_length_le (by simp)
      rw [hdt] at hq2
      have hsr2 := hq2.src (P := Try.prog) st.im
      have hdl : (NA.drop (k + 1)).length = NA.length - (k + 1) := by simp
      rw [hdl] at hsr2
      refine wl_append (news := (NA.drop (k + 1)).map (fun x : By × Value => x.2)) 0 st rfl Try.underlying29 Try.underlying29 (.inr ⟨_, rfl⟩) TF.t37 TF.z37 rfl rfl rfl hsr2 (by omega) (by omega) rfl ?_
      clear st
      intro v61 w _ st
      obtain ⟨N1, hN1e⟩ : ∃ N1, N1 = NA.take k ++ NA.drop (k + 1) := ⟨_, rfl⟩
      have hN1l : N1.length = 0 + k + (NA.length - (k + 1)) := by rw [hN1e, List.length_append, hkt, hdl, Nat.zero_add]
      have hN1m : [] ++ (NA.take k).map (·.2) ++ (NA.drop (k + 1)).map (·.2) = N1.map (·.2) := by rw [hN1e, List.nil_append, List.map_append]
      have st : St m m2 [] wI w [rowE v61 37 1 N1.length (N1.map (·.2))] := by rw [hN1l, ← hN1m]; exact st
      rw [← hN1e] at hout
      have hN1M : ∀ x ∈ N1, x ∈ NA := fun x hx => by rw [hN1e] at hx; exact (List.mem_append.1 hx).elim List.mem_of_mem_take List.mem_of_mem_drop
      have st0 := st
      obtain ⟨m3, hg3, hm3, st⟩ := st.freezeR (i := 0) rfl (by simp)
      have hN1P : PcsM m3 v61 N1 := ⟨row_SlM (m := m3) (st0.at (i := 0) rfl) hm3, fun x hx => (hNA.2 x (hN1M x hx)).mono hg3.le⟩
      have hlk := hlk.mono hg3.le
      obtain ⟨M1, hM1⟩ : ∃ M1, M1 = pgM (mapOf N1) := ⟨_, rfl⟩
      have hon1 : ∀ L ∈ Ts, HonL M1 (sv 256 0 L) := fun L hL => by rw [hM1]; exact hon_sub hnc2 (hkf L hL).2.2 fun q hq => hAin q (hout q hq).2
      have hld : ∀ L ∈ Ts, (ldF M1 (sum (pg1 256 0 L))).1.length ≤ 20 := fun L hL => by
        have hb := ld_back (hkf L hL).1.D (hkf L hL).1.U (hkf L hL).1.d (hon1 L hL)
        have := (hkf L hL).2.1
        by_cases hf : FullL M1 (sv 256 0 L)
        · rw [hb.1 hf]; show L.length ≤ 20; omega
        · have := (hb.2 hf).1; omega
      obtain ⟨i0, hi0, h70⟩ : ∃ i0, ∃ (h : i0 < Ts.length), ldE M1 (sum (pg1 256 0 Ts[i0])) = 7 := by
        have hpm : NA[k].1 ∈ NA.map (·.1) := List.mem_map.2 ⟨_, List.getElem_mem hkl, rfl⟩
        have hpf := hpm
        rw [hAe] at hpf
        obtain ⟨q, hq, hqs⟩ := List.mem_map.1 (of_decide_eq_true (List.mem_filter.1 hpf).2)
        obtain ⟨L, hL, hqL⟩ := List.mem_flatMap.1 hq
        have hqp : q = NA[k].1 := hnc2 q ((hkf L hL).2.2 q hqL) _ (hAin _ hpm) hqs
        rw [hqp] at hqL
        have hla := lacks_at (S := sv 256 0 L) (N := N1) hqL fun q hq => ⟨(hout q hq).1, fun s hs hss => hnc2 s ((hkf L hL).2.2 s hs) q (hAin q (hout q hq).2) hss⟩
        obtain ⟨i0, hi0, rfl⟩ := List.getElem_of_mem hL
        exact ⟨i0, hi0, ldE_7 (by rw [hM1]; exact ((ld_back (hkf _ hL).1.D (hkf _ hL).1.U (hkf _ hL).1.d hla.1).2 hla.2).2)⟩
      refine wl_val (v_assign' (by conv => (lhs; whnf))) rfl ?_
      refine wl_nil ?_
      refine then_go ?_
      refine wc_seq ?_
      refine wc_region ?_
      refine wl_val (v_assign' (by conv => (lhs; whnf))) rfl ?_
      refine wl_nil ?_
      refine then_go ?_
      refine wc_seq ?_
      refine wc_seq ?_
      refine wc_region ?_
      refine wl_val (v_assign' (by conv => (lhs; whnf))) rfl ?_
      refine wl_nil ?_
      refine then_go ?_
      refine wc_block ?_
      refine wc_loop (S := Nat) (fun q r w' => ∃ (i : Nat) (m' : Mem) (th : Bool), q + i = Ts.length ∧ r 5 = .slice la Ts.length lc ∧ r 12 = v61 ∧ r 13 = .bool th ∧ r 14 = .int .i64 i ∧ (i0 < i → th = true) ∧ (∀ k o, m3 k = some o → m' k = some o) ∧ St m m' [] wI w' []) id Ts.length ⟨0, m3, false, by omega, rfl, rfl, rfl, rfl, by omega, fun _ _ h => h, st⟩ ?_
      clear st
      rintro q r w2 ⟨i, m', th, hqi, g5, g12, g13, g14, hth, hmm, st⟩
      refine wc_o 5 g5 (wc_o 12 g12 (wc_o 13 g13 (wc_o 14 g14 ?_)))
      have hlk := hlk.mono hmm
      have hN1P := hN1P.mono hmm
      refine wc_seq ?_
      refine wc_seq ?_
      refine wc_region ?_
      refine wl_val (v_move' (by conv => (lhs; whnf))) rfl ?_
      refine wl_val (v_move' (by conv => (lhs; whnf))) rfl ?_
      refine wl_val (v_len_s Try.underlying22 rfl) rfl ?_
      refine wl_val (v_lss rfl rfl) rfl ?_
      refine wl_nil ?_
      refine then_go ?_
      refine wc_if rfl (fun h65 => ?_) (fun h65 => ?_)
      · refine wc_skip ?_
        refine then_go ?_
        refine wc_seq ?_
        refine wc_block ?_
        refine wc_seq ?_
        have hi : i < Ts.length := by omega
        have hil : i < (linkF Ts).length := by rw [List.length_map]; exact hi
        obtain ⟨lb, lo, hla, hrl⟩ := hlk.at hil
        subst hla
        have hlL : (linkF Ts)[i] = sum (pg1 256 0 Ts[i]) := List.getElem_map ..
        rw [hlL] at hrl
        refine wc_region ?_
        refine wl_val (v_move' (by conv => (lhs; whnf))) rfl ?_
        refine wl_val (v_move' (by conv => (lhs; whnf))) rfl ?_
        refine wl_val (v_ias i Try.underlying22 TF.t28 rfl rfl (by first | rfl | omega) (by first | omega | (dsimp only at *; omega))) rfl ?_
        refine wl_val (v_load rfl (hrl st.im)) rfl ?_
        refine wl_val (v_move' (by conv => (lhs; whnf))) rfl ?_
        refine wl_call rfl (c_load st.im (length_sum _) hN1P (fun x hx => hAl x (hN1M x hx)) (by omega) (by rw [← hM1]; exact Nat.le_trans (hld _ (List.getElem_mem hi)) (by omega))) rfl ?_
        rintro v74 w ⟨t74, m4, hg4, hi4, hv74⟩
        rw [← hM1] at hv74
        have st := st.grown hg4 t74 hi4
        obtain ⟨xv, e, rfl, he, _⟩ := ld_out hv74
        refine wl_val (v_move' (by conv => (lhs; whnf))) rfl ?_
        refine wl_val (v_extract rfl rfl) rfl ?_
        refine wl_val (v_extract rfl rfl) rfl ?_
        refine wl_val (v_assign' (by conv => (lhs; whnf))) rfl ?_
        refine wl_val (v_assign' (by conv => (lhs; whnf))) rfl ?_
        refine wl_nil ?_
        refine then_go ?_
        rcases Bool.eq_false_or_eq_true th with htt | htt
        · subst htt
          refine wc_region ?_
          refine wl_val (v_move' (by conv => (lhs; whnf))) rfl ?_
          refine wl_val (v_move' (by conv => (lhs; whnf))) rfl ?_
          refine wl_off rfl rfl rfl rfl ?_
          refine wl_off rfl rfl rfl rfl ?_
          refine wl_val (v_pick rfl) rfl ?_
          refine wl_val (v_assign' (by conv => (lhs; whnf))) rfl ?_
          refine wl_nil ?_
          refine block_go (then_go ?_)
          refine wc_region ?_
          refine wl_val (v_move' (by conv => (lhs; whnf))) rfl ?_
          refine wl_val (v_add' (c := ((i + 1 : Nat) : Int)) rfl rfl (by omega) (by omega) (by omega)) rfl ?_
          refine wl_val (v_assign' (by conv => (lhs; whnf))) rfl ?_
          refine wl_nil ?_
          refine then_go ?_
          exact ⟨q - 1, by simp; omega, i + 1, m4, true, by omega, rfl, rfl, rfl, rfl, fun _ => rfl, fun k o h => hg4.le k o (hmm k o h), st⟩
        · subst htt
          refine wc_region ?_
          refine wl_val (v_move' (by conv => (lhs; whnf))) rfl ?_
          refine wl_val (v_move' (by conv => (lhs; whnf))) rfl ?_
          refine wl_on rfl rfl ?_
          refine wl_val (v_move' (by conv => (lhs; whnf))) rfl ?_
          refine wl_on rfl rfl ?_
          refine wl_val (v_eql rfl rfl) rfl ?_
          refine wl_val (v_pick rfl) rfl ?_
          refine wl_val (v_assign' (by conv => (lhs; whnf))) rfl ?_
          refine wl_nil ?_
          refine block_go (then_go ?_)
          refine wc_region ?_
          refine wl_val (v_move' (by conv => (lhs; whnf))) rfl ?_
          refine wl_val (v_add' (c := ((i + 1 : Nat) : Int)) rfl rfl (by omega) (by omega) (by omega)) rfl ?_
          refine wl_val (v_assign' (by conv => (lhs; whnf))) rfl ?_
          refine wl_nil ?_
          refine then_go ?_
          refine ⟨q - 1, by simp; omega, i + 1, m4, _, by omega, rfl, rfl, rfl, rfl, fun h => ?_, fun k o h => hg4.le k o (hmm k o h), st⟩
          rcases Nat.lt_or_ge i0 i with h1 | h1
          · cases hth h1
          · have e1 : i0 = i := by omega
            subst e1
            rw [h70] at he
            exact decide_eq_true (by omega)
      · refine wc_exit (then_exit (then_exit (block_hit ?_)))
        refine then_go ?_
        refine wc_seq ?_
        have hi : i = Ts.length := by omega
        have htt : th = true := hth (by omega)
        subst htt
        refine wc_region ?_
        refine wl_val (v_move' (by conv => (lhs; whnf))) rfl ?_
        refine wl_val (v_move' (by conv => (lhs; whnf))) rfl ?_
        refine wl_on rfl rfl ?_
        refine wl_call rfl (c_works18 st.im) rfl ?_
        rintro v84 w ⟨t84, rfl⟩
        have st := st.pure t84
        refine wl_val (v_pick rfl) rfl ?_
        refine wl_val (v_assign' (by conv => (lhs; whnf))) rfl ?_
        refine wl_nil ?_
        refine then_go ?_
        refine wc_ret ?_
        exact ret1 rfl ⟨st.touch, rfl⟩
end
end Go.Proofs.Ytonlmjpenonabaa

namespace Go.Proofs.Ytonlmjpenonabaa
open Go Go.ChangeShapes Go.WideShapes Go.ChangeAt Go.RowKit K SH PT
theorem Try.ownib : ownKnob Try.prog.godebug = none := by kernel_rfl
theorem Try.laidOutib : laidOutB Try.prog = true := by kernel_rfl
theorem Try.trodAllib {H : Type} {enc : TypeId × Value → H} {w : World} {held : Bool} {P : Program} {base : Nat} {spare : Nat → Bool} {t0 t1 : TypeId} {args : Array Value} {ds : List (DataW H)} {ps : List MemPlace} (h : DataW.TrodAll enc P w base spare held [t0, t1] args.toList ds ps) :
  ∃ v0 v1 d0 d1 p0 p1, args = #[v0, v1] ∧ ds = [d0, d1] ∧ ps = p0 ++ p1 ∧ DataW.Trod enc P w base spare held t0 v0 d0 p0 ∧ DataW.Trod enc P w base spare held t1 v1 d1 p1 := by
 obtain ⟨v0, vs0, d0, ds0, p0, q0, hargs, rfl, rfl, hd0, h⟩ := trodAll_cons h
 obtain ⟨v1, vs1, d1, ds1, p1, q1, rfl, rfl, rfl, hd1, h⟩ := trodAll_cons h
 obtain ⟨rfl, rfl, rfl⟩ := trodAll_nil h
 exact ⟨v0, v1, d0, d1, p0, p1, by cases args; simp_all, rfl, by simp, hd0, hd1⟩
set_option maxRecDepth 100000 in
theorem reapNeeds_lifted (os : Os) (started : os.Started) (H : Type) (enc : TypeId × Value → H) :
  ReturnsInHanded {} Try.checked os 8 .any (Rows.reapNeedsSpec.pre6 enc Try.prog Try.f8 Rows.reapNeedsRow.domain false) (Rows.reapNeedsSpec.post enc Try.prog Try.f8 false true false false) := by
 refine returnsInHanded_of_change (C := Try.checked) Try.ownib started (by kernel_rfl) Try.func8
  (ChangeSpec.witness6 (enc := enc) (C := Try.checked) false ⟨#[], #[.agg #[.slice none 0 0, .slice none 0 0, .slice none 0 0], .int .i64 0], []⟩ 12 (by kernel_rfl) (by kernel_rfl) (by kernel_rfl) (by kernel_rfl)) ?_
 intro W base args ds gs before hval0 hW hcnd _
 have hval : ∀ (j : Nat) t v, Try.f8.params[j]? = some t → args[j]? = some v → Value.okWide Try.prog W .any base t v := hval0
 have hW' := hW
 obtain ⟨p, q, hA0, hV, rfl, hfz, hnd⟩ := hW
 have hA : DataW.TrodAll enc Try.prog W 0 (fun _ => true) true Try.f8.params.toList args.toList ds p := hA0
 rw [Try.params8] at hA hval
 obtain ⟨v0, v1, d0, d1, p0, p1, rfl, rfl, rfl, h0, h1⟩ := Try.trodAllib hA
 obtain ⟨l0, rfl, hl0⟩ := open_trees (hval 0 53 v0 rfl rfl) h0
 obtain ⟨a1, rfl, rfl, rfl, wa1⟩ := open_int Try.underlying3 (hval 1 3 v1 rfl rfl) h1
 refine Calls.mono (P := Try.prog) (c_reapNeeds (im_heapM W) hl0.1 hl0.2.1 hl0.2.2).2 fun e W1 ⟨v, he, t, hv⟩ => ?_
 subst hv
 subst he
 exact ⟨_, rfl, post_true Try.laidOutib (by kernel_rfl) rfl hW' t rfl rfl Try.underlying4⟩
theorem reapNeeds_holds : Rows.ReapNeedsSaid :=
 OpenClaim.holds_of_wide 8 Try.f8 rfl rfl rfl rfl rfl rfl rfl ⟨rfl, rfl, rfl, rfl, rfl⟩ rfl rfl rfl rfl rfl (by kernel_rfl) Try.func8 (by kernel_rfl)
  (of_decide_eq_true (by kernel_rfl)) (by unfold Func.isWrapper; first | (rw [if_pos (by decide +kernel)]; kernel_rfl) | (rw [if_neg (by decide +kernel)]; exact ⟨rfl, rfl⟩))
  (fun os started H enc _ => reapNeeds_lifted os started H enc)
end Go.Proofs.Ytonlmjpenonabaa
