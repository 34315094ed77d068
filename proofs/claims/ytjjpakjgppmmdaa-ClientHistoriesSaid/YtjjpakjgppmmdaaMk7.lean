/-
  Several texts as one: Ci Cj Cre.
-/
import Derived.Test.YtjjpakjgppmmdaaRows
import Derived.Test.YtjjpakjgppmmdaaMk6

/-
  Histories: the program's, the reference's; ClientHistories answers true.
-/
namespace Go.Proofs.Ytjjpakjgppmmdaa
open Go Go.RowKit K SH PT

theorem nextE_8 {a b : Fd} (h : ¬ nextE a b = 0) : nextE a b = 8 := by
  unfold nextE at h ⊢
  split
  · rename_i h1; rw [if_pos h1] at h; exact absurd rfl h
  · rename_i h1
    rw [if_neg h1] at h
    split
    · rfl
    · rename_i h2; rw [if_neg h2] at h; exact absurd rfl h

theorem one_awC {m : Mem} {a : Aw} {sv kv : Value} (h : AwOk m a sv kv) : ∀ u ∈ awC a sv kv, u.oneCell' = true := by
  have hs : sv.oneCell' = true := by obtain ⟨_, _, h⟩ := h.sibs.sl; rw [h]; rfl
  have hk : kv.oneCell' = true := by obtain ⟨_, _, _, h, _⟩ := h.key; rw [h]; rfl
  intro u hu
  simp only [awC, prL, bdC, List.mem_cons, List.mem_append, List.not_mem_nil, or_false] at hu
  rcases hu with rfl | hu | ((rfl | rfl | hu | hu) | rfl | hu | rfl | rfl | rfl)
  · rfl
  · exact one_bs _ u hu
  · exact hs
  · rfl
  · exact one_bs _ u hu
  · exact one_bs _ u hu
  · rfl
  · exact one_bs _ u hu
  · rfl
  · exact hk
  · rfl

theorem hist_err {x : Vw} {name : By} {e : UInt64} {i0 : By} {i : Nat} {acc : List Fd} {a : Aw} {L : List Aw} (h : ¬ askE x name (e + UInt64.ofNat i) a = 0) : histGo x name e i0 i acc (a :: L) = ([], askE x name (e + UInt64.ofNat i) a) := by
  rw [histGo, if_pos h]
theorem hist_15 {x : Vw} {name : By} {e : UInt64} {i0 : By} {i : Nat} {acc : List Fd} {a : Aw} {L : List Aw} (h : askE x name (e + UInt64.ofNat i) a = 0) (h2 : 0 < i ∧ ¬ a.index = i0) : histGo x name e i0 i acc (a :: L) = ([], 15) := by
  rw [histGo, if_neg (not_not_intro h), if_pos h2]
theorem hist_8 {x : Vw} {name : By} {e : UInt64} {i0 : By} {i : Nat} {acc : List Fd} {a : Aw} {L : List Aw} (h : askE x name (e + UInt64.ofNat i) a = 0) (h2 : ¬ (0 < i ∧ ¬ a.index = i0)) (h3 : 0 < i ∧ ¬ nextE (acc[i - 1]?.getD fd0) (askF x name (e + UInt64.ofNat i) a) = 0) : histGo x name e i0 i acc (a :: L) = ([], 8) := by
  rw [histGo, if_neg (not_not_intro h), if_neg h2, if_pos h3]
theorem hist_go {x : Vw} {name : By} {e : UInt64} {i0 : By} {i : Nat} {acc : List Fd} {a : Aw} {L : List Aw} (h : askE x name (e + UInt64.ofNat i) a = 0) (h2 : ¬ (0 < i ∧ ¬ a.index = i0)) (h3 : ¬ (0 < i ∧ ¬ nextE (acc[i - 1]?.getD fd0) (askF x name (e + UInt64.ofNat i) a) = 0)) : histGo x name e i0 i acc (a :: L) = histGo x name e i0 (i + 1) (acc ++ [askF x name (e + UInt64.ofNat i) a]) L := by
  rw [histGo, if_neg (not_not_intro h), if_neg h2, if_neg h3]

section
variable {m : Mem} {wI : World}

theorem c_hist {vv lv : Value} {x : Vw} {name : By} {e : UInt64} {L : List AwT} (him : Im m wI) (hv : VwM m vv x) (hn : name.length ≤ 9223372036854775807) (hl : AwsM m lv L) (hxl : x.roots.length ≤ 1099511627776) (hL : L.length ≤ 1000000) (hkl : ∀ p ∈ L, p.1.bind.key.length ≤ 1099511627776) :
    Ret Try.prog 26 #[vv, .string (strB name), u64 e, lv] wI fun v' w' => Out m wI w' fun m' => ∃ v2 A, v' = .tuple #[v2, .int .i64 (histGo x name e (idx0 (L.map (·.1))) 0 [] (L.map (·.1))).2] ∧ FdsM m' v2 A ∧ A.map (·.1) = (histGo x name e (idx0 (L.map (·.1))) 0 [] (L.map (·.1))).1 := by
  have st := St.start him
  have hv0 := hv
  obtain ⟨rv, rfl, hrt, hp, hh, hokx⟩ := hv
  obtain ⟨la, lc, rfl⟩ := hl.1.sl
  obtain ⟨R, hR⟩ : ∃ R, R = histGo x name e (idx0 (L.map (·.1))) 0 [] (L.map (·.1)) := ⟨_, rfl⟩
  rw [← hR]
  refine ret_of Try.call26 Try.func26 rfl Try.ntmps26 Try.results26 rfl ?_
  refine wc_seq ?_
  refine wc_region ?_
  refine wl_box (v := .agg (vwC x.pin x.head rv).toArray) rfl st rfl ?_
  intro b4 w st
  refine wl_val (v_assign' (by conv => (lhs; whnf))) rfl ?_
  refine wl_val (v_assign' (by conv => (lhs; whnf))) rfl ?_
  refine wl_nil ?_
  refine then_go ?_
  refine wc_seq ?_
  refine wc_region ?_
  refine wl_val (v_assign' (by conv => (lhs; whnf))) rfl ?_
  refine wl_nil ?_
  refine then_go ?_
  refine wc_seq ?_
  refine wc_seq ?_
  refine wc_region ?_
  refine wl_val (v_move' (by conv => (lhs; whnf))) rfl ?_
  refine wl_val (v_len_s Try.underlying61 rfl) rfl ?_
  refine wl_val (v_move' (by conv => (lhs; whnf))) rfl ?_
  refine wl_nil ?_
  have st := nilRow st 48 5
  refine then_go ?_
  refine wc_block ?_
  refine wc_loop (S := Nat) (fun q r w' => ∃ (i : Nat) (A : List FdT) (v : Value) (m2 : Mem), q + i = L.length ∧ r 1 = .string (strB name) ∧ r 2 = u64 e ∧ r 3 = .slice la L.length lc ∧ r 4 = .pointer (some ⟨b4, 0, none⟩) ∧ r 10 = v ∧ r 16 = .slice la L.length lc ∧ r 17 = .int .i64 L.length ∧ r 18 = .int .i64 i ∧ A.length = i ∧ R = histGo x name e (idx0 (L.map (·.1))) i (A.map (·.1)) ((L.drop i).map (·.1)) ∧ (∀ p ∈ A, keyM m2 p) ∧ VwM m2 (.agg (vwC x.pin x.head rv).toArray) x ∧ AwsM m2 (.slice la L.length lc) L ∧
    St m m2 [] wI w' [lsE 48 5 fdP v A, K.blk b4 (vwC x.pin x.head rv).toArray 29]) id L.length ⟨0, [], .slice none 0 0, m, by omega, rfl, rfl, rfl, rfl, rfl, rfl, rfl, rfl, rfl, hR, by simp, hv0, hl, st⟩ ?_
  clear hl hv0
  rintro q r w2 ⟨i, A, v, m2, hqi, g1, g2, g3, g4, g10, g16, g17, g18, hAi, hRx, hA, hv0, hl, st⟩
  refine wc_o 1 g1 (wc_o 2 g2 (wc_o 3 g3 (wc_o 4 g4 (wc_o 10 g10 (wc_o 16 g16 (wc_o 17 g17 (wc_o 18 g18 ?_)))))))
  refine wc_seq ?_
  refine wc_region ?_
  refine wl_val (v_lss rfl rfl) rfl ?_
  refine wl_nil ?_
  refine then_go ?_
  refine wc_seq ?_
  refine wc_if rfl (fun h19 => ?_) (fun h19 => ?_)
  · refine wc_skip ?_
    refine then_go ?_
    refine wc_seq ?_
    refine wc_block ?_
    refine wc_seq ?_
    have hi : i < L.length := by omega
    obtain ⟨lb, lo, hla⟩ := hl.1.ptr (by omega) (by decide)
    subst hla
    have hk := hl.2 _ (List.getElem_mem hi)
    have hk0 := hl.2 _ (List.getElem_mem (show 0 < L.length by omega))
    have hi0 : idx0 (L.map (·.1)) = L[0].1.index := by rw [idx0, List.getElem?_map, List.getElem?_eq_getElem (show 0 < L.length by omega)]; rfl
    rw [List.drop_eq_getElem_cons hi, List.map_cons] at hRx
    refine wc_region ?_
    refine wl_val (v_move' (by conv => (lhs; whnf))) rfl ?_
    refine wl_val (v_ias i Try.underlying61 TF.t45 rfl rfl (by first | rfl | omega) (by first | omega | (dsimp only at *; omega))) rfl ?_
    refine wl_val (v_load rfl (hl.1.rd0 rfl hi (by decide) TF.t45 (v' := .agg (awC L[i].1 L[i].2.1 L[i].2.2).toArray) (getV_all (by exact length_awC hk)) st.im)) rfl ?_
    refine wl_alloc TF.z45 st rfl ?_
    intro b12 w st
    refine wl_val (v_assign' (by conv => (lhs; whnf))) rfl ?_
    refine wl_storeW (cs := (awC L[i].1 L[i].2.1 L[i].2.2).toArray) 0 st rfl TF.t45 rfl rfl (by rw [List.size_toArray, length_awC hk]) rfl (fun u hu => one_awC hk u (by simpa using hu)) ?_
    intro w st
    refine wl_nil ?_
    refine then_go ?_
    refine wc_seq ?_
    refine wc_region ?_
    refine wl_val (v_load rfl (st.reads (v := .agg (vwC x.pin x.head rv).toArray) 2 rfl TF.t29 (getV_all (by exact length_vwC hp hh)))) rfl ?_
    refine wl_val (v_move' (by conv => (lhs; whnf))) rfl ?_
    refine wl_val (v_move' (by conv => (lhs; whnf))) rfl ?_
    refine wl_val (v_move' (by conv => (lhs; whnf))) rfl ?_
    refine wl_val (v_to (v' := u64 (UInt64.ofNat i)) (v_conv Try.underlying3 Try.underlying24 rfl) (by rw [wrap_u64]; rfl)) rfl ?_
    refine wl_val (v_add64 rfl rfl) rfl ?_
    refine wl_val (v_load rfl (st.reads (v := .agg (awC L[i].1 L[i].2.1 L[i].2.2).toArray) 0 rfl TF.t45 (getV_all (by exact length_awC hk)))) rfl ?_
    refine wl_call rfl (c_ask st.im hv0 hn ⟨_, _, rfl, hk⟩ hxl (hkl _ (List.getElem_mem hi))) rfl ?_
    rintro v31 w ⟨t31, m3, hg3, hi3, fv, rfl, hf⟩
    have st := st.grown hg3 t31 hi3
    have hv0 := hv0.mono hg3.le
    have hl := hl.mono hg3.le
    have hA : ∀ p ∈ A, keyM m3 p := fun p hp => (hA p hp).mono hg3.le
    obtain ⟨kf, rfl, hkf, hnf⟩ := hf
    have hof : kf.oneCell' = true := by obtain ⟨_, _, _, h, _⟩ := hkf; rw [h]; rfl
    refine wl_val (v_move' (by conv => (lhs; whnf))) rfl ?_
    refine wl_val (v_extract rfl rfl) rfl ?_
    refine wl_val (v_extract rfl rfl) rfl ?_
    refine wl_alloc TF.z48 st rfl ?_
    intro b13 w st
    refine wl_storeW (cs := (fdC (askF x name (e + UInt64.ofNat i) L[i].1) kf).toArray) 0 st rfl TF.t48 rfl rfl rfl rfl (one_fdC hof) ?_
    intro w st
    refine wl_val (v_assign' (by conv => (lhs; whnf))) rfl ?_
    refine wl_nil ?_
    refine then_go ?_
    refine wc_seq ?_
    refine wc_seq ?_
    refine wc_region ?_
    refine wl_val (v_move' (by conv => (lhs; whnf))) rfl ?_
    refine wl_val (v_neq rfl rfl) rfl ?_
    refine wl_nil ?_
    refine then_go ?_
    refine wc_if rfl (fun h35 => ?_) (fun h35 => ?_)
    · refine wc_seq ?_
      refine wc_region ?_
      refine wl_val (v_move' (by conv => (lhs; whnf))) rfl ?_
      refine wl_val (v_assign' (by conv => (lhs; whnf))) rfl ?_
      refine wl_val (v_assign' (by conv => (lhs; whnf))) rfl ?_
      refine wl_nil ?_
      refine then_go ?_
      refine wc_ret (then_ret (block_ret (then_ret (then_ret (block_ret (then_ret ?_))))))
      rw [hist_err h35] at hRx
      rw [hRx]
      exact ret2 rfl rfl ((st.keepOnly (l := []) (List.nil_sublist _)).out ⟨_, [], rfl, FdsM.nil, rfl⟩)
    · refine wc_skip ?_
      refine then_go ?_
      refine wc_seq ?_
      refine wc_seq ?_
      have hE0 : askE x name (e + UInt64.ofNat i) L[i].1 = 0 := Decidable.not_not.1 h35
      refine wc_region ?_
      refine wl_val (v_move' (by conv => (lhs; whnf))) rfl ?_
      refine wl_val (v_gtr rfl rfl) rfl ?_
      refine wl_nil ?_
      refine then_go ?_
      refine wc_if rfl (fun h38 => ?_) (fun h38 => ?_)
      · refine wc_seq ?_
        refine wc_seq ?_
        refine wc_draw TF.mixed ?_
        have st := st.pure (touch_drew _)
        refine fl_val 0 rfl (fun _ => (v_fa TF.f45_1 rfl)) rfl (by kernel_rfl) ?_
        refine fl_ld 1 rfl (v_load rfl (st.reads (v := arr L[i].1.index) 1 rfl TF.t23 (aw_i hk))) (by kernel_rfl) ?_
        refine fl_val 2 rfl (fun _ => (v_move' (by conv => (lhs; whnf)))) rfl (by kernel_rfl) ?_
        refine fl_val 3 rfl (fun _ => (v_ias 0 Try.underlying61 TF.t45 rfl rfl (by first | rfl | omega) (by first | omega | (dsimp only at *; omega)))) rfl (by kernel_rfl) ?_
        refine fl_val 4 rfl (fun _ => (v_fa TF.f45_1 rfl)) rfl (by kernel_rfl) ?_
        refine fl_ld 5 rfl (v_load rfl (hl.1.rd rfl (show 0 < L.length by omega) (by decide) TF.t23 (v' := arr L[0].1.index) (aw_i hk0) st.im)) (by kernel_rfl) ?_
        refine fl_val 6 rfl (fun _ => (v_neD rfl rfl hk.idx hk0.idx)) rfl (by kernel_rfl) ?_
        refine fl_nil (by kernel_rfl) ⟨obl_ld rfl rfl rfl (v_load rfl (hl.1.rd rfl (show 0 < L.length by omega) (by decide) TF.t23 (v' := arr L[0].1.index) (aw_i hk0) st.im)), obl_ld rfl rfl rfl (v_load rfl (st.reads (v := arr L[i].1.index) 1 rfl TF.t23 (aw_i hk))), trivial⟩ ?_
        refine then_go ?_
        refine wc_if rfl (fun h45 => ?_) (fun h45 => ?_)
        · refine wc_seq ?_
          refine wc_region ?_
          refine wl_val (v_assign' (by conv => (lhs; whnf))) rfl ?_
          refine wl_val (v_assign' (by conv => (lhs; whnf))) rfl ?_
          refine wl_nil ?_
          refine then_go ?_
          refine wc_ret (then_ret (then_ret (block_ret (then_ret (then_ret (block_ret (then_ret ?_)))))))
          rw [hist_15 hE0 ⟨by omega, by rw [hi0]; exact h45⟩] at hRx
          rw [hRx]
          exact ret2 rfl rfl ((st.keepOnly (l := []) (List.nil_sublist _)).out ⟨_, [], rfl, FdsM.nil, rfl⟩)
        · refine wc_skip ?_
          refine then_go ?_
          refine wc_seq ?_
          have hrd := st.lsRd 2 rfl (fun _ _ => rfl)
          obtain ⟨va, vc, hve⟩ := hrd.sl
          subst hve
          obtain ⟨vb, vo, hvb⟩ := hrd.ptr (by omega) (by decide)
          subst hvb
          have hlt : i - 1 < A.length := by omega
          have hAt : (A.map (·.1))[i - 1]?.getD fd0 = A[i - 1].1 := by rw [List.getElem?_map, List.getElem?_eq_getElem hlt]; rfl
          refine wc_draw TF.mixed ?_
          have st := st.pure (touch_drew _)
          refine fl_val 0 rfl (fun _ => (v_move' (by conv => (lhs; whnf)))) rfl (by kernel_rfl) ?_
          refine fl_val 1 rfl (fun _ => (v_move' (by conv => (lhs; whnf)))) rfl (by kernel_rfl) ?_
          refine fl_val 2 rfl (fun _ => (v_sub' (c := ((i - 1 : Nat) : Int)) rfl rfl (by omega) (by omega) (by omega))) rfl (by kernel_rfl) ?_
          refine fl_val 3 rfl (fun _ => (v_ias (i - 1) Try.underlying62 TF.t48 rfl rfl (by first | rfl | omega) (by first | omega | (dsimp only at *; omega)))) rfl (by kernel_rfl) ?_
          refine fl_ld 4 rfl (v_load rfl (hrd.rd0 rfl hlt (by decide) TF.t48 (v' := .agg (fdC A[i - 1].1 A[i - 1].2).toArray) (getV_all rfl) (fun _ _ h => h))) (by kernel_rfl) ?_
          refine fl_ld 5 rfl (v_load rfl (st.reads (v := .agg (fdC (askF x name (e + UInt64.ofNat i) L[i].1) kf).toArray) 0 rfl TF.t48 (getV_all rfl))) (by kernel_rfl) ?_
          refine fl_eff1 6 [3, 2, 1, 0] [] (by kernel_rfl) ⟨obl_ld rfl rfl rfl (v_load rfl (st.reads (v := .agg (fdC (askF x name (e + UInt64.ofNat i) L[i].1) kf).toArray) 0 rfl TF.t48 (getV_all rfl))), obl_ld rfl rfl rfl (v_load rfl (hrd.rd0 rfl hlt (by decide) TF.t48 (v' := .agg (fdC A[i - 1].1 A[i - 1].2).toArray) (getV_all rfl) (fun _ _ h => h))), trivial⟩ rfl ?_
          refine wl_call rfl (c_next st.im ⟨_, rfl, hA _ (List.getElem_mem hlt)⟩ ⟨_, rfl, hkf, hnf⟩) rfl ?_
          rintro v52 w ⟨t52, rfl⟩
          have st := st.pure t52
          refine wl_nil ⟨rfl, ?_⟩
          refine fl_eff1 7 [] [] (by kernel_rfl) trivial rfl ?_
          refine wl_val (v_assign' (by conv => (lhs; whnf))) rfl ?_
          refine wl_nil ⟨rfl, ?_⟩
          refine fl_nil (by kernel_rfl) trivial ?_
          refine then_go ?_
          refine wc_seq ?_
          refine wc_region ?_
          refine wl_val (v_move' (by conv => (lhs; whnf))) rfl ?_
          refine wl_val (v_neq rfl rfl) rfl ?_
          refine wl_nil ?_
          refine then_go ?_
          refine wc_if rfl (fun h54 => ?_) (fun h54 => ?_)
          · refine wc_seq ?_
            refine wc_region ?_
            refine wl_val (v_move' (by conv => (lhs; whnf))) rfl ?_
            refine wl_val (v_assign' (by conv => (lhs; whnf))) rfl ?_
            refine wl_val (v_assign' (by conv => (lhs; whnf))) rfl ?_
            refine wl_nil ?_
            refine then_go ?_
            refine wc_ret (then_ret (block_ret (then_ret (then_ret (block_ret (then_ret ?_))))))
            rw [hist_8 hE0 (fun hc => hc.2 (by rw [hi0]; exact Decidable.not_not.1 h45)) ⟨by omega, by rw [hAt]; exact h54⟩] at hRx
            rw [hRx, nextE_8 h54]
            exact ret2 rfl rfl ((st.keepOnly (l := []) (List.nil_sublist _)).out ⟨_, [], rfl, FdsM.nil, rfl⟩)
          · refine wc_skip ?_
            refine then_go ?_
            have hRn : R = histGo x name e (idx0 (L.map (·.1))) (i + 1) (A.map (·.1) ++ [askF x name (e + UInt64.ofNat i) L[i].1]) ((L.drop (i + 1)).map (·.1)) := by
              rw [hRx]
              first
                | exact hist_go hE0 (fun hc => hc.2 (by rw [hi0]; exact Decidable.not_not.1 h45)) (fun hc => hc.2 (by rw [hAt]; exact Decidable.not_not.1 h54))
                | exact hist_go hE0 (fun hc => by omega) (fun hc => by omega)
            refine wc_region ?_
            refine wl_val (v_move' (by conv => (lhs; whnf))) rfl ?_
            refine wl_val (v_load rfl (st.reads (v := .agg (fdC (askF x name (e + UInt64.ofNat i) L[i].1) kf).toArray) 0 rfl TF.t48 (getV_all rfl))) rfl ?_
            refine wl_lsOne (fdP (askF x name (e + UInt64.ofNat i) L[i].1, kf)) Try.underlying62 TF.t48 TF.z48 (by decide) (by decide) rfl rfl st rfl ?_
            intro b58 w st
            refine wl_lsApp 2 (c := fdP) (e := (askF x name (e + UInt64.ofNat i) L[i].1, kf)) st rfl Try.underlying62 TF.t48 TF.z48 rfl rfl (fun u hu => one_fdC hof u (by simpa [fdP] using hu)) rfl rfl (by omega) (by omega) rfl ?_
            intro v2 w st hv2
            refine wl_val (v_assign' (by conv => (lhs; whnf))) rfl ?_
            refine wl_nil ?_
            refine block_go (then_go ?_)
            refine wc_region ?_
            refine wl_val (v_add' rfl rfl rfl (by first | omega | (dsimp only at *; omega)) (by first | omega | (dsimp only at *; omega))) rfl ?_
            refine wl_val (v_move' (by conv => (lhs; whnf))) rfl ?_
            refine wl_nil ?_
            refine then_go ?_
            refine ⟨q - 1, by simp; omega, i + 1, A ++ [(askF x name (e + UInt64.ofNat i) L[i].1, kf)], v2, m3, by omega, rfl, rfl, rfl, rfl, rfl, rfl, rfl, rfl, by simp [hAi], by rw [List.map_append]; exact hRn, fun p hp => ?_, hv0, hl, (st.drop 0).drop 0⟩
            rcases List.mem_append.1 hp with h | h
            · exact hA p h
            · rw [List.mem_singleton.1 h]; exact ⟨hkf, hnf⟩
      · refine wc_skip ?_
        refine then_go ?_
        have hRn : R = histGo x name e (idx0 (L.map (·.1))) (i + 1) (A.map (·.1) ++ [askF x name (e + UInt64.ofNat i) L[i].1]) ((L.drop (i + 1)).map (·.1)) := by
          rw [hRx]
          first
            | exact hist_go hE0 (fun hc => hc.2 (by rw [hi0]; exact Decidable.not_not.1 h45)) (fun hc => hc.2 (by rw [hAt]; exact Decidable.not_not.1 h54))
            | exact hist_go hE0 (fun hc => by omega) (fun hc => by omega)
        refine wc_region ?_
        refine wl_val (v_move' (by conv => (lhs; whnf))) rfl ?_
        refine wl_val (v_load rfl (st.reads (v := .agg (fdC (askF x name (e + UInt64.ofNat i) L[i].1) kf).toArray) 0 rfl TF.t48 (getV_all rfl))) rfl ?_
        refine wl_lsOne (fdP (askF x name (e + UInt64.ofNat i) L[i].1, kf)) Try.underlying62 TF.t48 TF.z48 (by decide) (by decide) rfl rfl st rfl ?_
        intro b58 w st
        refine wl_lsApp 2 (c := fdP) (e := (askF x name (e + UInt64.ofNat i) L[i].1, kf)) st rfl Try.underlying62 TF.t48 TF.z48 rfl rfl (fun u hu => one_fdC hof u (by simpa [fdP] using hu)) rfl rfl (by omega) (by omega) rfl ?_
        intro v2 w st hv2
        refine wl_val (v_assign' (by conv => (lhs; whnf))) rfl ?_
        refine wl_nil ?_
        refine block_go (then_go ?_)
        refine wc_region ?_
        refine wl_val (v_add' rfl rfl rfl (by first | omega | (dsimp only at *; omega)) (by first | omega | (dsimp only at *; omega))) rfl ?_
        refine wl_val (v_move' (by conv => (lhs; whnf))) rfl ?_
        refine wl_nil ?_
        refine then_go ?_
        refine ⟨q - 1, by simp; omega, i + 1, A ++ [(askF x name (e + UInt64.ofNat i) L[i].1, kf)], v2, m3, by omega, rfl, rfl, rfl, rfl, rfl, rfl, rfl, rfl, by simp [hAi], by rw [List.map_append]; exact hRn, fun p hp => ?_, hv0, hl, (st.drop 0).drop 0⟩
        rcases List.mem_append.1 hp with h | h
        · exact hA p h
        · rw [List.mem_singleton.1 h]; exact ⟨hkf, hnf⟩
  · refine wc_exit (then_exit (then_exit (block_hit ?_)))
    refine then_go ?_
    refine wc_seq ?_
    refine wc_region ?_
    refine wl_val (v_move' (by conv => (lhs; whnf))) rfl ?_
    refine wl_val (v_assign' (by conv => (lhs; whnf))) rfl ?_
    refine wl_val (v_assign' (by conv => (lhs; whnf))) rfl ?_
    refine wl_nil ?_
    refine then_go ?_
    refine wc_ret ?_
    have hiL : i = L.length := by omega
    subst hiL
    rw [List.drop_length] at hRx
    obtain ⟨m4, hg4, hq4, st⟩ := st.keepLs (i := 0) rfl (fun _ _ => rfl)
    rw [hRx]
    exact ret2 rfl rfl ((st.keepOnly (l := []) (List.nil_sublist _)).out ⟨_, A, rfl, ⟨hq4, fun p hp => (hA p hp).mono hg4.le⟩, rfl⟩)

theorem c_rhist {vv lv : Value} {x : Vw} {name : By} {e : UInt64} {L : List AwT} (him : Im m wI) (hv : VwM m vv x) (hn : name.length ≤ 9223372036854775807) (hl : AwsM m lv L) (hxl : x.roots.length ≤ 1099511627776) (hL : L.length ≤ 1000000) :
    Ret Try.prog 27 #[vv, .string (strB name), u64 e, lv] wI fun v' w' => Out m wI w' fun m' => ∃ v2 A, v' = .tuple #[v2, .int .i64 (histGo x name e (idx0 (L.map (·.1))) 0 [] (L.map (·.1))).2] ∧ FdsM m' v2 A ∧ A.map (·.1) = (histGo x name e (idx0 (L.map (·.1))) 0 [] (L.map (·.1))).1 := by
  have st := St.start him
  have hv0 := hv
  obtain ⟨rv, rfl, hrt, hp, hh, hokx⟩ := hv
  obtain ⟨la, lc, rfl⟩ := hl.1.sl
  obtain ⟨R, hR⟩ : ∃ R, R = histGo x name e (idx0 (L.map (·.1))) 0 [] (L.map (·.1)) := ⟨_, rfl⟩
  rw [← hR]
  refine ret_of Try.call27 Try.func27 rfl Try.ntmps27 Try.results27 rfl ?_
  refine wc_seq ?_
  refine wc_region ?_
  refine wl_box (v := .agg (vwC x.pin x.head rv).toArray) rfl st rfl ?_
  intro b4 w st
  refine wl_val (v_assign' (by conv => (lhs; whnf))) rfl ?_
  refine wl_val (v_assign' (by conv => (lhs; whnf))) rfl ?_
  refine wl_nil ?_
  refine then_go ?_
  refine wc_seq ?_
  refine wc_region ?_
  refine wl_val (v_assign' (by conv => (lhs; whnf))) rfl ?_
  refine wl_nil ?_
  refine then_go ?_
  refine wc_seq ?_
  refine wc_seq ?_
  refine wc_region ?_
  refine wl_val (v_assign' (by conv => (lhs; whnf))) rfl ?_
  refine wl_nil ?_
  have st := nilRow st 48 5
  refine then_go ?_
  refine wc_block ?_
  refine wc_loop (S := Nat) (fun q r w' => ∃ (i : Nat) (A : List FdT) (v : Value) (m2 : Mem), q + i = L.length ∧ r 1 = .string (strB name) ∧ r 2 = u64 e ∧ r 3 = .slice la L.length lc ∧ r 4 = .pointer (some ⟨b4, 0, none⟩) ∧ r 10 = v ∧ r 11 = .int .i64 i ∧ A.length = i ∧ R = histGo x name e (idx0 (L.map (·.1))) i (A.map (·.1)) ((L.drop i).map (·.1)) ∧ (∀ p ∈ A, keyM m2 p) ∧ VwM m2 (.agg (vwC x.pin x.head rv).toArray) x ∧ AwsM m2 (.slice la L.length lc) L ∧
    St m m2 [] wI w' [lsE 48 5 fdP v A, K.blk b4 (vwC x.pin x.head rv).toArray 29]) id L.length ⟨0, [], .slice none 0 0, m, by omega, rfl, rfl, rfl, rfl, rfl, rfl, rfl, hR, by simp, hv0, hl, st⟩ ?_
  clear hl hv0
  rintro q r w2 ⟨i, A, v, m2, hqi, g1, g2, g3, g4, g10, g11, hAi, hRx, hA, hv0, hl, st⟩
  refine wc_o 1 g1 (wc_o 2 g2 (wc_o 3 g3 (wc_o 4 g4 (wc_o 10 g10 (wc_o 11 g11 ?_)))))
  refine wc_seq ?_
  refine wc_seq ?_
  refine wc_region ?_
  refine wl_val (v_move' (by conv => (lhs; whnf))) rfl ?_
  refine wl_val (v_move' (by conv => (lhs; whnf))) rfl ?_
  refine wl_val (v_len_s Try.underlying61 rfl) rfl ?_
  refine wl_val (v_lss rfl rfl) rfl ?_
  refine wl_nil ?_
  refine then_go ?_
  refine wc_if rfl (fun h17 => ?_) (fun h17 => ?_)
  · refine wc_skip ?_
    refine then_go ?_
    refine wc_seq ?_
    refine wc_block ?_
    refine wc_seq ?_
    have hi : i < L.length := by omega
    obtain ⟨lb, lo, hla⟩ := hl.1.ptr (by omega) (by decide)
    subst hla
    have hk := hl.2 _ (List.getElem_mem hi)
    have hk0 := hl.2 _ (List.getElem_mem (show 0 < L.length by omega))
    have hi0 : idx0 (L.map (·.1)) = L[0].1.index := by rw [idx0, List.getElem?_map, List.getElem?_eq_getElem (show 0 < L.length by omega)]; rfl
    rw [List.drop_eq_getElem_cons hi, List.map_cons] at hRx
    refine wc_draw TF.mixed ?_
    have st := st.pure (touch_drew _)
    show FL _ _ ?ops5 ?post5 [] [] [] _ _
    have fin : ∀ (r : Fr) (w : World) (m3 : Mem) (b12 : Nat) (kf : Value), r 1 = .string (strB name) → r 2 = u64 e → r 3 = .slice (some ⟨lb, lo, none⟩) L.length lc → r 4 = .pointer (some ⟨b4, 0, none⟩) → r 10 = v → r 11 = .int .i64 i → r 12 = .pointer (some ⟨b12, 0, none⟩) → r 32 = .agg (fdC (askF x name (e + UInt64.ofNat i) L[i].1) kf).toArray → r 33 = .int .i64 (askE x name (e + UInt64.ofNat i) L[i].1) →
      SlM m3 kf 1 (askF x name (e + UInt64.ofNat i) L[i].1).bind.key.length (bs (askF x name (e + UInt64.ofNat i) L[i].1).bind.key) → (askF x name (e + UInt64.ofNat i) L[i].1).bind.name.length ≤ 9223372036854775807 → kf.oneCell' = true → (∀ p ∈ A, keyM m3 p) → VwM m3 (.agg (vwC x.pin x.head rv).toArray) x → AwsM m3 (.slice (some ⟨lb, lo, none⟩) L.length lc) L →
      St m m3 [] wI w [K.blk b12 (fdC fd0 (.slice none 0 0)).toArray 48, lsE 48 5 fdP v A, K.blk b4 (vwC x.pin x.head rv).toArray 29] → FL Try.prog 68 ?ops5 ?post5 [14, 13, 12, 11, 10, 9, 8, 7, 6, 5, 4, 3, 2, 1, 0] [13, 12, 11, 8, 7, 6, 4, 3, 2] [] r w := by
      clear st hl hv0 hA
      rintro r w m3 b12 kf g1 g2 g3 g4 g10 g11 g12 g32 g33 hkf hnf hof hA hv0 hl st
      refine fl_o 1 g1 (fl_o 2 g2 (fl_o 3 g3 (fl_o 4 g4 (fl_o 10 g10 (fl_o 11 g11 (fl_o 12 g12 (fl_o 32 g32 (fl_o 33 g33 ?_))))))))
      refine fl_eff1 15 [13] [] (by kernel_rfl) trivial rfl ?_
      refine wl_storeW (cs := (fdC (askF x name (e + UInt64.ofNat i) L[i].1) kf).toArray) 0 st rfl TF.t48 rfl rfl rfl rfl (one_fdC hof) ?_
      intro w st
      refine wl_nil ⟨rfl, ?_⟩
      refine fl_eff1 16 [] [] (by kernel_rfl) trivial rfl ?_
      refine wl_val (v_assign' (by conv => (lhs; whnf))) rfl ?_
      refine wl_nil ⟨rfl, ?_⟩
      refine fl_nil (by kernel_rfl) trivial ?_
      refine then_go ?_
      refine wc_seq ?_
      refine wc_seq ?_
      refine wc_region ?_
      refine wl_val (v_move' (by conv => (lhs; whnf))) rfl ?_
      refine wl_val (v_neq rfl rfl) rfl ?_
      refine wl_nil ?_
      refine then_go ?_
      refine wc_if rfl (fun h35 => ?_) (fun h35 => ?_)
      · refine wc_seq ?_
        refine wc_region ?_
        refine wl_val (v_move' (by conv => (lhs; whnf))) rfl ?_
        refine wl_val (v_assign' (by conv => (lhs; whnf))) rfl ?_
        refine wl_val (v_assign' (by conv => (lhs; whnf))) rfl ?_
        refine wl_nil ?_
        refine then_go ?_
        refine wc_ret (then_ret (block_ret (then_ret (then_ret (block_ret (then_ret ?_))))))
        rw [hist_err h35] at hRx
        rw [hRx]
        exact ret2 rfl rfl ((st.keepOnly (l := []) (List.nil_sublist _)).out ⟨_, [], rfl, FdsM.nil, rfl⟩)
      · refine wc_skip ?_
        refine then_go ?_
        refine wc_seq ?_
        refine wc_seq ?_
        by_cases hp0 : 0 < i
        · have hE0 : askE x name (e + UInt64.ofNat i) L[i].1 = 0 := Decidable.not_not.1 h35
          refine wc_draw TF.mixed ?_
          have st := st.pure (touch_drew _)
          refine fl_val 0 rfl (fun _ => (v_move' (by conv => (lhs; whnf)))) rfl (by kernel_rfl) ?_
          refine fl_val 1 rfl (fun _ => (v_to (v' := .bool true) (v_gtr rfl rfl) (by rw [decide_eq_true (by omega)]))) rfl (by kernel_rfl) ?_
          refine fl_val 2 rfl (fun _ => (v_move' (by conv => (lhs; whnf)))) rfl (by kernel_rfl) ?_
          refine fl_on 3 rfl rfl rfl rfl (fun _ => (v_move' (by conv => (lhs; whnf)))) rfl (by kernel_rfl) ?_
          refine fl_on 4 rfl rfl rfl rfl (fun _ => (v_move' (by conv => (lhs; whnf)))) rfl (by kernel_rfl) ?_
          refine fl_on 5 rfl rfl rfl rfl (fun _ => (v_ias i Try.underlying61 TF.t45 rfl rfl (by first | rfl | omega) (by first | omega | (dsimp only at *; omega)))) rfl (by kernel_rfl) ?_
          refine fl_on 6 rfl rfl rfl rfl (fun _ => (v_fa TF.f45_1 rfl)) rfl (by kernel_rfl) ?_
          refine fl_ond 7 rfl rfl rfl rfl (v_load rfl (hl.1.rd rfl hi (by decide) TF.t23 (v' := arr L[i].1.index) (aw_i hk) st.im)) rfl (by kernel_rfl) ?_
          refine fl_on 8 rfl rfl rfl rfl (fun _ => (v_move' (by conv => (lhs; whnf)))) rfl (by kernel_rfl) ?_
          refine fl_on 9 rfl rfl rfl rfl (fun _ => (v_ias 0 Try.underlying61 TF.t45 rfl rfl (by first | rfl | omega) (by first | omega | (dsimp only at *; omega)))) rfl (by kernel_rfl) ?_
          refine fl_on 10 rfl rfl rfl rfl (fun _ => (v_fa TF.f45_1 rfl)) rfl (by kernel_rfl) ?_
          refine fl_ond 11 rfl rfl rfl rfl (v_load rfl (hl.1.rd rfl (show 0 < L.length by omega) (by decide) TF.t23 (v' := arr L[0].1.index) (aw_i hk0) st.im)) rfl (by kernel_rfl) ?_
          refine fl_on 12 rfl rfl rfl rfl (fun _ => (v_neD rfl rfl hk.idx hk0.idx)) rfl (by kernel_rfl) ?_
          refine fl_val 13 rfl (fun _ => (v_pick rfl)) rfl (by kernel_rfl) ?_
          refine fl_nil (by kernel_rfl) ⟨obl_on rfl rfl rfl rfl rfl (v_load rfl (hl.1.rd rfl (show 0 < L.length by omega) (by decide) TF.t23 (v' := arr L[0].1.index) (aw_i hk0) st.im)), obl_on rfl rfl rfl rfl rfl (v_load rfl (hl.1.rd rfl hi (by decide) TF.t23 (v' := arr L[i].1.index) (aw_i hk) st.im)), trivial⟩ ?_
          refine then_go ?_
          refine wc_if rfl (fun h50 => ?_) (fun h50 => ?_)
          · refine wc_seq ?_
            refine wc_region ?_
            refine wl_val (v_assign' (by conv => (lhs; whnf))) rfl ?_
            refine wl_val (v_assign' (by conv => (lhs; whnf))) rfl ?_
            refine wl_nil ?_
            refine then_go ?_
            refine wc_ret (then_ret (block_ret (then_ret (then_ret (block_ret (then_ret ?_))))))
            rw [hist_15 hE0 ⟨by omega, by rw [hi0]; exact h50⟩] at hRx
            rw [hRx]
            exact ret2 rfl rfl ((st.keepOnly (l := []) (List.nil_sublist _)).out ⟨_, [], rfl, FdsM.nil, rfl⟩)
          · refine wc_skip ?_
            refine then_go ?_
            refine wc_seq ?_
            refine wc_seq ?_
            have hrd := st.lsRd 1 rfl (fun _ _ => rfl)
            obtain ⟨va, vc, hve⟩ := hrd.sl
            subst hve
            obtain ⟨vb, vo, hvb⟩ := hrd.ptr (by omega) (by decide)
            subst hvb
            have hlt : i - 1 < A.length := by omega
            have hAt : (A.map (·.1))[i - 1]?.getD fd0 = A[i - 1].1 := by rw [List.getElem?_map, List.getElem?_eq_getElem hlt]; rfl
            refine wc_draw TF.mixed ?_
            have st := st.pure (touch_drew _)
            refine fl_val 0 rfl (fun _ => (v_move' (by conv => (lhs; whnf)))) rfl (by kernel_rfl) ?_
            refine fl_val 1 rfl (fun _ => (v_to (v' := .bool true) (v_gtr rfl rfl) (by rw [decide_eq_true (by omega)]))) rfl (by kernel_rfl) ?_
            refine fl_val 2 rfl (fun _ => (v_move' (by conv => (lhs; whnf)))) rfl (by kernel_rfl) ?_
            refine fl_on 3 rfl rfl rfl rfl (fun _ => (v_move' (by conv => (lhs; whnf)))) rfl (by kernel_rfl) ?_
            refine fl_on 4 rfl rfl rfl rfl (fun _ => (v_move' (by conv => (lhs; whnf)))) rfl (by kernel_rfl) ?_
            refine fl_on 5 rfl rfl rfl rfl (fun _ => (v_sub' (c := ((i - 1 : Nat) : Int)) rfl rfl (by omega) (by omega) (by omega))) rfl (by kernel_rfl) ?_
            refine fl_on 6 rfl rfl rfl rfl (fun _ => (v_ias (i - 1) Try.underlying62 TF.t48 rfl rfl (by first | rfl | omega) (by first | omega | (dsimp only at *; omega)))) rfl (by kernel_rfl) ?_
            refine fl_ond 7 rfl rfl rfl rfl (v_load rfl (hrd.rd0 rfl hlt (by decide) TF.t48 (v' := .agg (fdC A[i - 1].1 A[i - 1].2).toArray) (getV_all rfl) (fun _ _ h => h))) rfl (by kernel_rfl) ?_
            refine fl_ond 8 rfl rfl rfl rfl (v_load rfl (st.reads (v := .agg (fdC (askF x name (e + UInt64.ofNat i) L[i].1) kf).toArray) 0 rfl TF.t48 (getV_all rfl))) rfl (by kernel_rfl) ?_
            refine fl_eff1 9 [6, 5, 4, 3, 1, 0] [] (by kernel_rfl) ⟨obl_on rfl rfl rfl rfl rfl (v_load rfl (st.reads (v := .agg (fdC (askF x name (e + UInt64.ofNat i) L[i].1) kf).toArray) 0 rfl TF.t48 (getV_all rfl))), obl_on rfl rfl rfl rfl rfl (v_load rfl (hrd.rd0 rfl hlt (by decide) TF.t48 (v' := .agg (fdC A[i - 1].1 A[i - 1].2).toArray) (getV_all rfl) (fun _ _ h => h))), trivial⟩ rfl ?_
            refine wl_on rfl rfl ?_
            refine wl_call rfl (c_rnext st.im ⟨_, rfl, hA _ (List.getElem_mem hlt)⟩ ⟨_, rfl, hkf, hnf⟩) rfl ?_
            rintro v60 w ⟨t60, rfl⟩
            have st := st.pure t60
            refine wl_nil ⟨rfl, ?_⟩
            refine fl_on 10 rfl rfl rfl rfl (fun _ => (v_neq rfl rfl)) rfl (by kernel_rfl) ?_
            refine fl_val 11 rfl (fun _ => (v_pick rfl)) rfl (by kernel_rfl) ?_
            refine fl_nil (by kernel_rfl) trivial ?_
            refine then_go ?_
            refine wc_if rfl (fun h62 => ?_) (fun h62 => ?_)
            · refine wc_seq ?_
              refine wc_region ?_
              refine wl_val (v_assign' (by conv => (lhs; whnf))) rfl ?_
              refine wl_val (v_assign' (by conv => (lhs; whnf))) rfl ?_
              refine wl_nil ?_
              refine then_go ?_
              refine wc_ret (then_ret (block_ret (then_ret (then_ret (block_ret (then_ret ?_))))))
              rw [hist_8 hE0 (fun hc => hc.2 (by rw [hi0]; exact Decidable.not_not.1 h50)) ⟨by omega, by rw [hAt]; exact h62⟩] at hRx
              rw [hRx]
              exact ret2 rfl rfl ((st.keepOnly (l := []) (List.nil_sublist _)).out ⟨_, [], rfl, FdsM.nil, rfl⟩)
            · refine wc_skip ?_
              refine then_go ?_
              have hRn : R = histGo x name e (idx0 (L.map (·.1))) (i + 1) (A.map (·.1) ++ [askF x name (e + UInt64.ofNat i) L[i].1]) ((L.drop (i + 1)).map (·.1)) := by
                rw [hRx]
                first
                  | exact hist_go hE0 (fun hc => by omega) (fun hc => by omega)
                  | exact hist_go hE0 (fun hc => hc.2 (by rw [hi0]; exact Decidable.not_not.1 h50)) (fun hc => hc.2 (by rw [hAt]; exact Decidable.not_not.1 h62))
              refine wc_region ?_
              refine wl_val (v_move' (by conv => (lhs; whnf))) rfl ?_
              refine wl_val (v_load rfl (st.reads (v := .agg (fdC (askF x name (e + UInt64.ofNat i) L[i].1) kf).toArray) 0 rfl TF.t48 (getV_all rfl))) rfl ?_
              refine wl_lsOne (fdP (askF x name (e + UInt64.ofNat i) L[i].1, kf)) Try.underlying62 TF.t48 TF.z48 (by decide) (by decide) rfl rfl st rfl ?_
              intro b58 w st
              refine wl_lsApp 1 (c := fdP) (e := (askF x name (e + UInt64.ofNat i) L[i].1, kf)) st rfl Try.underlying62 TF.t48 TF.z48 rfl rfl (fun u hu => one_fdC hof u (by simpa [fdP] using hu)) rfl rfl (by omega) (by omega) rfl ?_
              intro v2 w st hv2
              refine wl_val (v_assign' (by conv => (lhs; whnf))) rfl ?_
              refine wl_nil ?_
              refine block_go (then_go ?_)
              refine wc_region ?_
              refine wl_val (v_move' (by conv => (lhs; whnf))) rfl ?_
              refine wl_val (v_add' rfl rfl rfl (by first | omega | (dsimp only at *; omega)) (by first | omega | (dsimp only at *; omega))) rfl ?_
              refine wl_val (v_assign' (by conv => (lhs; whnf))) rfl ?_
              refine wl_nil ?_
              refine then_go ?_
              refine ⟨q - 1, by simp; omega, i + 1, A ++ [(askF x name (e + UInt64.ofNat i) L[i].1, kf)], v2, m3, by omega, rfl, rfl, rfl, rfl, rfl, rfl, by simp [hAi], by rw [List.map_append]; exact hRn, fun p hp => ?_, hv0, hl, st.drop 0⟩
              rcases List.mem_append.1 hp with h | h
              · exact hA p h
              · rw [List.mem_singleton.1 h]; exact ⟨hkf, hnf⟩
        · have hE0 : askE x name (e + UInt64.ofNat i) L[i].1 = 0 := Decidable.not_not.1 h35
          refine wc_draw TF.mixed ?_
          have st := st.pure (touch_drew _)
          refine fl_val 0 rfl (fun _ => (v_move' (by conv => (lhs; whnf)))) rfl (by kernel_rfl) ?_
          refine fl_val 1 rfl (fun _ => (v_to (v' := .bool false) (v_gtr rfl rfl) (by rw [decide_eq_false (by omega)]))) rfl (by kernel_rfl) ?_
          refine fl_val 2 rfl (fun _ => (v_move' (by conv => (lhs; whnf)))) rfl (by kernel_rfl) ?_
          refine fl_off 3 rfl rfl rfl rfl rfl rfl (by kernel_rfl) ?_
          refine fl_off 4 rfl rfl rfl rfl rfl rfl (by kernel_rfl) ?_
          refine fl_off 5 rfl rfl rfl rfl rfl rfl (by kernel_rfl) ?_
          refine fl_off 6 rfl rfl rfl rfl rfl rfl (by kernel_rfl) ?_
          refine fl_offd 7 rfl rfl rfl rfl rfl rfl (by kernel_rfl) ?_
          refine fl_off 8 rfl rfl rfl rfl rfl rfl (by kernel_rfl) ?_
          refine fl_off 9 rfl rfl rfl rfl rfl rfl (by kernel_rfl) ?_
          refine fl_off 10 rfl rfl rfl rfl rfl rfl (by kernel_rfl) ?_
          refine fl_offd 11 rfl rfl rfl rfl rfl rfl (by kernel_rfl) ?_
          refine fl_off 12 rfl rfl rfl rfl rfl rfl (by kernel_rfl) ?_
          refine fl_val 13 rfl (fun _ => (v_pick rfl)) rfl (by kernel_rfl) ?_
          refine fl_nil (by kernel_rfl) ⟨obl_off rfl rfl rfl rfl rfl rfl, obl_off rfl rfl rfl rfl rfl rfl, trivial⟩ ?_
          refine then_go ?_
          refine wc_false rfl ?_
          refine wc_skip ?_
          refine then_go ?_
          refine wc_seq ?_
          refine wc_seq ?_
          refine wc_draw TF.mixed ?_
          have st := st.pure (touch_drew _)
          refine fl_val 0 rfl (fun _ => (v_move' (by conv => (lhs; whnf)))) rfl (by kernel_rfl) ?_
          refine fl_val 1 rfl (fun _ => (v_to (v' := .bool false) (v_gtr rfl rfl) (by rw [decide_eq_false (by omega)]))) rfl (by kernel_rfl) ?_
          refine fl_val 2 rfl (fun _ => (v_move' (by conv => (lhs; whnf)))) rfl (by kernel_rfl) ?_
          refine fl_off 3 rfl rfl rfl rfl rfl rfl (by kernel_rfl) ?_
          refine fl_off 4 rfl rfl rfl rfl rfl rfl (by kernel_rfl) ?_
          refine fl_off 5 rfl rfl rfl rfl rfl rfl (by kernel_rfl) ?_
          refine fl_off 6 rfl rfl rfl rfl rfl rfl (by kernel_rfl) ?_
          refine fl_offd 7 rfl rfl rfl rfl rfl rfl (by kernel_rfl) ?_
          refine fl_offd 8 rfl rfl rfl rfl rfl rfl (by kernel_rfl) ?_
          refine fl_eff1 9 [6, 5, 4, 3, 1, 0] [] (by kernel_rfl) ⟨obl_off rfl rfl rfl rfl rfl rfl, obl_off rfl rfl rfl rfl rfl rfl, trivial⟩ rfl ?_
          refine wl_off rfl rfl rfl rfl ?_
          refine wl_nil ⟨rfl, ?_⟩
          refine fl_off 10 rfl rfl rfl rfl rfl rfl (by kernel_rfl) ?_
          refine fl_val 11 rfl (fun _ => (v_pick rfl)) rfl (by kernel_rfl) ?_
          refine fl_nil (by kernel_rfl) trivial ?_
          refine then_go ?_
          refine wc_false rfl ?_
          refine wc_skip ?_
          refine then_go ?_
          have hRn : R = histGo x name e (idx0 (L.map (·.1))) (i + 1) (A.map (·.1) ++ [askF x name (e + UInt64.ofNat i) L[i].1]) ((L.drop (i + 1)).map (·.1)) := by
            rw [hRx]
            first
              | exact hist_go hE0 (fun hc => by omega) (fun hc => by omega)
              | exact hist_go hE0 (fun hc => hc.2 (by rw [hi0]; exact Decidable.not_not.1 h50)) (fun hc => hc.2 (by rw [hAt]; exact Decidable.not_not.1 h62))
          refine wc_region ?_
          refine wl_val (v_move' (by conv => (lhs; whnf))) rfl ?_
          refine wl_val (v_load rfl (st.reads (v := .agg (fdC (askF x name (e + UInt64.ofNat i) L[i].1) kf).toArray) 0 rfl TF.t48 (getV_all rfl))) rfl ?_
          refine wl_lsOne (fdP (askF x name (e + UInt64.ofNat i) L[i].1, kf)) Try.underlying62 TF.t48 TF.z48 (by decide) (by decide) rfl rfl st rfl ?_
          intro b58 w st
          refine wl_lsApp 1 (c := fdP) (e := (askF x name (e + UInt64.ofNat i) L[i].1, kf)) st rfl Try.underlying62 TF.t48 TF.z48 rfl rfl (fun u hu => one_fdC hof u (by simpa [fdP] using hu)) rfl rfl (by omega) (by omega) rfl ?_
          intro v2 w st hv2
          refine wl_val (v_assign' (by conv => (lhs; whnf))) rfl ?_
          refine wl_nil ?_
          refine block_go (then_go ?_)
          refine wc_region ?_
          refine wl_val (v_move' (by conv => (lhs; whnf))) rfl ?_
          refine wl_val (v_add' rfl rfl rfl (by first | omega | (dsimp only at *; omega)) (by first | omega | (dsimp only at *; omega))) rfl ?_
          refine wl_val (v_assign' (by conv => (lhs; whnf))) rfl ?_
          refine wl_nil ?_
          refine then_go ?_
          refine ⟨q - 1, by simp; omega, i + 1, A ++ [(askF x name (e + UInt64.ofNat i) L[i].1, kf)], v2, m3, by omega, rfl, rfl, rfl, rfl, rfl, rfl, by simp [hAi], by rw [List.map_append]; exact hRn, fun p hp => ?_, hv0, hl, st.drop 0⟩
          rcases List.mem_append.1 hp with h | h
          · exact hA p h
          · rw [List.mem_singleton.1 h]; exact ⟨hkf, hnf⟩
    refine fl_ld 0 rfl (v_load rfl (by first | exact st.reads (b := b4) (c := (vwC x.pin x.head rv).toArray) (v := .agg (vwC x.pin x.head rv).toArray) 1 rfl TF.t29 (getV_all (by exact length_vwC hp hh)) | exact st.reads (b := b4) (c := (vwC x.pin x.head rv).toArray) (v := .agg (vwC x.pin x.head rv).toArray) 2 rfl TF.t29 (getV_all (by exact length_vwC hp hh)))) (by kernel_rfl) ?_
    refine fl_val 1 rfl (fun _ => (v_move' (by conv => (lhs; whnf)))) rfl (by kernel_rfl) ?_
    refine fl_val 2 rfl (fun _ => (v_move' (by conv => (lhs; whnf)))) rfl (by kernel_rfl) ?_
    refine fl_val 3 rfl (fun _ => (v_move' (by conv => (lhs; whnf)))) rfl (by kernel_rfl) ?_
    refine fl_val 4 rfl (fun _ => (v_to (v' := u64 (UInt64.ofNat i)) (v_conv Try.underlying3 Try.underlying24 rfl) (by rw [wrap_u64]; rfl))) rfl (by kernel_rfl) ?_
    refine fl_val 5 rfl (fun _ => (v_add64 rfl rfl)) rfl (by kernel_rfl) ?_
    refine fl_val 6 rfl (fun _ => (v_move' (by conv => (lhs; whnf)))) rfl (by kernel_rfl) ?_
    refine fl_val 7 rfl (fun _ => (v_move' (by conv => (lhs; whnf)))) rfl (by kernel_rfl) ?_
    refine fl_val 8 rfl (fun _ => (v_ias i Try.underlying61 TF.t45 rfl rfl (by first | rfl | omega) (by first | omega | (dsimp only at *; omega)))) rfl (by kernel_rfl) ?_
    refine fl_ld 9 rfl (v_load rfl (hl.1.rd0 rfl hi (by decide) TF.t45 (v' := .agg (awC L[i].1 L[i].2.1 L[i].2.2).toArray) (getV_all (by exact length_awC hk)) st.im)) (by kernel_rfl) ?_
    refine fl_effs [10, 14] (by kernel_rfl) ⟨obl_ld rfl rfl rfl (v_load rfl (hl.1.rd0 rfl hi (by decide) TF.t45 (v' := .agg (awC L[i].1 L[i].2.1 L[i].2.2).toArray) (getV_all (by exact length_awC hk)) st.im)), obl_ld rfl rfl rfl (v_load rfl (by first | exact st.reads (b := b4) (c := (vwC x.pin x.head rv).toArray) (v := .agg (vwC x.pin x.head rv).toArray) 1 rfl TF.t29 (getV_all (by exact length_vwC hp hh)) | exact st.reads (b := b4) (c := (vwC x.pin x.head rv).toArray) (v := .agg (vwC x.pin x.head rv).toArray) 2 rfl TF.t29 (getV_all (by exact length_vwC hp hh)))), trivial⟩ (all2 ?_ ?_)
    · refine stepE 10 (pure' := [8, 7, 6, 4, 3, 2]) (lds' := []) rfl (by kernel_rfl) (by kernel_rfl) ?_
      refine wl_call rfl (c_rask st.im hv0 hn ⟨_, _, rfl, hk⟩ hxl) rfl ?_
      rintro v31 w ⟨t31, m3, hg3, hi3, fv, rfl, hf⟩
      have st := st.grown hg3 t31 hi3
      have hv0 := hv0.mono hg3.le
      have hl := hl.mono hg3.le
      have hA : ∀ p ∈ A, keyM m3 p := fun p hp => (hA p hp).mono hg3.le
      obtain ⟨kf, rfl, hkf, hnf⟩ := hf
      have hof : kf.oneCell' = true := by obtain ⟨_, _, _, h, _⟩ := hkf; rw [h]; rfl
      refine wl_nil ⟨rfl, ?_⟩
      refine fl_val 11 rfl (fun _ => (v_move' (by conv => (lhs; whnf)))) rfl (by kernel_rfl) ?_
      refine fl_val 12 rfl (fun _ => (v_extract rfl rfl)) rfl (by kernel_rfl) ?_
      refine fl_val 13 rfl (fun _ => (v_extract rfl rfl)) rfl (by kernel_rfl) ?_
      refine fl_eff1 14 [13, 12, 11, 8, 7, 6, 4, 3, 2] [] (by kernel_rfl) trivial rfl ?_
      refine wl_alloc TF.z48 st rfl ?_
      intro b12 w st
      refine wl_nil ⟨rfl, ?_⟩
      refine FL.permB [14, 13, 12, 11, 10, 9, 8, 7, 6, 5, 4, 3, 2, 1, 0] [13, 12, 11, 8, 7, 6, 4, 3, 2] [] (by kernel_rfl) ?_
      exact fin _ _ _ _ _ rfl rfl rfl rfl rfl rfl rfl rfl rfl hkf hnf hof hA hv0 hl st
    · refine stepE 14 (pure' := [8, 7, 6, 5, 4, 3, 2, 1]) (lds' := [9, 0]) rfl (by kernel_rfl) (by kernel_rfl) ?_
      refine wl_alloc TF.z48 st rfl ?_
      intro b12 w st
      refine wl_nil ⟨rfl, ?_⟩
      refine fl_eff1 10 [8, 7, 6, 4, 3, 2] [] (by kernel_rfl) ⟨obl_ld rfl rfl rfl (v_load rfl (hl.1.rd0 rfl hi (by decide) TF.t45 (v' := .agg (awC L[i].1 L[i].2.1 L[i].2.2).toArray) (getV_all (by exact length_awC hk)) st.im)), obl_ld rfl rfl rfl (v_load rfl (by first | exact st.reads (b := b4) (c := (vwC x.pin x.head rv).toArray) (v := .agg (vwC x.pin x.head rv).toArray) 1 rfl TF.t29 (getV_all (by exact length_vwC hp hh)) | exact st.reads (b := b4) (c := (vwC x.pin x.head rv).toArray) (v := .agg (vwC x.pin x.head rv).toArray) 2 rfl TF.t29 (getV_all (by exact length_vwC hp hh)))), trivial⟩ rfl ?_
      refine wl_call rfl (c_rask st.im hv0 hn ⟨_, _, rfl, hk⟩ hxl) rfl ?_
      rintro v31 w ⟨t31, m3, hg3, hi3, fv, rfl, hf⟩
      have st := st.grown hg3 t31 hi3
      have hv0 := hv0.mono hg3.le
      have hl := hl.mono hg3.le
      have hA : ∀ p ∈ A, keyM m3 p := fun p hp => (hA p hp).mono hg3.le
      obtain ⟨kf, rfl, hkf, hnf⟩ := hf
      have hof : kf.oneCell' = true := by obtain ⟨_, _, _, h, _⟩ := hkf; rw [h]; rfl
      refine wl_nil ⟨rfl, ?_⟩
      refine fl_val 11 rfl (fun _ => (v_move' (by conv => (lhs; whnf)))) rfl (by kernel_rfl) ?_
      refine fl_val 12 rfl (fun _ => (v_extract rfl rfl)) rfl (by kernel_rfl) ?_
      refine fl_val 13 rfl (fun _ => (v_extract rfl rfl)) rfl (by kernel_rfl) ?_
      refine FL.permB [14, 13, 12, 11, 10, 9, 8, 7, 6, 5, 4, 3, 2, 1, 0] [13, 12, 11, 8, 7, 6, 4, 3, 2] [] (by kernel_rfl) ?_
      exact fin _ _ _ _ _ rfl rfl rfl rfl rfl rfl rfl rfl rfl hkf hnf hof hA hv0 hl st
  · refine wc_exit (then_exit (then_exit (block_hit ?_)))
    refine then_go ?_
    refine wc_seq ?_
    refine wc_region ?_
    refine wl_val (v_move' (by conv => (lhs; whnf))) rfl ?_
    refine wl_val (v_assign' (by conv => (lhs; whnf))) rfl ?_
    refine wl_val (v_assign' (by conv => (lhs; whnf))) rfl ?_
    refine wl_nil ?_
    refine then_go ?_
    refine wc_ret ?_
    have hiL : i = L.length := by omega
    subst hiL
    rw [List.drop_length] at hRx
    obtain ⟨m4, hg4, hq4, st⟩ := st.keepLs (i := 0) rfl (fun _ _ => rfl)
    rw [hRx]
    exact ret2 rfl rfl ((st.keepOnly (l := []) (List.nil_sublist _)).out ⟨_, A, rfl, ⟨hq4, fun p hp => (hA p hp).mono hg4.le⟩, rfl⟩)

theorem c_sameall {v1 v2 : Value} {A B : List FdT} (him : Im m wI) (h1 : FdsM m v1 A) (h2 : FdsM m v2 B) (hAB : A.map (·.1) = B.map (·.1)) (hA : A.length ≤ 1000000) :
    Ret Try.prog 28 #[v1, v2] wI fun v' w' => Tch wI w' [] [] ∧ v' = .bool true := by
  have st := St.start him
  obtain ⟨a1, c1, rfl⟩ := h1.1.sl
  obtain ⟨a2, c2, rfl⟩ := h2.1.sl
  have hlen : A.length = B.length := by have := congrArg List.length hAB; simpa using this
  refine ret_of Try.call28 Try.func28 rfl Try.ntmps28 Try.results28 rfl ?_
  refine wc_seq ?_
  refine wc_region ?_
  refine wl_val (v_assign' (by conv => (lhs; whnf))) rfl ?_
  refine wl_nil ?_
  refine then_go ?_
  refine wc_seq ?_
  refine wc_seq ?_
  refine wc_region ?_
  refine wl_val (v_move' (by conv => (lhs; whnf))) rfl ?_
  refine wl_val (v_len_s Try.underlying62 rfl) rfl ?_
  refine wl_val (v_move' (by conv => (lhs; whnf))) rfl ?_
  refine wl_val (v_len_s Try.underlying62 rfl) rfl ?_
  refine wl_val (v_neqF (show (A.length : Int) = (B.length : Int) by omega) rfl rfl) rfl ?_
  refine wl_nil ?_
  refine then_go ?_
  refine wc_false rfl ?_
  refine wc_skip ?_
  refine then_go ?_
  refine wc_seq ?_
  refine wc_seq ?_
  refine wc_region ?_
  refine wl_val (v_assign' (by conv => (lhs; whnf))) rfl ?_
  refine wl_nil ?_
  refine then_go ?_
  refine wc_block ?_
  refine wc_loop (S := Nat) (fun q r w' => ∃ (i : Nat), q + i = A.length ∧ r 0 = .slice a1 A.length c1 ∧ r 1 = .slice a2 B.length c2 ∧ r 5 = .int .i64 i ∧ St m m [] wI w' []) id A.length ⟨0, by omega, rfl, rfl, rfl, st⟩ ?_
  rintro q r w2 ⟨i, hqi, g0, g1, g5, st⟩
  refine wc_o 0 g0 (wc_o 1 g1 (wc_o 5 g5 ?_))
  refine wc_seq ?_
  refine wc_seq ?_
  refine wc_region ?_
  refine wl_val (v_move' (by conv => (lhs; whnf))) rfl ?_
  refine wl_val (v_move' (by conv => (lhs; whnf))) rfl ?_
  refine wl_val (v_len_s Try.underlying62 rfl) rfl ?_
  refine wl_val (v_lss rfl rfl) rfl ?_
  refine wl_nil ?_
  refine then_go ?_
  refine wc_if rfl (fun h14 => ?_) (fun h14 => ?_)
  · refine wc_skip ?_
    refine then_go ?_
    refine wc_seq ?_
    refine wc_block ?_
    refine wc_seq ?_
    have hi : i < A.length := by omega
    have hj : i < B.length := by omega
    obtain ⟨ba, oa, hba⟩ := h1.1.ptr (by omega) (by decide)
    subst hba
    obtain ⟨bb, ob, hbb⟩ := h2.1.ptr (by omega) (by decide)
    subst hbb
    have he : A[i].1 = B[i].1 := by
      have : (A.map (·.1))[i]? = (B.map (·.1))[i]? := by rw [hAB]
      rw [List.getElem?_map, List.getElem?_map, List.getElem?_eq_getElem hi, List.getElem?_eq_getElem hj] at this
      simpa using this
    refine wc_draw TF.mixed ?_
    have st := st.pure (touch_drew _)
    refine fl_val 0 rfl (fun _ => (v_move' (by conv => (lhs; whnf)))) rfl (by kernel_rfl) ?_
    refine fl_val 1 rfl (fun _ => (v_move' (by conv => (lhs; whnf)))) rfl (by kernel_rfl) ?_
    refine fl_val 2 rfl (fun _ => (v_ias i Try.underlying62 TF.t48 rfl rfl (by first | rfl | omega) (by first | omega | (dsimp only at *; omega)))) rfl (by kernel_rfl) ?_
    refine fl_ld 3 rfl (v_load rfl (h1.1.rd0 rfl hi (by decide) TF.t48 (v' := .agg (fdC A[i].1 A[i].2).toArray) (getV_all rfl) st.im)) (by kernel_rfl) ?_
    refine fl_val 4 rfl (fun _ => (v_move' (by conv => (lhs; whnf)))) rfl (by kernel_rfl) ?_
    refine fl_val 5 rfl (fun _ => (v_move' (by conv => (lhs; whnf)))) rfl (by kernel_rfl) ?_
    refine fl_val 6 rfl (fun _ => (v_ias i Try.underlying62 TF.t48 rfl rfl (by first | rfl | omega) (by first | omega | (dsimp only at *; omega)))) rfl (by kernel_rfl) ?_
    refine fl_ld 7 rfl (v_load rfl (h2.1.rd0 rfl hj (by decide) TF.t48 (v' := .agg (fdC B[i].1 B[i].2).toArray) (getV_all rfl) st.im)) (by kernel_rfl) ?_
    refine fl_eff1 8 [6, 5, 4, 2, 1, 0] [] (by kernel_rfl) ⟨obl_ld rfl rfl rfl (v_load rfl (h2.1.rd0 rfl hj (by decide) TF.t48 (v' := .agg (fdC B[i].1 B[i].2).toArray) (getV_all rfl) st.im)), obl_ld rfl rfl rfl (v_load rfl (h1.1.rd0 rfl hi (by decide) TF.t48 (v' := .agg (fdC A[i].1 A[i].2).toArray) (getV_all rfl) st.im)), trivial⟩ rfl ?_
    refine wl_call rfl (c_samefound st.im ⟨_, rfl, h1.2 _ (List.getElem_mem hi)⟩ ⟨_, rfl, h2.2 _ (List.getElem_mem hj)⟩) rfl ?_
    rintro v25 w ⟨t25, rfl⟩
    have st := st.pure t25
    rw [show decide (A[i].1 = B[i].1) = true from decide_eq_true he]
    refine wl_nil ⟨rfl, ?_⟩
    refine fl_val 9 rfl (fun _ => (v_not rfl)) rfl (by kernel_rfl) ?_
    refine fl_nil (by kernel_rfl) trivial ?_
    refine then_go ?_
    refine wc_false rfl ?_
    refine wc_skip ?_
    refine block_go (then_go ?_)
    refine wc_region ?_
    refine wl_val (v_move' (by conv => (lhs; whnf))) rfl ?_
    refine wl_val (v_add' rfl rfl rfl (by first | omega | (dsimp only at *; omega)) (by first | omega | (dsimp only at *; omega))) rfl ?_
    refine wl_val (v_assign' (by conv => (lhs; whnf))) rfl ?_
    refine wl_nil ?_
    refine then_go ?_
    exact ⟨q - 1, by simp; omega, i + 1, by omega, rfl, rfl, rfl, st⟩
  · refine wc_exit (then_exit (then_exit (block_hit ?_)))
    refine then_go ?_
    refine wc_seq ?_
    refine wc_region ?_
    refine wl_val (v_assign' (by conv => (lhs; whnf))) rfl ?_
    refine wl_nil ?_
    refine then_go ?_
    refine wc_ret ?_
    exact ret1 rfl ⟨st.touch, rfl⟩

theorem histGo_len {x : Vw} {name : By} {e : UInt64} {i0 : By} : ∀ {L : List Aw} {i : Nat} {acc : List Fd}, (histGo x name e i0 i acc L).1.length ≤ acc.length + L.length
  | [], i, acc => by simp [histGo]
  | a :: L, i, acc => by
    rw [histGo]
    split
    · simp
    · split
      · simp
      · split
        · simp
        · have := histGo_len (L := L) (x := x) (name := name) (e := e) (i0 := i0) (i := i + 1) (acc := acc ++ [askF x name (e + UInt64.ofNat i) a])
          simp at this
          rw [List.length_cons]
          omega

theorem c_fhists {vv lv v1 v2 : Value} {x : Vw} {name : By} {e : UInt64} {L : List AwT} {f1 f2 : Fd} (him : Im m wI) (hv : VwM m vv x) (hn : name.length ≤ 9223372036854775807) (hl : AwsM m lv L) (h1 : FdM m v1 f1) (h2 : FdM m v2 f2) :
    Ret Try.prog 7 #[vv, .string (strB name), u64 e, lv, v1, v2] wI fun v' w' => Tch wI w' [] [] ∧ v' = .bool true := by
  have st := St.start him
  have hv0 := hv
  have h10 := h1
  have h20 := h2
  obtain ⟨rv, rfl, hrt, hp, hh, hokx⟩ := hv
  obtain ⟨la, lc, rfl⟩ := hl.1.sl
  obtain ⟨k1, rfl, hk1, _⟩ := h1
  obtain ⟨k2, rfl, hk2, _⟩ := h2
  refine ret_of Try.call7 Try.func7 rfl Try.ntmps7 Try.results7 rfl ?_
  refine wc_seq ?_
  refine wc_region ?_
  refine wl_box (v := .agg (vwC x.pin x.head rv).toArray) rfl st rfl ?_
  intro b6 w st
  refine wl_box (v := .agg (fdC f1 k1).toArray) rfl st rfl ?_
  intro b10 w st
  refine wl_box (v := .agg (fdC f2 k2).toArray) rfl st rfl ?_
  intro b11 w st
  refine wl_val (v_assign' (by conv => (lhs; whnf))) rfl ?_
  refine wl_nil ?_
  refine then_go ?_
  refine wc_seq ?_
  refine wc_seq ?_
  refine wc_region ?_
  refine wl_val (v_load rfl (st.reads (v := .agg (vwC x.pin x.head rv).toArray) 2 rfl TF.t29 (getV_all (by exact length_vwC hp hh)))) rfl ?_
  refine wl_call rfl (c_cfew (L := []) st.im hv0 ⟨LsM.nil, by simp⟩) rfl ?_
  rintro v19 w ⟨t19, b, rfl, hb⟩
  have st := st.pure t19
  refine wl_val (v_not rfl) rfl ?_
  refine wl_val (v_move' (by conv => (lhs; whnf))) rfl ?_
  rcases Bool.eq_false_or_eq_true (!b) with hg3 | hg3
  · rw [hg3]
    refine wl_off rfl rfl rfl rfl ?_
    refine wl_off rfl rfl rfl rfl ?_
    refine wl_off rfl rfl rfl rfl ?_
    refine wl_val (v_pick rfl) rfl ?_
    refine wl_nil ?_
    refine then_go ?_
    refine wc_true rfl ?_
    refine wc_seq ?_
    refine wc_region ?_
    refine wl_call rfl (c_works st.im) rfl ?_
    rintro v26 w ⟨t26, rfl⟩
    have st := st.pure t26
    refine wl_val (v_assign' (by conv => (lhs; whnf))) rfl ?_
    refine wl_nil ?_
    refine then_go ?_
    refine wc_ret (then_ret ?_)
    exact ret1 rfl ⟨(st.keepOnly (l := []) (List.nil_sublist _)).touch, rfl⟩
  · rw [hg3]
    refine wl_on rfl rfl ?_
    refine wl_val (v_move' (by conv => (lhs; whnf))) rfl ?_
    refine wl_on rfl rfl ?_
    refine wl_val (v_len_s Try.underlying61 rfl) rfl ?_
    refine wl_on rfl rfl ?_
    refine wl_val (v_gtr rfl rfl) rfl ?_
    refine wl_val (v_pick rfl) rfl ?_
    refine wl_nil ?_
    refine then_go ?_
    refine wc_if rfl (fun h25 => ?_) (fun h25 => ?_)
    · refine wc_seq ?_
      refine wc_region ?_
      refine wl_call rfl (c_works st.im) rfl ?_
      rintro v26 w ⟨t26, rfl⟩
      have st := st.pure t26
      refine wl_val (v_assign' (by conv => (lhs; whnf))) rfl ?_
      refine wl_nil ?_
      refine then_go ?_
      refine wc_ret (then_ret ?_)
      exact ret1 rfl ⟨(st.keepOnly (l := []) (List.nil_sublist _)).touch, rfl⟩
    · refine wc_skip ?_
      refine then_go ?_
      refine wc_seq ?_
      refine wc_seq ?_
      refine wc_region ?_
      refine wl_val (v_assign' (by conv => (lhs; whnf))) rfl ?_
      refine wl_nil ?_
      refine then_go ?_
      refine wc_block ?_
      have hbt := hb (by simpa using hg3)
      refine wc_loop (S := Nat) (fun q r w' => ∃ (i : Nat), q + i = L.length ∧ r 1 = .string (strB name) ∧ r 2 = u64 e ∧ r 3 = .slice la L.length lc ∧ r 6 = .pointer (some ⟨b6, 0, none⟩) ∧ r 10 = .pointer (some ⟨b10, 0, none⟩) ∧ r 11 = .pointer (some ⟨b11, 0, none⟩) ∧ r 13 = .int .i64 i ∧ (∀ p ∈ L.take i, p.1.bind.key.length ≤ 1099511627776) ∧
        St m m [] wI w' [K.blk b11 (fdC f2 k2).toArray 48, K.blk b10 (fdC f1 k1).toArray 48, K.blk b6 (vwC x.pin x.head rv).toArray 29]) id L.length ⟨0, by omega, rfl, rfl, rfl, rfl, rfl, rfl, rfl, by simp, st⟩ ?_
      clear st
      rintro q r w2 ⟨i, hqi, g1, g2, g3, g6, g10, g11, g13, hks, st⟩
      refine wc_o 1 g1 (wc_o 2 g2 (wc_o 3 g3 (wc_o 6 g6 (wc_o 10 g10 (wc_o 11 g11 (wc_o 13 g13 ?_))))))
      refine wc_seq ?_
      refine wc_seq ?_
      refine wc_region ?_
      refine wl_val (v_move' (by conv => (lhs; whnf))) rfl ?_
      refine wl_val (v_move' (by conv => (lhs; whnf))) rfl ?_
      refine wl_val (v_len_s Try.underlying61 rfl) rfl ?_
      refine wl_val (v_lss rfl rfl) rfl ?_
      refine wl_nil ?_
      refine then_go ?_
      refine wc_if rfl (fun h30 => ?_) (fun h30 => ?_)
      · refine wc_skip ?_
        refine then_go ?_
        refine wc_seq ?_
        refine wc_block ?_
        refine wc_seq ?_
        have hi : i < L.length := by omega
        obtain ⟨lb, lo, hla⟩ := hl.1.ptr (by omega) (by decide)
        subst hla
        have hk := hl.2 _ (List.getElem_mem hi)
        refine wc_region ?_
        refine wl_val (v_move' (by conv => (lhs; whnf))) rfl ?_
        refine wl_val (v_move' (by conv => (lhs; whnf))) rfl ?_
        refine wl_val (v_ias i Try.underlying61 TF.t45 rfl rfl (by first | rfl | omega) (by first | omega | (dsimp only at *; omega))) rfl ?_
        refine wl_val (v_load rfl (hl.1.rd0 rfl hi (by decide) TF.t45 (v' := .agg (awC L[i].1 L[i].2.1 L[i].2.2).toArray) (getV_all (by exact length_awC hk)) st.im)) rfl ?_
        refine wl_call rfl (c_light st.im ⟨_, _, rfl, hk⟩) rfl ?_
        rintro v37 w ⟨t37, b', rfl, hb'⟩
        have st := st.pure t37
        refine wl_val (v_not rfl) rfl ?_
        refine wl_nil ?_
        refine then_go ?_
        refine wc_cond rfl (fun h38 => ?_) (fun h38 => ?_)
        · refine wc_seq ?_
          refine wc_region ?_
          refine wl_call rfl (c_works st.im) rfl ?_
          rintro v39 w ⟨t39, rfl⟩
          have st := st.pure t39
          refine wl_val (v_assign' (by conv => (lhs; whnf))) rfl ?_
          refine wl_nil ?_
          refine then_go ?_
          refine wc_ret (block_ret (then_ret (then_ret (block_ret (then_ret ?_)))))
          exact ret1 rfl ⟨(st.keepOnly (l := []) (List.nil_sublist _)).touch, rfl⟩
        · refine wc_skip ?_
          refine block_go (then_go ?_)
          refine wc_region ?_
          refine wl_val (v_move' (by conv => (lhs; whnf))) rfl ?_
          refine wl_val (v_add' rfl rfl rfl (by first | omega | (dsimp only at *; omega)) (by first | omega | (dsimp only at *; omega))) rfl ?_
          refine wl_val (v_assign' (by conv => (lhs; whnf))) rfl ?_
          refine wl_nil ?_
          refine then_go ?_
          have hkb := hb' (by simpa using h38)
          refine ⟨q - 1, by simp; omega, i + 1, by omega, rfl, rfl, rfl, rfl, rfl, rfl, rfl, fun p hp => ?_, st⟩
          rw [List.take_succ_eq_append_getElem hi] at hp
          rcases List.mem_append.1 hp with h | h
          · exact hks p h
          · rw [List.mem_singleton.1 h]; omega
      · refine wc_exit (then_exit (then_exit (block_hit ?_)))
        refine then_go ?_
        refine wc_seq ?_
        have hiL : i = L.length := by omega
        rw [hiL, List.take_length] at hks
        obtain ⟨R, hR⟩ : ∃ R, R = histGo x name e (idx0 (L.map (·.1))) 0 [] (L.map (·.1)) := ⟨_, rfl⟩
        have hRl : R.1.length ≤ L.length := by
          have := histGo_len (x := x) (name := name) (e := e) (i0 := idx0 (L.map (·.1))) (i := 0) (acc := []) (L := L.map (·.1))
          rw [← hR] at this
          simpa using this
        refine wc_region ?_
        refine wl_val (v_load rfl (st.reads (v := .agg (vwC x.pin x.head rv).toArray) 2 rfl TF.t29 (getV_all (by exact length_vwC hp hh)))) rfl ?_
        refine wl_val (v_move' (by conv => (lhs; whnf))) rfl ?_
        refine wl_val (v_move' (by conv => (lhs; whnf))) rfl ?_
        refine wl_val (v_move' (by conv => (lhs; whnf))) rfl ?_
        refine wl_call rfl (c_hist st.im hv0 hn hl (by omega) (by omega) hks) rfl ?_
        rintro v45 w ⟨t45, m1, hg1, hi1, z1, A, rfl, hz1, hA⟩
        have st := st.grown hg1 t45 hi1
        have hv0 := hv0.mono hg1.le
        have hl := hl.mono hg1.le
        rw [← hR] at hA ⊢
        refine wl_val (v_move' (by conv => (lhs; whnf))) rfl ?_
        refine wl_val (v_extract rfl rfl) rfl ?_
        refine wl_val (v_extract rfl rfl) rfl ?_
        refine wl_val (v_assign' (by conv => (lhs; whnf))) rfl ?_
        refine wl_val (v_assign' (by conv => (lhs; whnf))) rfl ?_
        refine wl_nil ?_
        refine then_go ?_
        refine wc_seq ?_
        refine wc_region ?_
        refine wl_val (v_load rfl (st.reads (v := .agg (vwC x.pin x.head rv).toArray) 2 rfl TF.t29 (getV_all (by exact length_vwC hp hh)))) rfl ?_
        refine wl_val (v_move' (by conv => (lhs; whnf))) rfl ?_
        refine wl_val (v_move' (by conv => (lhs; whnf))) rfl ?_
        refine wl_val (v_move' (by conv => (lhs; whnf))) rfl ?_
        refine wl_call rfl (c_rhist st.im hv0 hn hl (by omega) (by omega)) rfl ?_
        rintro v53 w ⟨t53, m2, hg2, hi2, z2, B, rfl, hz2, hB⟩
        have st := st.grown hg2 t53 hi2
        have hz1 := hz1.mono hg2.le
        have h10 := h10.mono (fun k o h => hg2.le _ _ (hg1.le k o h))
        have h20 := h20.mono (fun k o h => hg2.le _ _ (hg1.le k o h))
        rw [← hR] at hB ⊢
        refine wl_val (v_move' (by conv => (lhs; whnf))) rfl ?_
        refine wl_val (v_extract rfl rfl) rfl ?_
        refine wl_val (v_extract rfl rfl) rfl ?_
        refine wl_val (v_assign' (by conv => (lhs; whnf))) rfl ?_
        refine wl_val (v_assign' (by conv => (lhs; whnf))) rfl ?_
        refine wl_nil ?_
        refine then_go ?_
        refine wc_seq ?_
        refine wc_draw TF.mixed ?_
        have st := st.pure (touch_drew _)
        refine fl_val 0 rfl (fun _ => (v_move' (by conv => (lhs; whnf)))) rfl (by kernel_rfl) ?_
        refine fl_val 1 rfl (fun _ => (v_move' (by conv => (lhs; whnf)))) rfl (by kernel_rfl) ?_
        refine fl_val 2 rfl (fun _ => (v_eqlT (show R.2 = R.2 from rfl) rfl rfl)) rfl (by kernel_rfl) ?_
        refine fl_val 3 rfl (fun _ => (v_move' (by conv => (lhs; whnf)))) rfl (by kernel_rfl) ?_
        refine fl_on 4 rfl rfl rfl rfl (fun _ => (v_move' (by conv => (lhs; whnf)))) rfl (by kernel_rfl) ?_
        refine fl_on 5 rfl rfl rfl rfl (fun _ => (v_move' (by conv => (lhs; whnf)))) rfl (by kernel_rfl) ?_
        refine fl_eff1 6 [2, 1, 0] [] (by kernel_rfl) trivial rfl ?_
        refine wl_on rfl rfl ?_
        refine wl_call rfl (c_sameall st.im hz1 hz2 (by rw [hA, hB]) (by have := congrArg List.length hA; rw [List.length_map] at this; omega)) rfl ?_
        rintro v62 w ⟨t62, rfl⟩
        have st := st.pure t62
        refine wl_nil ⟨rfl, ?_⟩
        refine fl_val 7 rfl (fun _ => (v_pick rfl)) rfl (by kernel_rfl) ?_
        refine fl_val 8 rfl (fun _ => (v_move' (by conv => (lhs; whnf)))) rfl (by kernel_rfl) ?_
        refine fl_ond 9 rfl rfl rfl rfl (v_load rfl (st.reads (v := .agg (fdC f1 k1).toArray) 1 rfl TF.t48 (getV_all rfl))) rfl (by kernel_rfl) ?_
        refine fl_ond 10 rfl rfl rfl rfl (v_load rfl (st.reads (v := .agg (fdC f2 k2).toArray) 0 rfl TF.t48 (getV_all rfl))) rfl (by kernel_rfl) ?_
        refine fl_ond 12 rfl rfl rfl rfl (v_load rfl (st.reads (v := .agg (fdC f1 k1).toArray) 1 rfl TF.t48 (getV_all rfl))) rfl (by kernel_rfl) ?_
        refine fl_ond 13 rfl rfl rfl rfl (v_load rfl (st.reads (v := .agg (fdC f2 k2).toArray) 0 rfl TF.t48 (getV_all rfl))) rfl (by kernel_rfl) ?_
        refine fl_eff1 11 [7, 2, 1, 0] [13, 12] (by kernel_rfl) ⟨obl_on rfl rfl rfl rfl rfl (v_load rfl (st.reads (v := .agg (fdC f2 k2).toArray) 0 rfl TF.t48 (getV_all rfl))), obl_on rfl rfl rfl rfl rfl (v_load rfl (st.reads (v := .agg (fdC f1 k1).toArray) 1 rfl TF.t48 (getV_all rfl))), obl_on rfl rfl rfl rfl rfl (v_load rfl (st.reads (v := .agg (fdC f2 k2).toArray) 0 rfl TF.t48 (getV_all rfl))), obl_on rfl rfl rfl rfl rfl (v_load rfl (st.reads (v := .agg (fdC f1 k1).toArray) 1 rfl TF.t48 (getV_all rfl))), trivial⟩ rfl ?_
        refine wl_on rfl rfl ?_
        refine wl_call rfl (c_next st.im h10 h20) rfl ?_
        rintro v67 w ⟨t67, rfl⟩
        have st := st.pure t67
        refine wl_nil ⟨rfl, ?_⟩
        refine fl_eff1 14 [7, 2, 1, 0] [] (by kernel_rfl) ⟨obl_on rfl rfl rfl rfl rfl (v_load rfl (st.reads (v := .agg (fdC f2 k2).toArray) 0 rfl TF.t48 (getV_all rfl))), obl_on rfl rfl rfl rfl rfl (v_load rfl (st.reads (v := .agg (fdC f1 k1).toArray) 1 rfl TF.t48 (getV_all rfl))), trivial⟩ rfl ?_
        refine wl_on rfl rfl ?_
        refine wl_call rfl (c_rnext st.im h10 h20) rfl ?_
        rintro v70 w ⟨t70, rfl⟩
        have st := st.pure t70
        refine wl_nil ⟨rfl, ?_⟩
        refine fl_on 15 rfl rfl rfl rfl (fun _ => (v_eqlT (show nextE f1 f2 = nextE f1 f2 from rfl) rfl rfl)) rfl (by kernel_rfl) ?_
        refine fl_val 16 rfl (fun _ => (v_pick rfl)) rfl (by kernel_rfl) ?_
        refine fl_val 17 rfl (fun _ => (v_move' (by conv => (lhs; whnf)))) rfl (by kernel_rfl) ?_
        refine fl_eff1 18 [16, 15, 7, 2, 1, 0] [] (by kernel_rfl) trivial rfl ?_
        refine wl_on rfl rfl ?_
        refine wl_call rfl (c_works st.im) rfl ?_
        rintro v74 w ⟨t74, rfl⟩
        have st := st.pure t74
        refine wl_nil ⟨rfl, ?_⟩
        refine fl_val 19 rfl (fun _ => (v_pick rfl)) rfl (by kernel_rfl) ?_
        refine fl_eff1 20 [] [] (by kernel_rfl) trivial rfl ?_
        refine wl_val (v_assign' (by conv => (lhs; whnf))) rfl ?_
        refine wl_nil ⟨rfl, ?_⟩
        refine fl_nil (by kernel_rfl) trivial ?_
        refine then_go ?_
        refine wc_ret ?_
        exact ret1 rfl ⟨(st.keepOnly (l := []) (List.nil_sublist _)).touch, rfl⟩
end
end Go.Proofs.Ytjjpakjgppmmdaa

/-
  Lists of answers, opened.
-/
namespace Go.Proofs.Ytjjpakjgppmmdaa
open Go Go.RowKit Go.ChangeShapes Go.WideShapes K SH PT

theorem open_answers {H : Type} {enc : TypeId × Value → H} {w : World} {sp : Nat → Bool} {held : Bool} {fuel : Nat} {x : DataW H × List MemPlace} {v : Value} (h : DataW.trod enc Try.prog w 0 sp held fuel 61 [v] = some x) : ∃ L : List AwT, AwsM (heapM w) v L ∧ L.length ≤ 9223372036854775807 := by
  obtain ⟨L, h1, h2, h3⟩ := trod_list (c := awP) (Q := fun p => AwOk (heapM w) p.1 p.2.1 p.2.2) Try.underlying61 TF.t45 (by decide) (fun h => by obtain ⟨a, sv, kv, h1, h2⟩ := trod_answer h; exact ⟨(a, sv, kv), h1, h2⟩) h
  exact ⟨L, ⟨h1, h2⟩, h3⟩
end Go.Proofs.Ytjjpakjgppmmdaa

/-
  Proved here: for every input the law ClientHistories returns true, and what it was handed reads behind the call as before. No condition.
-/
namespace Go.Proofs.Ytjjpakjgppmmdaa
open Go Go.ChangeShapes Go.WideShapes Go.ChangeAt Go.RowKit K SH PT

theorem Try.owne : ownKnob Try.prog.godebug = none := by kernel_rfl
theorem Try.laidOute : laidOutB Try.prog = true := by kernel_rfl

set_option maxRecDepth 100000 in
theorem clientHistories_lifted (os : Os) (started : os.Started) (H : Type) (enc : TypeId × Value → H) :
    ReturnsInHanded {} Try.checked os 7 .any (Rows.clientHistoriesSpec.pre6 enc Try.prog Try.f7 Rows.clientHistoriesRow.domain false) (Rows.clientHistoriesSpec.post enc Try.prog Try.f7 false true false false) := by
  refine returnsInHanded_of_change (C := Try.checked) Try.owne started (by kernel_rfl) Try.func7
    (ChangeSpec.witness6 (enc := enc) (C := Try.checked) false ⟨#[], #[.agg (vwC z32 hd0 (.slice none 0 0)).toArray, .string ⟨#[]⟩, u64 0, .slice none 0 0, .agg (fdC fd0 (.slice none 0 0)).toArray, .agg (fdC fd0 (.slice none 0 0)).toArray], []⟩ 12 (by kernel_rfl) (by kernel_rfl) (by kernel_rfl) (by kernel_rfl)) ?_
  intro W base args ds gs before hval0 hW hcnd _
  have hval : ∀ (j : Nat) t v, Try.f7.params[j]? = some t → args[j]? = some v → Value.okWide Try.prog W .any base t v := hval0
  have hW' := hW
  obtain ⟨p, q, hA0, hV, rfl, hfz, hnd⟩ := hW
  have hA : DataW.TrodAll enc Try.prog W 0 (fun _ => true) true Try.f7.params.toList args.toList ds p := hA0
  rw [Try.params7] at hA hval
  obtain ⟨v0, v1, v2, v3, v4, v5, d0, d1, d2, d3, d4, d5, p0, p1, p2, p3, p4, p5, rfl, rfl, rfl, h0, h1, h2, h3, h4, h5⟩ := trodAll_six hA
  obtain ⟨l0, hl0⟩ := open_view (hval 0 29 v0 rfl rfl) h0
  obtain ⟨l1, rfl, hl1⟩ := open_str (hval 1 9 v1 rfl rfl) h1
  obtain ⟨a2, rfl⟩ := open_u64 (hval 2 24 v2 rfl rfl) h2
  obtain ⟨fu3, hf3⟩ := h3
  obtain ⟨sa3, sl3, sc3, rfl⟩ := okWide_slice Try.underlying61 (hval 3 61 v3 rfl rfl)
  obtain ⟨l3, hl3, hn3⟩ := open_answers hf3
  obtain ⟨l4, hl4⟩ := open_found (hval 4 48 v4 rfl rfl) h4
  obtain ⟨l5, hl5⟩ := open_found (hval 5 48 v5 rfl rfl) h5
  refine Calls.mono (P := Try.prog) (c_fhists (im_heapM W) hl0 hl1 hl3 hl4 hl5).2 fun e W1 ⟨v, he, t, hv⟩ => ?_
  subst hv
  subst he
  exact ⟨_, rfl, post_true Try.laidOute (by kernel_rfl) rfl hW' t rfl rfl Try.underlying4⟩

theorem clientHistories_holds : Rows.ClientHistoriesSaid :=
  OpenClaim.holds_of_wide 7 Try.f7 rfl rfl rfl rfl rfl rfl rfl ⟨rfl, rfl, rfl, rfl, rfl⟩ rfl rfl rfl rfl rfl (by kernel_rfl) Try.func7 (by kernel_rfl)
    (of_decide_eq_true (by kernel_rfl)) (by unfold Func.isWrapper; first | (rw [if_pos (by decide +kernel)]; kernel_rfl) | (rw [if_neg (by decide +kernel)]; exact ⟨rfl, rfl⟩))
    (fun os started H enc _ => clientHistories_lifted os started H enc)

end Go.Proofs.Ytjjpakjgppmmdaa
