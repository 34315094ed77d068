/-
  Proved here: for every input the law MonitorRuns returns true, and what it was handed reads behind the call as before. No condition.
-/
import Derived.Test.YtjjpakjgppmmdaaRows
import Derived.Test.YtjjpakjgppmmdaaMNrc5

namespace Go.Proofs.Ytjjpakjgppmmdaa
open Go Go.RowKit K SH PT
section
variable {m : Mem} {wI : World}
theorem runGo_len : ∀ {L : List Sg} {A : List Aw} {x : Wt} {n : Nat}, (∀ s ∈ L, s.root.ok) → (runGo x n L A).1.view.roots.length ≤ x.view.roots.length + L.length
 | [], A, x, n, _ => by cases A <;> simp [runGo]
 | s :: L, [], x, n, _ => by simp [runGo]
 | s :: L, a :: A, x, n, h => by
  rw [runGo]
  split
  ·have h1 := runGo_len (L := L) (A := A) (x := stepW x s a) (n := n + 1) (fun y hy => h y (by simp [hy]))
   have h2 := stepW_len (w := x) (a := a) (h s (by simp))
   rw [List.length_cons]; omega
  ·exact Nat.le_trans (Nat.le_of_eq (show Wt.zero.view.roots.length = 0 from rfl)) (Nat.zero_le _)
theorem c_fruns {wv lv av kv : Value} {x : Wt} {L : List (Sg × Value)} {A : List AwT} {key : By} (him : Im m wI) (hw : WtM m wv x) (hl : SgsM m lv L) (ha : AwsM m av A) (hk : SlM m kv 1 key.length (bs key)) :
  Ret Try.prog 10 #[wv, lv, av, kv] wI fun v' w' => Tch wI w' [] [] ∧ v' = .bool true := by
 have st := St.start him
 obtain ⟨rv, kw, rfl, hw⟩ := hw
 obtain ⟨R, hR⟩ : ∃ R, R = runGo x 0 (L.map (·.1)) (A.map (·.1)) := ⟨_, rfl⟩
 have hRl : R.1.view.roots.length ≤ x.view.roots.length + L.length := by
  have := runGo_len (L := L.map (·.1)) (A := A.map (·.1)) (x := x) (n := 0) (fun s hs => by obtain ⟨p, hp, rfl⟩ := List.mem_map.1 hs; exact (hl.2 p hp).1)
  rw [← hR] at this
  simpa using this
 refine ret_of Try.call10 Try.func10 rfl Try.ntmps10 Try.results10 rfl ?_
 refine wc_seq ?_
 refine wc_region ?_
 refine wl_box (v := .agg (wtC x rv kw).toArray) rfl st rfl ?_
 intro b4 w st
 refine wl_val (v_assign' (by conv => (lhs; whnf))) rfl ?_
 refine wl_nil ?_
 refine then_go ?_
 refine wc_seq ?_
 refine wc_seq ?_
 refine wc_region ?_
 refine wl_val (v_fa TF.f69_0 rfl) rfl ?_
 refine wl_val (v_load rfl (by first | exact st.rdp 0 rfl (by exact rfl) TF.t29 (by exact (Wt.g0_98 (by assumption))))) rfl ?_
 refine wl_val (v_move' (by conv => (lhs; whnf))) rfl ?_
 refine wl_val (v_move' (by conv => (lhs; whnf))) rfl ?_
 refine wl_call rfl (c_mfew st.im ⟨_, rfl, hw.view⟩ hl ha) rfl ?_
 rintro v19 w ⟨t19, bf, rfl, hbf⟩
 have st := st.pure t19
 refine wl_val (v_not rfl) rfl ?_
 refine wl_val (v_move' (by conv => (lhs; whnf))) rfl ?_
 refine wl_valg rfl rfl (fun e => (v_fa TF.f69_1 (by first | rfl | exact gx e rfl))) rfl ?_
 refine wl_valg rfl rfl (fun e => (v_load (by first | rfl | exact gx e rfl) (by first | exact st.rdp 0 rfl (by exact rfl) TF.t9 (by exact (Wt.g98_1 (by assumption)))))) rfl ?_
 refine wl_valg rfl rfl (fun e => (v_len_str Try.underlying9 (by first | rfl | exact gx e rfl))) rfl ?_
 refine wl_valg rfl rfl (fun e => (v_gtr (by first | rfl | exact gx e rfl) (by first | rfl | exact gx e rfl))) rfl ?_
 refine wl_val (v_pickO rfl rfl rfl) rfl ?_
 refine wl_nil ?_
 refine then_go ?_
 refine wc_cond rfl (fun h26 => ?_) (fun h26 => ?_)
 ·refine wc_seq ?_
  refine wc_region ?_
  refine wl_call rfl (c_mworks st.im) rfl ?_
  rintro v27 w ⟨t27, rfl⟩
  have st := st.pure t27
  refine wl_val (v_assign' (by conv => (lhs; whnf))) rfl ?_
  refine wl_nil ?_
  refine then_go ?_
  refine wc_ret (then_ret ?_)
  exact ret1 rfl ⟨(st.keepOnly (l := []) (List.nil_sublist _)).touch, rfl⟩
 ·refine wc_skip ?_
  refine then_go ?_
  refine wc_seq ?_
  simp only [Bool.or_eq_false_iff, Bool.not_eq_false'] at h26
  obtain ⟨hll, _, hL, hlt⟩ := hbf h26.1
  refine wc_region ?_
  refine wl_val (v_load rfl (by first | exact st.rdp 0 rfl (by exact rfl) TF.t69 (by exact (getV_all (by exact Wt.len (by assumption)))))) rfl ?_
  refine wl_val (v_move' (by conv => (lhs; whnf))) rfl ?_
  refine wl_val (v_move' (by conv => (lhs; whnf))) rfl ?_
  refine wl_call rfl (c_run st.im ⟨_, _, rfl, hw⟩ hl ha (by omega) (fun p hp => Nat.le_trans (hlt p hp).2.1 (by decide))) rfl ?_
  rintro v32 w ⟨t32, mm32, gr32, im32, v1, rfl, hz1⟩
  have st := st.grown gr32 t32 im32
  have hw := hw.mono gr32.le
  have hl := hl.mono gr32.le
  have ha := ha.mono gr32.le
  have hk := hk.mono gr32.le
  rw [← hR] at hz1 ⊢
  obtain ⟨rv1, kw1, rfl, hz1⟩ := hz1
  refine wl_val (v_move' (by conv => (lhs; whnf))) rfl ?_
  refine wl_val (v_extract rfl rfl) rfl ?_
  refine wl_val (v_extract rfl rfl) rfl ?_
  refine wl_val (v_extract rfl rfl) rfl ?_
  refine wl_alloc TF.z69 st rfl ?_
  intro b9 w st
  refine wl_storeW 0 st rfl TF.t69 rfl rfl (by first | (rw [List.size_toArray]; exact Wt.len (by assumption)) | rfl) (by first | rfl | exact Wt.len (by assumption)) (by first | exact (Wt.one (by assumption)) | exact (Wt.one (Wt.zok (m := fun _ => none)))) ?_
  intro w st
  refine wl_val (v_assign' (by conv => (lhs; whnf))) rfl ?_
  refine wl_val (v_assign' (by conv => (lhs; whnf))) rfl ?_
  refine wl_nil ?_
  refine then_go ?_
  refine wc_seq ?_
  refine wc_region ?_
  refine wl_val (v_load rfl (by first | exact st.rdp 1 rfl (by exact rfl) TF.t69 (by exact (getV_all (by exact Wt.len (by assumption)))))) rfl ?_
  refine wl_val (v_move' (by conv => (lhs; whnf))) rfl ?_
  refine wl_val (v_move' (by conv => (lhs; whnf))) rfl ?_
  refine wl_call rfl (c_rrun st.im ⟨_, _, rfl, hw⟩ hl ha (by omega)) rfl ?_
  rintro v40 w ⟨t40, mm40, gr40, im40, v2, rfl, hz2⟩
  have st := st.grown gr40 t40 im40
  have hw := hw.mono gr40.le
  have hl := hl.mono gr40.le
  have ha := ha.mono gr40.le
  have hk := hk.mono gr40.le
  have hz1 := hz1.mono gr40.le
  rw [← hR] at hz2 ⊢
  obtain ⟨rv2, kw2, rfl, hz2⟩ := hz2
  refine wl_val (v_move' (by conv => (lhs; whnf))) rfl ?_
  refine wl_val (v_extract rfl rfl) rfl ?_
  refine wl_val (v_extract rfl rfl) rfl ?_
  refine wl_val (v_extract rfl rfl) rfl ?_
  refine wl_alloc TF.z69 st rfl ?_
  intro b12 w st
  refine wl_storeW 0 st rfl TF.t69 rfl rfl (by first | (rw [List.size_toArray]; exact Wt.len (by assumption)) | rfl) (by first | rfl | exact Wt.len (by assumption)) (by first | exact (Wt.one (by assumption)) | exact (Wt.one (Wt.zok (m := fun _ => none)))) ?_
  intro w st
  refine wl_val (v_assign' (by conv => (lhs; whnf))) rfl ?_
  refine wl_val (v_assign' (by conv => (lhs; whnf))) rfl ?_
  refine wl_nil ?_
  refine then_go ?_
  refine wc_seq ?_
  refine wc_draw TF.mixed ?_
  have st := st.pure (touch_drew _)
  refine fl_val 0 rfl (fun _ => (v_move' (by conv => (lhs; whnf)))) rfl (by kernel_rfl) ?_
  refine fl_val 1 rfl (fun _ => (v_move' (by conv => (lhs; whnf)))) rfl (by kernel_rfl) ?_
  refine fl_val 2 rfl (fun _ => (v_eqlT (show R.2.2 = R.2.2 from rfl) rfl rfl)) rfl (by kernel_rfl) ?_
  refine fl_val 3 rfl (fun _ => (v_move' (by conv => (lhs; whnf)))) rfl (by kernel_rfl) ?_
  refine fl_on 4 rfl rfl rfl rfl (fun _ => (v_move' (by conv => (lhs; whnf)))) rfl (by kernel_rfl) ?_
  refine fl_on 5 rfl rfl rfl rfl (fun _ => (v_move' (by conv => (lhs; whnf)))) rfl (by kernel_rfl) ?_
  refine fl_on 6 rfl rfl rfl rfl (fun _ => (v_eqlT (show (R.2.1 : Int) = R.2.1 from rfl) rfl rfl)) rfl (by kernel_rfl) ?_
  refine fl_val 7 rfl (fun _ => (v_pick rfl)) rfl (by kernel_rfl) ?_
  refine fl_val 8 rfl (fun _ => (v_move' (by conv => (lhs; whnf)))) rfl (by kernel_rfl) ?_
  refine fl_ond 9 rfl rfl rfl rfl (v_load rfl (st.rdp 1 rfl (by exact rfl) TF.t69 (by exact getV_all (by exact Wt.len hz1)))) rfl (by kernel_rfl) ?_
  refine fl_ond 10 rfl rfl rfl rfl (v_load rfl (st.rdp 0 rfl (by exact rfl) TF.t69 (by exact getV_all (by exact Wt.len hz2)))) rfl (by kernel_rfl) ?_
  refine fl_eff1 11 [7, 6, 5, 4, 3, 2, 1, 0] [] (by kernel_rfl) ⟨obl_on rfl rfl rfl rfl rfl (v_load rfl (st.rdp 0 rfl (by exact rfl) TF.t69 (by exact getV_all (by exact Wt.len hz2)))), obl_on rfl rfl rfl rfl rfl (v_load rfl (st.rdp 1 rfl (by exact rfl) TF.t69 (by exact getV_all (by exact Wt.len hz1)))), trivial⟩ rfl ?_
  refine wl_on rfl rfl ?_
  refine wl_call rfl (c_wsame st.im ⟨_, _, rfl, hz1⟩ ⟨_, _, rfl, hz2⟩ (by omega)) rfl ?_
  rintro v55 w ⟨t55, rfl⟩
  have st := st.pure t55
  refine wl_nil ⟨rfl, ?_⟩
  refine fl_val 12 rfl (fun _ => (v_pick rfl)) rfl (by kernel_rfl) ?_
  refine fl_val 13 rfl (fun _ => (v_move' (by conv => (lhs; whnf)))) rfl (by kernel_rfl) ?_
  refine fl_ond 14 rfl rfl rfl rfl (v_load rfl (st.rdp 2 rfl (by exact rfl) TF.t69 (by exact getV_all (by exact Wt.len hw)))) rfl (by kernel_rfl) ?_
  refine fl_on 15 rfl rfl rfl rfl (fun _ => (v_move' (by conv => (lhs; whnf)))) rfl (by kernel_rfl) ?_
  refine fl_ond 17 rfl rfl rfl rfl (v_load rfl (st.rdp 2 rfl (by exact rfl) TF.t69 (by exact getV_all (by exact Wt.len hw)))) rfl (by kernel_rfl) ?_
  refine fl_on 18 rfl rfl rfl rfl (fun _ => (v_move' (by conv => (lhs; whnf)))) rfl (by kernel_rfl) ?_
  refine fl_eff1 16 [18, 12, 7, 6, 5, 4, 3, 2, 1, 0] [17] (by kernel_rfl) ⟨obl_on rfl rfl rfl rfl rfl (v_load rfl (st.rdp 2 rfl (by exact rfl) TF.t69 (by exact getV_all (by exact Wt.len hw)))), obl_on rfl rfl rfl rfl rfl (v_load rfl (st.rdp 2 rfl (by exact rfl) TF.t69 (by exact getV_all (by exact Wt.len hw)))), trivial⟩ rfl ?_
  refine wl_on rfl rfl ?_
  refine wl_call rfl (c_expect st.im ⟨_, _, rfl, hw⟩ hk) rfl ?_
  rintro v60 w ⟨t60, rfl⟩
  have st := st.pure t60
  refine wl_nil ⟨rfl, ?_⟩
  refine fl_eff1 19 [12, 7, 6, 5, 4, 3, 2, 1, 0] [] (by kernel_rfl) ⟨obl_on rfl rfl rfl rfl rfl (v_load rfl (st.rdp 2 rfl (by exact rfl) TF.t69 (by exact getV_all (by exact Wt.len hw)))), trivial⟩ rfl ?_
  refine wl_on rfl rfl ?_
  refine wl_call rfl (c_rexpect st.im ⟨_, _, rfl, hw⟩ hk) rfl ?_
  rintro v63 w ⟨t63, rfl⟩
  have st := st.pure t63
  refine wl_nil ⟨rfl, ?_⟩
  refine fl_on 20 rfl rfl rfl rfl (fun _ => (v_eqlT (show expE x key = expE x key from rfl) rfl rfl)) rfl (by kernel_rfl) ?_
  refine fl_val 21 rfl (fun _ => (v_pick rfl)) rfl (by kernel_rfl) ?_
  refine fl_val 22 rfl (fun _ => (v_move' (by conv => (lhs; whnf)))) rfl (by kernel_rfl) ?_
  refine fl_ond 23 rfl rfl rfl rfl (v_load rfl (st.rdp 1 rfl (by exact rfl) TF.t69 (by exact getV_all (by exact Wt.len hz1)))) rfl (by kernel_rfl) ?_
  refine fl_on 24 rfl rfl rfl rfl (fun _ => (v_move' (by conv => (lhs; whnf)))) rfl (by kernel_rfl) ?_
  refine fl_ond 26 rfl rfl rfl rfl (v_load rfl (st.rdp 0 rfl (by exact rfl) TF.t69 (by exact getV_all (by exact Wt.len hz2)))) rfl (by kernel_rfl) ?_
  refine fl_on 27 rfl rfl rfl rfl (fun _ => (v_move' (by conv => (lhs; whnf)))) rfl (by kernel_rfl) ?_
  refine fl_eff1 25 [27, 21, 20, 12, 7, 6, 5, 4, 3, 2, 1, 0] [26] (by kernel_rfl) ⟨obl_on rfl rfl rfl rfl rfl (v_load rfl (st.rdp 0 rfl (by exact rfl) TF.t69 (by exact getV_all (by exact Wt.len hz2)))), obl_on rfl rfl rfl rfl rfl (v_load rfl (st.rdp 1 rfl (by exact rfl) TF.t69 (by exact getV_all (by exact Wt.len hz1)))), trivial⟩ rfl ?_
  refine wl_on rfl rfl ?_
  refine wl_call rfl (c_expect st.im ⟨_, _, rfl, hz1⟩ hk) rfl ?_
  rintro v69 w ⟨t69, rfl⟩
  have st := st.pure t69
  refine wl_nil ⟨rfl, ?_⟩
  refine fl_eff1 28 [21, 20, 12, 7, 6, 5, 4, 3, 2, 1, 0] [] (by kernel_rfl) ⟨obl_on rfl rfl rfl rfl rfl (v_load rfl (st.rdp 0 rfl (by exact rfl) TF.t69 (by exact getV_all (by exact Wt.len hz2)))), trivial⟩ rfl ?_
  refine wl_on rfl rfl ?_
  refine wl_call rfl (c_rexpect st.im ⟨_, _, rfl, hz2⟩ hk) rfl ?_
  rintro v72 w ⟨t72, rfl⟩
  have st := st.pure t72
  refine wl_nil ⟨rfl, ?_⟩
  refine fl_on 29 rfl rfl rfl rfl (fun _ => (v_eqlT (show expE R.1 key = expE R.1 key from rfl) rfl rfl)) rfl (by kernel_rfl) ?_
  refine fl_val 30 rfl (fun _ => (v_pick rfl)) rfl (by kernel_rfl) ?_
  refine fl_val 31 rfl (fun _ => (v_move' (by conv => (lhs; whnf)))) rfl (by kernel_rfl) ?_
  refine fl_eff1 32 [30, 29, 21, 20, 12, 7, 6, 5, 4, 3, 2, 1, 0] [] (by kernel_rfl) trivial rfl ?_
  refine wl_on rfl rfl ?_
  refine wl_call rfl (c_mworks st.im) rfl ?_
  rintro v76 w ⟨t76, rfl⟩
  have st := st.pure t76
  refine wl_nil ⟨rfl, ?_⟩
  refine fl_val 33 rfl (fun _ => (v_pick rfl)) rfl (by kernel_rfl) ?_
  refine fl_eff1 34 [] [] (by kernel_rfl) trivial rfl ?_
  refine wl_val (v_assign' (by conv => (lhs; whnf))) rfl ?_
  refine wl_nil ⟨rfl, ?_⟩
  refine fl_nil (by kernel_rfl) trivial ?_
  refine then_go ?_
  refine wc_ret ?_
  exact ret1 rfl ⟨(st.keepOnly (l := []) (List.nil_sublist _)).touch, rfl⟩
end
end Go.Proofs.Ytjjpakjgppmmdaa

namespace Go.Proofs.Ytjjpakjgppmmdaa
open Go Go.ChangeShapes Go.WideShapes Go.ChangeAt Go.RowKit K SH PT
theorem Try.ownnc : ownKnob Try.prog.godebug = none := by kernel_rfl
theorem Try.laidOutnc : laidOutB Try.prog = true := by kernel_rfl
theorem Try.trodAllnc {H : Type} {enc : TypeId × Value → H} {w : World} {held : Bool} {P : Program} {base : Nat} {spare : Nat → Bool} {t0 t1 t2 t3 : TypeId} {args : Array Value} {ds : List (DataW H)} {ps : List MemPlace} (h : DataW.TrodAll enc P w base spare held [t0, t1, t2, t3] args.toList ds ps) :
  ∃ v0 v1 v2 v3 d0 d1 d2 d3 p0 p1 p2 p3, args = #[v0, v1, v2, v3] ∧ ds = [d0, d1, d2, d3] ∧ ps = p0 ++ p1 ++ p2 ++ p3 ∧ DataW.Trod enc P w base spare held t0 v0 d0 p0 ∧ DataW.Trod enc P w base spare held t1 v1 d1 p1 ∧ DataW.Trod enc P w base spare held t2 v2 d2 p2 ∧ DataW.Trod enc P w base spare held t3 v3 d3 p3 := by
 obtain ⟨v0, vs0, d0, ds0, p0, q0, hargs, rfl, rfl, hd0, h⟩ := trodAll_cons h
 obtain ⟨v1, vs1, d1, ds1, p1, q1, rfl, rfl, rfl, hd1, h⟩ := trodAll_cons h
 obtain ⟨v2, vs2, d2, ds2, p2, q2, rfl, rfl, rfl, hd2, h⟩ := trodAll_cons h
 obtain ⟨v3, vs3, d3, ds3, p3, q3, rfl, rfl, rfl, hd3, h⟩ := trodAll_cons h
 obtain ⟨rfl, rfl, rfl⟩ := trodAll_nil h
 exact ⟨v0, v1, v2, v3, d0, d1, d2, d3, p0, p1, p2, p3, by cases args; simp_all, rfl, by simp, hd0, hd1, hd2, hd3⟩
set_option maxRecDepth 100000 in
theorem monitorRuns_lifted (os : Os) (started : os.Started) (H : Type) (enc : TypeId × Value → H) :
  ReturnsInHanded {} Try.checked os 10 .any (Rows.monitorRunsSpec.pre6 enc Try.prog Try.f10 Rows.monitorRunsRow.domain false) (Rows.monitorRunsSpec.post enc Try.prog Try.f10 false true false false) := by
 refine returnsInHanded_of_change (C := Try.checked) Try.ownnc started (by kernel_rfl) Try.func10
  (ChangeSpec.witness6 (enc := enc) (C := Try.checked) false ⟨#[], #[.agg (wtC Wt.zero (.slice none 0 0) (.slice none 0 0)).toArray, .slice none 0 0, .slice none 0 0, .slice none 0 0], []⟩ 12 (by kernel_rfl) (by kernel_rfl) (by kernel_rfl) (by kernel_rfl)) ?_
 intro W base args ds gs before hval0 hW hcnd _
 have hval : ∀ (j : Nat) t v, Try.f10.params[j]? = some t → args[j]? = some v → Value.okWide Try.prog W .any base t v := hval0
 have hW' := hW
 obtain ⟨p, q, hA0, hV, rfl, hfz, hnd⟩ := hW
 have hA : DataW.TrodAll enc Try.prog W 0 (fun _ => true) true Try.f10.params.toList args.toList ds p := hA0
 rw [Try.params10] at hA hval
 obtain ⟨v0, v1, v2, v3, d0, d1, d2, d3, p0, p1, p2, p3, rfl, rfl, rfl, h0, h1, h2, h3⟩ := Try.trodAllnc hA
 obtain ⟨l0, hl0⟩ := open_watch (hval 0 69 v0 rfl rfl) h0
 obtain ⟨fu1, hf1⟩ := h1
 obtain ⟨sa1, sl1, sc1, rfl⟩ := okWide_slice Try.underlying30 (hval 1 30 v1 rfl rfl)
 obtain ⟨l1, hl1, hn1⟩ := open_signeds hf1
 obtain ⟨fu2, hf2⟩ := h2
 obtain ⟨sa2, sl2, sc2, rfl⟩ := okWide_slice Try.underlying61 (hval 2 61 v2 rfl rfl)
 obtain ⟨l2, hl2, hn2⟩ := open_answers hf2
 obtain ⟨fu3, hf3⟩ := h3
 obtain ⟨sa3, sl3, sc3, rfl⟩ := okWide_slice Try.underlying41 (hval 3 41 v3 rfl rfl)
 obtain ⟨l3, hl3, hn3⟩ := open_bytes hf3
 refine Calls.mono (P := Try.prog) (c_fruns (im_heapM W) hl0 hl1 hl2 hl3).2 fun e W1 ⟨v, he, t, hv⟩ => ?_
 subst hv
 subst he
 exact ⟨_, rfl, post_true Try.laidOutnc (by kernel_rfl) rfl hW' t rfl rfl Try.underlying4⟩
theorem monitorRuns_holds : Rows.MonitorRunsSaid :=
 OpenClaim.holds_of_wide 10 Try.f10 rfl rfl rfl rfl rfl rfl rfl ⟨rfl, rfl, rfl, rfl, rfl⟩ rfl rfl rfl rfl rfl (by kernel_rfl) Try.func10 (by kernel_rfl)
  (of_decide_eq_true (by kernel_rfl)) (by unfold Func.isWrapper; first | (rw [if_pos (by decide +kernel)]; kernel_rfl) | (rw [if_neg (by decide +kernel)]; exact ⟨rfl, rfl⟩))
  (fun os started H enc _ => monitorRuns_lifted os started H enc)
end Go.Proofs.Ytjjpakjgppmmdaa
