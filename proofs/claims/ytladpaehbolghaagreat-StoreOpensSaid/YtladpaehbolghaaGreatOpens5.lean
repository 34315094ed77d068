/-
  Proved here: for every input the law StoreOpens returns true, and what it was handed reads behind the call as before. No condition.
-/
import Derived.Shelf.SlMaps.Clone
import Derived.Test.YtladpaehbolghaaGreatRows
import Derived.Test.YtladpaehbolghaaGreatOpens4

namespace Go.Proofs.YtladpaehbolghaaGreat
open Go Go.RowKit K SH GC JR OS
open DK hiding By
section
variable {m0 m : Mem} {F : List Nat} {w0 w : World} {Es : List Ent}
abbrev lgE (g b s n : Nat) (sl : LG) (lv wv : Value) (S : By) (N : List (By × Value)) (Es : List Ent) : List Ent := logB g b sl lv :: lrE lv N :: diskO b s n wv (calm S) :: Es
abbrev stE (sb g mb : Nat) (L : List (By × DV)) (Es : List Ent) : List Ent := K.blk sb #[.pointer (some ⟨g, 0, none⟩), .map (some mb)] 95 :: kmE mb L :: Es
def LgOut (m0 m : Mem) (w0 w' : World) (Es : List Ent) (g b s n : Nat) (sl : LG) (N : List (By × Value)) (a : Nat) (X : List By) (v : Value) : Prop :=
 ∃ m' wv' lv' N' S' sl', (∀ k o, m k = some o → m' k = some o) ∧ v = .int .i64 (a : Nat) ∧ Pcs m' N' ∧ PcsN m m' N N' ∧ N'.map (·.1) = (if a = 0 then X else N.map (·.1)) ∧ LogOk n S' sl' (N'.map (·.1)) ∧ sl'.gen.toNat ≤ sl.gen.toNat + 1 ∧ St m0 m' [] w0 w' (lgE g b s n sl' lv' wv' S' N' Es)
theorem lg_of {g b s n a : Nat} {sl sl' : LG} {N : List (By × Value)} {d : DS} {X : List By} {v : Value} {w' : World} {S' : By} (h : LogOut m0 m w0 w' Es g b s n (d, sl', ((a : Nat) : Int)) N (N.map (·.1)) X v) (hd : d = calm S') (ok : LogOk n S' sl' (if a = 0 then X else N.map (·.1))) (hg : sl'.gen.toNat ≤ sl.gen.toNat + 1) : LgOut m0 m w0 w' Es g b s n sl N a X v := by
 obtain ⟨m', wv', lv', N', hmm, hv, hP, hPn, hN, st⟩ := h
 subst hd
 have e : (if ((a : Nat) : Int) = 0 then X else N.map (·.1)) = (if a = 0 then X else N.map (·.1)) := by
  by_cases h : a = 0
  ·rw [if_pos h, if_pos (by omega)]
  ·rw [if_neg h, if_neg (by omega)]
 have hN : N'.map (·.1) = (if a = 0 then X else N.map (·.1)) := hN.trans e
 exact ⟨m', wv', lv', N', S', sl', hmm, hv, hP, hPn, hN, by rw [hN]; exact ok, hg, st⟩
theorem LgOut.drop {E : Ent} {m' : Mem} {g b s n a : Nat} {sl : LG} {N : List (By × Value)} {X : List By} {v : Value} {w' : World} (h : LgOut m0 m' w0 w' (E :: Es) g b s n sl N a X v) : LgOut m0 m' w0 w' Es g b s n sl N a X v := by
 obtain ⟨m', wv', lv', N', S', sl', hmm, hv, hP, hPn, hN, ok, hg, st⟩ := h
 exact ⟨m', wv', lv', N', S', sl', hmm, hv, hP, hPn, hN, ok, hg, st.drop 3⟩
theorem LgOut.from {m' : Mem} {g b s n a : Nat} {sl : LG} {N : List (By × Value)} {X : List By} {v : Value} {w' : World} (h : LgOut m0 m' w0 w' Es g b s n sl N a X v) (hm : ∀ k o, m k = some o → m' k = some o) : LgOut m0 m w0 w' Es g b s n sl N a X v := by
 obtain ⟨m2, wv', lv', N', S', sl', hmm, hv, hP, hPn, hN, ok, hg, st⟩ := h
 exact ⟨m2, wv', lv', N', S', sl', fun k o h => hmm k o (hm k o h), hv, hP, fun y hy => (hPn y hy).imp id fun h => h.mono hm fun _ _ h => h, hN, ok, hg, st⟩
theorem c_lrestart {g b s n : Nat} {sl : LG} {lv wv nv : Value} {S : By} {N M : List (By × Value)} (st : St m0 m [] w0 w (lgE g b s n sl lv wv S N Es)) (ok : LogOk n S sl (N.map (·.1))) (hg : sl.gen.toNat + 1 < 18446744073709551616) (hP : Pcs m N) (hM : PcsM m nv M) (hMn : M.length ≤ 1048576) :
  Ret Tryz.prog 78 #[.pointer (some ⟨g, 0, none⟩), nv] w fun v w' => LgOut m0 m w0 w' Es g b s n sl N (resR (M.map (·.1)) n) (M.map (·.1)) v := by
 obtain ⟨S', sl', hr, ok', hg'⟩ := ok.res hg (M := M.map (·.1))
 refine (c_restart st (rdy_calm ok.len (by have := ok.n8; omega) ok.nle) hP ok.n8 ok.half hM hMn).mono fun v w' h => ?_
 rw [hr] at h
 refine lg_of h rfl ok' ?_
 rw [hg']
 split
 ·rw [UInt64.toNat_add, show (1 : UInt64).toNat = 1 from rfl]; omega
 ·omega
theorem c_lappend {g b s n : Nat} {sl : LG} {lv wv bv : Value} {S : By} {N : List (By × Value)} {x : By} (st : St m0 m [] w0 w (lgE g b s n sl lv wv S N Es)) (ok : LogOk n S sl (N.map (·.1))) (hP : Pcs m N) (hx : SlM m bv 1 x.length (bs x)) :
  Ret Tryz.prog 51 #[.pointer (some ⟨g, 0, none⟩), bv] w fun v w' => LgOut m0 m w0 w' Es g b s n sl N (appR (N.map (·.1)) x n) (N.map (·.1) ++ [x]) v := by
 obtain ⟨S', sl', hr, ok', hg', hh'⟩ := ok.app (x := x)
 have hl := sizeL_ge (l := N.map (·.1))
 have h1 := ok.fit
 have h2 := ok.nle
 rw [List.length_map] at hl
 refine (c_append st (rdy_calm ok.len (by have := ok.n8; omega) ok.nle) hP hx ok.half (by rw [ok.fin]; exact ok.fit) (by omega)).mono fun v w' h => ?_
 rw [hr] at h
 exact lg_of h rfl ok' (by rw [hg']; omega)
theorem c_kclone {mb : Nat} {L : List (By × DV)} (i : Nat) (st : St m0 m F w0 w Es) (hi : Es[i]? = some (kmE mb L)) :
  Ret Tryz.prog 77 #[.map (some mb)] w fun v w' => ∃ mc, v = .map (some mc) ∧ St m0 m F w0 w' (kmE mc L :: Es) := by
 obtain ⟨es, cl, hb, he⟩ := st.at hi
 exact ⟨Tryz.call77, Calls.mono (AnyW.maps_Clone cloneMap mb es cl w hb) fun e w' ⟨he, hw⟩ => ⟨_, he, _, rfl, hw ▸ mapE_copy (b' := 0) st hi hb⟩⟩
def OS.overN (M : Kys) (n : Nat) : Nat := if chkL (actsOf M) ≠ 0 ∨ resR (anewOf M) n ≠ 0 then 13 else 0
theorem c_sover {sb mb g b s n : Nat} {sl : LG} {lv wv v : Value} {S : By} {N : List (By × Value)} {L : List (By × DV)} {A : List AcT} {M : Kys}
  (st : St m0 m [] w0 w (lgE g b s n sl lv wv S N (stE sb g mb L Es))) (ok : LogOk n S sl (N.map (·.1))) (hg : sl.gen.toNat + 1 < 18446744073709551616) (hP : Pcs m N) (hL : KvOk m L) (hM : Risen M) (hp : M.Perm (kvs L)) (hA : AcsM m v A) (hok : okL (A.map (·.1))) (hn : L.length ≤ 100000) (hb : bulkK M + bulkA (A.map (·.1)) ≤ 1000000000) :
  Ret Tryz.prog 52 #[.pointer (some ⟨sb, 0, none⟩), v] w fun v' w' => LgOut m0 m w0 w' (stE sb g mb L Es) g b s n sl N (overN (doneS M (A.map (·.1))) n) (anewOf (doneS M (A.map (·.1)))) v' := by
 obtain ⟨M1, hM1⟩ : ∃ M1, M1 = doneS M (A.map (·.1)) := ⟨_, rfl⟩
 rw [← hM1]
 have hAl : A.length ≤ 4096 := by have := hok.1; simpa using this
 have hMl : M.length = L.length := by have := hp.length_eq; simpa using this
 have hr1 : Risen M1 := by rw [hM1]; exact doneS_rise hM
 obtain ⟨hb1, hl1⟩ := bulk_done (M := M) (A := A.map (·.1))
 rw [← hM1] at hb1 hl1
 rw [List.length_map] at hl1
 have hnd : ((kvs L).map (·.1)).Nodup := (hp.map (·.1)).nodup hM.nodup
 have h8 := ok.n8
 refine ret_of Tryz.call52 Tryz.func52 rfl Tryz.ntmps52 Tryz.results52 rfl ?_
 refine wc_seq ?_
 refine wc_region ?_
 refine wl_val (v_assign' (by conv => (lhs; whnf))) rfl ?_
 refine wl_nil ?_
 refine then_go ?_
 refine wc_seq ?_
 refine wc_region ?_
 refine wl_val (v_move' (by conv => (lhs; whnf))) rfl ?_
 refine wl_val (v_nil rfl) rfl ?_
 refine wl_val (v_fa TF.f95_1 rfl) rfl ?_
 refine wl_val (v_load rfl (st.reads (v := .map (some mb)) 3 rfl TF.t93 rfl)) rfl ?_
 refine wl_call rfl (c_kclone 4 st rfl) rfl ?_
 rintro v12 w ⟨mc, rfl, st⟩
 refine wl_val (v_assign' (by conv => (lhs; whnf))) rfl ?_
 refine wl_nil ?_
 refine then_go ?_
 refine wc_seq ?_
 refine wc_region ?_
 refine wl_val (v_move' (by conv => (lhs; whnf))) rfl ?_
 refine wl_val (v_move' (by conv => (lhs; whnf))) rfl ?_
 refine wl_call rfl (c_done st hA (fun a ha => hok.2.1 _ (List.mem_map.2 ⟨a, ha, rfl⟩)) hL (by omega)) rfl ?_
 rintro v15 w ⟨m1, L1, hmm1, hL1, _, hK1, st⟩
 have hpm : M1.Perm (kvs L1) := by rw [hM1, hK1]; exact doneS_perm hp hnd
 have hL1l : L1.length = M1.length := by have := hpm.length_eq; simpa using this.symm
 refine wl_nil ?_
 refine then_go ?_
 refine wc_seq ?_
 refine wc_region ?_
 refine wl_val (v_move' (by conv => (lhs; whnf))) rfl ?_
 refine wl_call rfl (c_swhole st hL1 (by omega)) rfl ?_
 rintro v17 w ⟨A1, hp1, hrs, st⟩
 have hAM : A1.map (·.1) = actsOf M1 := whole_one hp1 hrs hr1 hpm
 have hA1l : A1.length = M1.length := by have := congrArg List.length hAM; simpa [actsOf] using this
 have hao : ∀ a ∈ A1, AcOk m1 a.1 a.2 := fun a ha => by
  obtain ⟨z, hz, rfl⟩ := List.mem_map.1 (hp1.mem_iff.1 ha)
  obtain ⟨h1, h2, h3⟩ := hL1 z hz
  exact ⟨by show z.1.length ≤ _; omega, h3⟩
 obtain ⟨la, lc, hv17⟩ := row_sl (st.at (i := 0) rfl)
 subst hv17
 refine wl_val (v_assign' (by conv => (lhs; whnf))) rfl ?_
 refine wl_nil ?_
 refine then_go ?_
 refine wc_seq ?_
 refine wc_seq ?_
 refine wc_region ?_
 refine wl_val (v_move' (by conv => (lhs; whnf))) rfl ?_
 refine wl_val (v_len_s Tryz.underlying22 rfl) rfl ?_
 refine wl_val (v_eql rfl rfl) rfl ?_
 refine wl_nil ?_
 refine then_go ?_
 refine wc_cond rfl (fun h20 => ?_) (fun h20 => ?_)
 ·refine wc_seq ?_
  refine wc_region ?_
  refine wl_val (v_move' (by conv => (lhs; whnf))) rfl ?_
  refine wl_val (v_nil rfl) rfl ?_
  refine wl_val (v_fa TF.f95_0 rfl) rfl ?_
  refine wl_val (v_load rfl (st.reads (v := .pointer (some ⟨g, 0, none⟩)) 5 rfl TF.t92 rfl)) rfl ?_
  have hM0 : M1 = [] := by have := of_decide_eq_true h20; exact List.eq_nil_of_length_eq_zero (by omega)
  have st : St m0 m1 [] w0 w (lgE g b s n sl lv wv S N (stE sb g mb L Es)) := (st.drop 0).drop 0
  refine wl_call rfl (c_lrestart st ok hg (hP.mono hmm1) (M := []) ⟨SlM.nil, by simp⟩ (by simp)) rfl ?_
  intro v25 w ho
  refine wl_val (v_assign' (by conv => (lhs; whnf))) rfl ?_
  refine wl_nil ?_
  refine then_go ?_
  refine wc_ret (then_ret ?_)
  refine ret1 rfl ?_
  have e1 : anewOf M1 = [] := by unfold anewOf; rw [if_pos hM0]
  have e2 : overN M1 n = resR [] n := by
   have h3 : resR [] n = 0 := by unfold resR; rw [if_neg (by simp), if_pos (by simp [sizeL])]
   unfold overN
   rw [e1, h3, hM0, if_neg]
   rintro (h | h)
   ·exact h (by unfold chkL; rw [if_pos ⟨by simp [actsOf], by simp [actsOf], by simp [actsOf]⟩])
   ·exact h rfl
  rw [e1, e2]
  exact ho.from hmm1
 ·refine wc_skip ?_
  refine then_go ?_
  refine wc_seq ?_
  have hM0 : M1 ≠ [] := fun e => by have := of_decide_eq_false h20; rw [e] at hA1l; exact this (by rw [hA1l]; rfl)
  obtain ⟨m2, hg2, hls, st⟩ := st.keepLs (i := 0) rfl (fun _ _ => rfl)
  have hA1 : AcsM m2 (.slice la A1.length lc) A1 := ⟨hls, fun a ha => (hao a ha).mono hg2.le⟩
  refine wc_region ?_
  refine wl_val (v_move' (by conv => (lhs; whnf))) rfl ?_
  refine wl_call rfl (c_batch st hA1 (by omega) (by rw [hAM, bulk_acts]; omega)) rfl ?_
  rintro v27 w ⟨m3, hmm3, st⟩
  rw [hAM] at st
  have hA1 := hA1.mono hmm3
  have hmm13 : ∀ k o, m k = some o → m3 k = some o := fun k o h => hmm3 k o (hg2.le k o (hmm1 k o h))
  have ean : anewOf M1 = [batB (actsOf M1)] := by unfold anewOf; rw [if_neg hM0]
  refine wl_val (v_assign' (by conv => (lhs; whnf))) rfl ?_
  refine wl_nil ?_
  refine then_go ?_
  refine wc_seq ?_
  refine wc_seq ?_
  by_cases hck : checkE (batB (actsOf M1)) ≠ 0
  ·refine wc_region ?_
   refine wl_val (v_move' (by conv => (lhs; whnf))) rfl ?_
   refine wl_call rfl (c_jcheck (im_heapM _) (byE_SlM st 0 rfl)) rfl ?_
   rintro v29 w ⟨t29, rfl⟩
   have st := st.pure t29
   have hcq : (if 1 ≤ (batB (actsOf M1)).length ∧ (batB (actsOf M1)).length ≤ 1048576 then (0 : Int) else 1) = ((checkE (batB (actsOf M1)) : Nat) : Int) := by unfold checkE; split <;> rfl
   rw [hcq]
   refine wl_val (v_neqT (by omega) rfl rfl) rfl ?_
   refine wl_val (v_move' (by conv => (lhs; whnf))) rfl ?_
   refine wl_off rfl rfl rfl rfl ?_
   refine wl_off rfl rfl rfl rfl ?_
   refine wl_off rfl rfl rfl rfl ?_
   refine wl_val (v_pick rfl) rfl ?_
   refine wl_nil ?_
   refine then_go ?_
   refine wc_true rfl ?_
   refine wc_seq ?_
   refine wc_region ?_
   refine wl_val (v_assign' (by conv => (lhs; whnf))) rfl ?_
   refine wl_nil ?_
   refine then_go ?_
   refine wc_ret (then_ret ?_)
   have e2 : overN M1 n = 13 := by
    unfold overN
    have h : resR (anewOf M1) n ≠ 0 := by
     rw [ean]
     unfold resR
     rw [if_pos ⟨_, List.mem_singleton.2 rfl, hck⟩]
     decide
    rw [if_pos (.inr h)]
   refine ret1 (v := .int .i64 13) rfl ?_
   rw [e2]
   exact ⟨m3, wv, lv, N, S, sl, hmm13, rfl, hP.mono hmm13, .refl, by rw [if_neg (by decide)], ok, by omega, (st.drop 0).drop 0⟩
  ·refine wc_region ?_
   refine wl_val (v_move' (by conv => (lhs; whnf))) rfl ?_
   refine wl_call rfl (c_jcheck (im_heapM _) (byE_SlM st 0 rfl)) rfl ?_
   rintro v29 w ⟨t29, rfl⟩
   have st := st.pure t29
   have hcq : (if 1 ≤ (batB (actsOf M1)).length ∧ (batB (actsOf M1)).length ≤ 1048576 then (0 : Int) else 1) = ((checkE (batB (actsOf M1)) : Nat) : Int) := by unfold checkE; split <;> rfl
   rw [hcq]
   refine wl_val (v_neqF (by omega) rfl rfl) rfl ?_
   refine wl_val (v_move' (by conv => (lhs; whnf))) rfl ?_
   refine wl_on rfl rfl ?_
   refine wl_val (v_move' (by conv => (lhs; whnf))) rfl ?_
   have hAk : A1.length ≤ 1099511627776 := by omega
   have hcall := c_chk st.im hA1 hAk
   refine wl_on rfl rfl ?_
   refine wl_call rfl hcall rfl ?_
   rintro v33 w ⟨t33, rfl⟩
   have st := st.pure t33
   rw [hAM]
   refine wl_on rfl rfl ?_
   refine wl_val (v_neq rfl rfl) rfl ?_
   refine wl_val (v_pick rfl) rfl ?_
   refine wl_nil ?_
   refine then_go ?_
   refine wc_cond rfl (fun h35 => ?_) (fun h35 => ?_)
   ·refine wc_seq ?_
    refine wc_region ?_
    refine wl_val (v_assign' (by conv => (lhs; whnf))) rfl ?_
    refine wl_nil ?_
    refine then_go ?_
    refine wc_ret (then_ret ?_)
    have hz := of_decide_eq_true h35
    have e2 : overN M1 n = 13 := by
     unfold overN
     rw [if_pos (.inl (by omega))]
    refine ret1 (v := .int .i64 13) rfl ?_
    rw [e2]
    exact ⟨m3, wv, lv, N, S, sl, hmm13, rfl, hP.mono hmm13, .refl, by rw [if_neg (by decide)], ok, by omega, (st.drop 0).drop 0⟩
   ·refine wc_skip ?_
    refine then_go ?_
    refine wc_seq ?_
    refine wc_region ?_
    refine wl_val (v_move' (by conv => (lhs; whnf))) rfl ?_
    refine wl_val (v_nil rfl) rfl ?_
    refine wl_val (v_fa TF.f95_0 rfl) rfl ?_
    refine wl_val (v_load rfl (st.reads (v := .pointer (some ⟨g, 0, none⟩)) 5 rfl TF.t92 rfl)) rfl ?_
    refine wl_val (v_move' (by conv => (lhs; whnf))) rfl ?_
    have ho := byE_one st 0 rfl
    have st : St m0 m3 [] w0 w (byE v27 (batB (actsOf M1)) :: kmE mc L1 :: lgE g b s n sl lv wv S N (stE sb g mb L Es)) := st
    obtain ⟨m4, hg4, hm4, st2⟩ := st.freezeR (i := 0) rfl (by simp)
    have hx : SlM m4 v27 1 (batB (actsOf M1)).length (bs (batB (actsOf M1))) := row_SlM (m := m4) (st.at (i := 0) rfl) hm4
    have st : St m0 m4 [] w0 w (kmE mc L1 :: lgE g b s n sl lv wv S N (stE sb g mb L Es)) := st2
    refine wl_svOne (v := v27) Tryz.underlying41 TF.t23 TF.z23 ho rfl st rfl ?_
    intro b41 w st
    have st := st.rowShut 0 (b := b41) (k := 1) (cap := 1) (size := 1) (xs := [v27]) rfl (by omega) rfl (by omega) rfl
    have hP1 : Pcs m4 [(batB (actsOf M1), v27)] := fun y hy => by rw [List.mem_singleton.1 hy]; exact hx
    obtain ⟨m5, hg5, hm5, st5⟩ := st.freezeR (i := 0) rfl (by simp)
    have hrow : SlM m5 (.slice (some ⟨b41, 0, none⟩) 1 1) 1 1 [v27] := row_SlM (m := m5) (st.at (i := 0) rfl) hm5
    have st := st5
    have hmm15 : ∀ k o, m k = some o → m5 k = some o := fun k o h => hg5.le k o (hg4.le k o (hmm13 k o h))
    have hPM : PcsM m5 (.slice (some ⟨b41, 0, none⟩) 1 1) [(batB (actsOf M1), v27)] := ⟨hrow, hP1.mono hg5.le⟩
    have st : St m0 m5 [] w0 w (lgE g b s n sl lv wv S N (stE sb g mb L Es)) := st.drop 0
    refine wl_call rfl (c_lrestart st ok hg (hP.mono hmm15) hPM (by simp)) rfl ?_
    intro v42 w ho
    refine wl_val (v_assign' (by conv => (lhs; whnf))) rfl ?_
    refine wl_nil ?_
    refine then_go ?_
    refine wc_ret ?_
    refine ret1 rfl ?_
    have hz := of_decide_eq_false h35
    have e2 : overN M1 n = if resR (anewOf M1) n = 0 then 0 else 13 := by
     unfold overN
     by_cases h : resR (anewOf M1) n = 0
     ·rw [if_pos h, if_neg (by omega)]
     ·rw [if_neg h, if_pos (.inr h)]
    have e3 : resR (anewOf M1) n = 0 ∨ resR (anewOf M1) n = 13 := by
     rw [ean]
     unfold resR
     rw [if_neg (by rintro ⟨y, hy, hc⟩; rw [List.mem_singleton.1 hy] at hc; exact hck hc)]
     split
     ·exact .inl rfl
     ·exact .inr rfl
    have e4 : overN M1 n = resR (anewOf M1) n := by rcases e3 with e | e <;> rw [e2, e] <;> rfl
    rw [e4]
    have ho := ho.from hmm15
    rw [ean]
    exact ho
end
end Go.Proofs.YtladpaehbolghaaGreat

namespace Go.Proofs.YtladpaehbolghaaGreat
open Go Go.RowKit K SH GC JR OS
open DK hiding By
section
variable {m0 m : Mem} {F : List Nat} {w0 w : World} {Es : List Ent}
theorem OS.KvN.trans {m m1 m2 : Mem} {L L1 L2 : List (By × DV)} (h1 : KvN m m1 L L1) (h2 : KvN m1 m2 L1 L2) (hm : ∀ k o, m k = some o → m1 k = some o) (hm2 : ∀ k o, m1 k = some o → m2 k = some o) : KvN m m2 L L2 := fun x hx => (h2 x hx).elim (fun h => (h1 x h).imp id fun h => h.mono (fun _ _ h => h) hm2) fun h => .inr (h.mono hm fun _ _ h => h)
theorem PcsN.trans' {m m1 m2 : Mem} {L L1 L2 : List (By × Value)} (h1 : PcsN m m1 L L1) (h2 : PcsN m1 m2 L1 L2) (hm : ∀ k o, m k = some o → m1 k = some o) (hm2 : ∀ k o, m1 k = some o → m2 k = some o) : PcsN m m2 L L2 := fun x hx => (h2 x hx).elim (fun h => (h1 x h).imp id fun h => h.mono (fun _ _ h => h) hm2) fun h => .inr (h.mono hm fun _ _ h => h)
def StOut (m0 m : Mem) (w0 w' : World) (Es : List Ent) (sb mb g b s n : Nat) (sl : LG) (N : List (By × Value)) (L : List (By × DV)) (o : Kys × List By × Nat) (v : Value) : Prop :=
 ∃ m' wv' lv' N' S' sl' L', (∀ k o, m k = some o → m' k = some o) ∧ v = .int .i64 (o.2.2 : Nat) ∧ Pcs m' N' ∧ PcsN m m' N N' ∧ N'.map (·.1) = o.2.1 ∧ LogOk n S' sl' (N'.map (·.1)) ∧ sl'.gen.toNat ≤ sl.gen.toNat + 2 ∧ KvOk m' L' ∧ KvN m m' L L' ∧ o.1.Perm (kvs L') ∧ St m0 m' [] w0 w' (lgE g b s n sl' lv' wv' S' N' (stE sb g mb L' Es))
theorem appR_or {R : List By} {x : By} {n : Nat} : appR R x n = 0 ∨ appR R x n = 1 ∨ appR R x n = 13 := by
 unfold appR
 split
 ·exact .inr (.inl rfl)
 ·split
  ·exact .inl rfl
  ·exact .inr (.inr rfl)
theorem c_sapply {sb mb g b s n : Nat} {sl : LG} {lv wv v : Value} {S : By} {N : List (By × Value)} {L : List (By × DV)} {A : List AcT} {M : Kys}
  (st : St m0 m [] w0 w (lgE g b s n sl lv wv S N (stE sb g mb L Es))) (ok : LogOk n S sl (N.map (·.1))) (hg : sl.gen.toNat + 2 < 18446744073709551616) (hP : Pcs m N) (hL : KvOk m L) (hM : Risen M) (hp : M.Perm (kvs L)) (hA : AcsM m v A) (hAl : A.length ≤ 1000000) (hn : L.length ≤ 100000) (hb : bulkK M + bulkA (A.map (·.1)) ≤ 1000000000) :
  Ret Tryz.prog 22 #[.pointer (some ⟨sb, 0, none⟩), v] w fun v' w' => StOut m0 m w0 w' Es sb mb g b s n sl N L (applyR M (N.map (·.1)) (A.map (·.1)) n) v' := by
 have hmm0 : ∀ k o, m k = some o → m k = some o := fun _ _ h => h
 obtain ⟨la, lc, rfl⟩ := hA.1.sl
 have hnd : ((kvs L).map (·.1)).Nodup := (hp.map (·.1)).nodup hM.nodup
 refine ret_of Tryz.call22 Tryz.func22 rfl Tryz.ntmps22 Tryz.results22 rfl ?_
 refine wc_seq ?_
 refine wc_region ?_
 refine wl_val (v_assign' (by conv => (lhs; whnf))) rfl ?_
 refine wl_nil ?_
 refine then_go ?_
 refine wc_seq ?_
 refine wc_seq ?_
 refine wc_region ?_
 refine wl_val (v_move' (by conv => (lhs; whnf))) rfl ?_
 refine wl_call rfl (c_chk st.im hA (by omega)) rfl ?_
 rintro v8 w ⟨t8, rfl⟩
 have st := st.pure t8
 refine wl_val (v_assign' (by conv => (lhs; whnf))) rfl ?_
 refine wl_nil ?_
 refine then_go ?_
 refine wc_seq ?_
 refine wc_region ?_
 refine wl_val (v_move' (by conv => (lhs; whnf))) rfl ?_
 refine wl_val (v_neq rfl rfl) rfl ?_
 refine wl_val (v_move' (by conv => (lhs; whnf))) rfl ?_
 refine wl_valg rfl rfl (fun e => (v_move' (by conv => (lhs; whnf)))) rfl ?_
 refine wl_valg rfl rfl (fun e => (v_len_s Tryz.underlying22 (by first | rfl | exact gx e rfl))) rfl ?_
 refine wl_valg rfl rfl (fun e => (v_eql (by first | rfl | exact gx e rfl) (by first | rfl | exact gx e rfl))) rfl ?_
 refine wl_val (v_pickO rfl rfl rfl) rfl ?_
 refine wl_nil ?_
 refine then_go ?_
 refine wc_cond rfl (fun h15 => ?_) (fun h15 => ?_)
 ·refine wc_seq ?_
  refine wc_region ?_
  refine wl_val (v_move' (by conv => (lhs; whnf))) rfl ?_
  refine wl_val (v_assign' (by conv => (lhs; whnf))) rfl ?_
  refine wl_nil ?_
  refine then_go ?_
  refine wc_ret (then_ret ?_)
  have h : chkL (A.map (·.1)) ≠ 0 ∨ A.map (·.1) = [] := by
   rcases (Bool.or_eq_true _ _).mp h15 with h | h
   ·have := of_decide_eq_true h; exact .inl (by omega)
   ·have := of_decide_eq_true h; exact .inr (by rw [List.eq_nil_of_length_eq_zero (l := A) (by omega)]; rfl)
  refine ret1 (v := .int .i64 (chkL (A.map (·.1)) : Nat)) rfl ?_
  unfold applyR
  rw [if_pos h]
  exact ⟨m, wv, lv, N, S, sl, L, hmm0, rfl, hP, .refl, rfl, ok, by omega, hL, .refl, hp, st⟩
 ·refine wc_skip ?_
  refine then_go ?_
  refine wc_seq ?_
  have h2 := (Bool.or_eq_false_iff.mp h15)
  have hc0 : chkL (A.map (·.1)) = 0 := by have := of_decide_eq_false h2.1; omega
  have hok : okL (A.map (·.1)) := by
   unfold chkL at hc0
   split at hc0
   ·assumption
   ·cases hc0
  have hA0 : ¬ (chkL (A.map (·.1)) ≠ 0 ∨ A.map (·.1) = []) := by
   rintro (h | h)
   ·exact h hc0
   ·exact of_decide_eq_false h2.2 (by rw [List.map_eq_nil_iff.1 h]; rfl)
  refine wc_draw TF.mixed ?_
  have st := st.pure (touch_drew _)
  refine fl_val 0 rfl (fun _ => (v_move' (by conv => (lhs; whnf)))) rfl (by kernel_rfl) ?_
  refine fl_val 1 rfl (fun _ => (v_nil rfl)) rfl (by kernel_rfl) ?_
  refine fl_val 2 rfl (fun _ => (v_fa TF.f95_0 rfl)) rfl (by kernel_rfl) ?_
  refine fl_ld 3 rfl (v_load rfl (st.reads (v := .pointer (some ⟨g, 0, none⟩)) 3 rfl TF.t92 rfl)) (by kernel_rfl) ?_
  refine fl_val 4 rfl (fun _ => (v_move' (by conv => (lhs; whnf)))) rfl (by kernel_rfl) ?_
  refine fl_eff1 5 [2, 1, 0] [3] (by kernel_rfl) ⟨obl_ld rfl rfl rfl (v_load rfl (st.reads (v := .pointer (some ⟨g, 0, none⟩)) 3 rfl TF.t92 rfl)), trivial⟩ rfl ?_
  refine wl_call rfl (c_batch st hA (by omega) (by omega)) rfl ?_
  rintro v22 w ⟨m1, hmm1, st⟩
  obtain ⟨m2, hg2, hm2, st2⟩ := st.freezeR (i := 0) rfl (by simp)
  have hx : SlM m2 v22 1 (batB (A.map (·.1))).length (bs (batB (A.map (·.1)))) := row_SlM (m := m2) (st.at (i := 0) rfl) hm2
  have st : St m0 m2 [] w0 w (lgE g b s n sl lv wv S N (stE sb g mb L Es)) := st2
  have hmm2 : ∀ k o, m k = some o → m2 k = some o := fun k o h => hg2.le k o (hmm1 k o h)
  refine wl_nil ⟨rfl, ?_⟩
  refine fl_eff1 6 [2, 1, 0] [] (by kernel_rfl) ⟨obl_ld rfl rfl rfl (v_load rfl (st.reads (v := .pointer (some ⟨g, 0, none⟩)) 3 rfl TF.t92 rfl)), trivial⟩ rfl ?_
  refine wl_call rfl (c_lappend st ok (hP.mono hmm2) hx) rfl ?_
  rintro v23 w ⟨m3, wv3, lv3, N3, S3, sl3, hmm3, rfl, hP3, hPn3, hN3, ok3, hg3, st⟩
  have hmm3 : ∀ k o, m k = some o → m3 k = some o := fun k o h => hmm3 k o (hmm2 k o h)
  refine wl_nil ⟨rfl, ?_⟩
  refine fl_eff1 7 [] [] (by kernel_rfl) trivial rfl ?_
  refine wl_val (v_assign' (by conv => (lhs; whnf))) rfl ?_
  refine wl_nil ⟨rfl, ?_⟩
  refine fl_nil (by kernel_rfl) trivial ?_
  refine then_go ?_
  refine wc_seq ?_
  refine wc_seq ?_
  refine wc_region ?_
  refine wl_val (v_move' (by conv => (lhs; whnf))) rfl ?_
  refine wl_val (v_eql rfl rfl) rfl ?_
  refine wl_val (v_move' (by conv => (lhs; whnf))) rfl ?_
  refine wl_valg rfl rfl (fun e => (v_move' (by conv => (lhs; whnf)))) rfl ?_
  refine wl_valg rfl rfl (fun e => (v_eql (by first | rfl | exact gx e rfl) (by first | rfl | exact gx e rfl))) rfl ?_
  refine wl_val (v_pickO rfl rfl rfl) rfl ?_
  refine wl_nil ?_
  refine then_go ?_
  refine wc_mid (fun r w' => ∃ (a : Nat) (m' : Mem) (wv' lv' : Value) (N' : List (By × Value)) (S' : By) (sl' : LG), r 0 = .pointer (some ⟨sb, 0, none⟩) ∧ r 1 = .slice la A.length lc ∧ r 6 = .int .i64 a ∧ (∀ k o, m k = some o → m' k = some o) ∧ Pcs m' N' ∧ PcsN m m' N N' ∧ applyR M (N.map (·.1)) (A.map (·.1)) n = (if a = 0 then doneS M (A.map (·.1)) else M, N'.map (·.1), a) ∧ LogOk n S' sl' (N'.map (·.1)) ∧ sl'.gen.toNat ≤ sl.gen.toNat + 2 ∧ St m0 m' [] w0 w' (lgE g b s n sl' lv' wv' S' N' (stE sb g mb L Es))) ?_ ?_
  ·refine wc_cond rfl (fun h29 => ?_) (fun h29 => ?_)
   ·refine wc_region ?_
    refine wl_val (v_move' (by conv => (lhs; whnf))) rfl ?_
    refine wl_val (v_move' (by conv => (lhs; whnf))) rfl ?_
    have hne : ¬ appR (N.map (·.1)) (batB (A.map (·.1))) n = 0 := fun e => by rw [e] at h29; cases h29
    rw [if_neg hne] at hN3
    rw [hN3] at ok3
    refine wl_call rfl (c_sover st (by rw [hN3]; exact ok3) (by omega) hP3 (hL.mono hmm3) hM hp (hA.mono hmm3) hok hn hb) rfl ?_
    rintro v32 w ⟨m4, wv4, lv4, N4, S4, sl4, hmm4, rfl, hP4, hPn4, hN4, ok4, hg4, st⟩
    refine wl_val (v_assign' (by conv => (lhs; whnf))) rfl ?_
    refine wl_nil ?_
    refine then_go ?_
    refine ⟨_, m4, wv4, lv4, N4, S4, sl4, rfl, rfl, rfl, fun k o h => hmm4 k o (hmm3 k o h), hP4, PcsN.trans' (fun y hy => (hPn3 y hy).imp id fun h => h.mono hmm2 fun _ _ h => h) hPn4 hmm3 hmm4, ?_, ok4, by omega, st⟩
    unfold applyR
    rw [if_neg hA0, if_neg hne, hN4, hN3]
    unfold overN
    split
    ·rw [if_neg (by decide), if_neg (by decide)]
    ·rw [if_pos rfl, if_pos rfl]
   ·refine wc_skip ?_
    refine then_go ?_
    have h2 := (Bool.or_eq_false_iff.mp h29)
    have he : appR (N.map (·.1)) (batB (A.map (·.1))) n = 0 := (appR_or).resolve_right fun h => h.elim (fun h => of_decide_eq_false h2.2 (by rw [h]; rfl)) fun h => of_decide_eq_false h2.1 (by rw [h]; rfl)
    refine ⟨0, m3, wv3, lv3, N3, S3, sl3, rfl, rfl, by rw [← he]; rfl, hmm3, hP3, fun y hy => (hPn3 y hy).imp id fun h => h.mono hmm2 fun _ _ h => h, ?_, ok3, by omega, st⟩
    unfold applyR
    rw [if_neg hA0, if_pos he, hN3, if_pos he, if_pos rfl]
  ·clear st
   rintro r w ⟨a, m4, wv4, lv4, N4, S4, sl4, g0, g1, g6, hmm4, hP4, hPn4, hap, ok4, hg4, st⟩
   refine wc_o 0 g0 (wc_o 1 g1 (wc_o 6 g6 ?_))
   rw [hap]
   refine wc_seq ?_
   refine wc_seq ?_
   refine wc_region ?_
   refine wl_val (v_move' (by conv => (lhs; whnf))) rfl ?_
   refine wl_val (v_eql rfl rfl) rfl ?_
   refine wl_nil ?_
   refine then_go ?_
   refine wc_cond rfl (fun h34 => ?_) (fun h34 => ?_)
   ·refine wc_region ?_
    refine wl_val (v_move' (by conv => (lhs; whnf))) rfl ?_
    refine wl_val (v_nil rfl) rfl ?_
    refine wl_val (v_fa TF.f95_1 rfl) rfl ?_
    refine wl_val (v_load rfl (st.reads (v := .map (some mb)) 3 rfl TF.t93 rfl)) rfl ?_
    refine wl_val (v_move' (by conv => (lhs; whnf))) rfl ?_
    have st := st.perm (List.perm_middle (l₁ := [_, _, _, _]))
    refine wl_call rfl (c_done st (hA.mono hmm4) (fun a ha => hok.2.1 _ (List.mem_map.2 ⟨a, ha, rfl⟩)) (hL.mono hmm4) (by omega)) rfl ?_
    rintro v40 w ⟨m5, L5, hmm5, hL5, hN5, hK5, st⟩
    have st : St m0 m5 [] w0 w (lgE g b s n sl4 lv4 wv4 S4 N4 (stE sb g mb L5 Es)) := st.perm (List.perm_middle (l₁ := [_, _, _, _])).symm
    refine wl_nil ?_
    refine then_go ?_
    refine wc_seq ?_
    refine wc_region ?_
    refine wl_val (v_move' (by conv => (lhs; whnf))) rfl ?_
    refine wl_val (v_assign' (by conv => (lhs; whnf))) rfl ?_
    refine wl_nil ?_
    refine then_go ?_
    refine wc_ret ?_
    have ha : a = 0 := by have := of_decide_eq_true h34; omega
    refine ret1 (v := .int .i64 (a : Nat)) rfl ?_
    refine ⟨m5, wv4, lv4, N4, S4, sl4, L5, fun k o h => hmm5 k o (hmm4 k o h), rfl, hP4.mono hmm5, fun y hy => (hPn4 y hy).imp id fun h => h.mono (fun _ _ h => h) hmm5, rfl, ok4, hg4, hL5, fun y hy => (hN5 y hy).imp id fun h => h.mono hmm4 fun _ _ h => h, ?_, st⟩
    rw [if_pos ha, hK5]
    exact doneS_perm hp hnd
   ·refine wc_skip ?_
    refine then_go ?_
    refine wc_seq ?_
    refine wc_region ?_
    refine wl_val (v_move' (by conv => (lhs; whnf))) rfl ?_
    refine wl_val (v_assign' (by conv => (lhs; whnf))) rfl ?_
    refine wl_nil ?_
    refine then_go ?_
    refine wc_ret ?_
    have ha : ¬ a = 0 := by have := of_decide_eq_false h34; omega
    refine ret1 (v := .int .i64 (a : Nat)) rfl ?_
    refine ⟨m4, wv4, lv4, N4, S4, sl4, L, hmm4, rfl, hP4, hPn4, rfl, ok4, hg4, hL.mono hmm4, .refl, ?_, st⟩
    rw [if_neg ha]
    exact hp
end
end Go.Proofs.YtladpaehbolghaaGreat

namespace Go.Proofs.YtladpaehbolghaaGreat
open Go Go.RowKit K SH GC JR OS
open DK hiding By
namespace OS
def oneE (E : List (By × DV)) (a : Ac) (dv : Value) : List (By × DV) := E.take (plN (kvs E) a.key) ++ ((if a.set then [(a.key, a.data, dv)] else []) ++ E.drop (plN (kvs E) a.key + if thB (kvs E) a.key then 1 else 0))
theorem kvs_one {E : List (By × DV)} {a : Ac} {dv : Value} (h : Risen (kvs E)) : kvs (oneE E a dv) = oneS (kvs E) a := by
 obtain ⟨h1, h2, _⟩ := pl_take (k := a.key) h
 unfold oneE oneS
 rw [← h1, ← h2]
 unfold kvs
 rw [List.map_append, List.map_append, List.map_take, List.map_drop]
 split <;> rfl
theorem kvok_app {m : Mem} {A B : List (By × DV)} (hA : KvOk m A) (hB : KvOk m B) : KvOk m (A ++ B) := fun x hx => (List.mem_append.1 hx).elim (hA x) (hB x)
theorem KvOk.take {m : Mem} {E : List (By × DV)} (h : KvOk m E) (i : Nat) : KvOk m (E.take i) := fun x hx => h x (List.mem_of_mem_take hx)
theorem KvOk.drop {m : Mem} {E : List (By × DV)} (h : KvOk m E) (i : Nat) : KvOk m (E.drop i) := fun x hx => h x (List.mem_of_mem_drop hx)
theorem one_str {E : List (By × DV)} : ∀ u ∈ kstr E, u.oneCell' = true := fun u hu => by obtain ⟨x, _, rfl⟩ := List.mem_map.1 hu; rfl
theorem one_val {m : Mem} {E : List (By × DV)} (h : KvOk m E) : ∀ u ∈ kval E, u.oneCell' = true := fun u hu => by obtain ⟨x, hx, rfl⟩ := List.mem_map.1 hu; exact SlM.one1 (h x hx).2.2
theorem thB_lt {M : Kys} {k : By} (h : thB M k = true) : plN M k < M.length := by
 unfold thB at h
 split at h
 ·rename_i x hx
  rcases Nat.lt_or_ge (plN M k) M.length with h' | h'
  ·exact h'
  ·rw [List.getElem?_eq_none h'] at hx; cases hx
 ·cases h
end OS
section
variable {m0 m : Mem} {wI w0 w : World} {Es : List Ent}
abbrev rwE {α : Type} (T : TypeId) (f : α → Value) (v : Value) (L : List α) : Ent := rowE v T 1 L.length (L.map f)
abbrev ksE (v : Value) (E : List (By × DV)) : Ent := rwE 9 (fun x => .string (strB x.1)) v E
abbrev vsE (v : Value) (E : List (By × DV)) : Ent := rwE 23 (fun x => x.2.2) v E
section
variable {α : Type} {P : Program} {n : Nat} {ops : Array Oper} {Q : Po} {rest : List Oper} {r : Fr} {d : Nat} {ty : TypeId} {pos : String} {after : Array Edge} {F : List Nat}
theorem wl_rwApp (f : α → Value) (i : Nat) {T E bytes : Nat} {z v x : Value} {s y : Operand} {A B : List α} (st : St m0 m F w0 w Es) (hi : Es[i]? = some (rwE E f v A)) (hT : P.underlying T = some (.slice E)) (tf : TyF P E false 1 bytes) (hz : TyZ P E z) (hzs : z.cells.size = 1)
  (hs : ev r s = v) (hy : ev r y = x) (src : Src P w x 1 B.length (B.map f)) (hb : (A.length + B.length) * bytes ≤ 140737488355328) (h63 : A.length + B.length ≤ 9223372036854775807) (hd : Nat.blt d n = true)
  (k : ∀ v' w', St m0 m F w0 w' (Es.set i (rwE E f v' (A ++ B))) → v'.oneCell' = true → WL P n ops Q rest (upd d v' r) w') :
  WL P n ops Q (⟨some d, .call ⟨.builtin .append, #[s, y], #[T, T]⟩, ty, pos, after, none⟩ :: rest) r w := by
 refine wl_append (news := B.map f) i st hi hT hT (.inr ⟨_, rfl⟩) tf hz hzs hs hy src h63 hb hd ?_
 intro v' w' _ st'
 have st2 := st'
 have e1 : A.map f ++ B.map f = (A ++ B).map f := by simp
 have e2 : A.length + B.length = (A ++ B).length := by simp
 rw [e1, e2] at st2
 have hlt : i < Es.length := by
  rcases Nat.lt_or_ge i Es.length with h | h
  ·exact h
  ·rw [List.getElem?_eq_none h] at hi; cases hi
 have hrow : (rwE E f v' (A ++ B)).holds w' := st2.at (i := i) (List.getElem?_set_self hlt)
 exact k v' w' st2 (row_one hrow)
theorem wl_rwPut (f : α → Value) (i : Nat) {T E bytes b cap : Nat} {z v : Value} {s y : Operand} {A : List α} {e : α} (st : St m0 m F w0 w (K.blk b #[f e] E :: Es)) (hi : Es[i]? = some (rwE E f v A)) (hT : P.underlying T = some (.slice E)) (tf : TyF P E false 1 bytes) (hz : TyZ P E z) (hzs : z.cells.size = 1) (ho : (f e).oneCell' = true)
  (hs : ev r s = v) (hy : ev r y = .slice (some ⟨b, 0, none⟩) 1 cap) (hb : (A.length + 1) * bytes ≤ 140737488355328) (h63 : A.length + 1 ≤ 9223372036854775807) (hd : Nat.blt d n = true)
  (k : ∀ v' w', St m0 m F w0 w' (Es.set i (rwE E f v' (A ++ [e]))) → v'.oneCell' = true → WL P n ops Q rest (upd d v' r) w') :
  WL P n ops Q (⟨some d, .call ⟨.builtin .append, #[s, y], #[T, T]⟩, ty, pos, after, none⟩ :: rest) r w := by
 refine wl_rwApp f (i + 1) (B := [e]) st hi hT tf hz hzs hs hy (st.srcArr (off := 0) 0 rfl rfl (fun j u hj => by simpa using hj) (fun u hu => by rw [List.mem_singleton.1 hu]; exact ho)) hb h63 hd ?_
 intro v' w' st' h1
 exact k v' w' (st'.drop 0) h1
theorem wl_rwOne {T E : TypeId} {bytes : Nat} {z v : Value} {x : Operand} (hT : P.underlying T = some (.slice E)) (tf : TyF P E false 1 bytes) (hz : TyZ P E z) (hzs : z.cells.size = 1) (ho : v.oneCell' = true) (hx : ev r x = v) (st : St m0 m F w0 w Es) (hd : Nat.blt d n = true)
  (k : ∀ b w', St m0 m F w0 w' (K.blk b #[v] E :: Es) → WL P n ops Q rest (upd d (.slice (some ⟨b, 0, none⟩) 1 1) r) w') :
  WL P n ops Q (⟨some d, .buildSlice T 1 #[(0, x)], ty, pos, after, none⟩ :: rest) r w := by
 refine wl_buildSlice (c' := #[v]) [(0, v)] hT tf hz (by decide) (by decide) (by simp [hx]) ⟨0, 1, rfl, by rw [cells_one ho]; rfl, by simp [size_madeCells, hzs], ?_⟩ st hd k
 rw [cells_one ho]
 exact setSeg_all (by simp [size_madeCells, hzs])
theorem SlM.subM {β : Type} (f : β → Value) {a : Option Addr} {cap : Nat} {L : List β} (i j : Nat) (hx : SlM m (.slice a L.length cap) 1 L.length (L.map f)) (hij : i ≤ j) (hj : j ≤ L.length) :
  SlM m (.slice (sliceOff a cap i 1) (j - i) (cap - i)) 1 ((L.drop i).take (j - i)).length (((L.drop i).take (j - i)).map f) := by
 have hs := hx.sub rfl (l := i) (h := j) hij hj (by omega)
 have e : ((L.map f).drop (i * 1)).take ((j - i) * 1) = ((L.drop i).take (j - i)).map f := by rw [List.map_take, List.map_drop, Nat.mul_one, Nat.mul_one]
 rw [e] at hs
 rw [List.length_take, List.length_drop, Nat.min_eq_left (by omega)]
 exact hs
end
theorem c_rone {kv vv dv : Value} {E : List (By × DV)} {x : Ac} (him : Im m wI) (hE : KyM m kv vv E) (hEl : E.length ≤ 1000000) (hok : AcOk m x dv) (hk : x.key.length ≤ 64) (hd : x.data.length ≤ 1048576) :
  Ret Tryz.prog 70 #[.agg #[kv, vv], .agg (acC x dv).toArray] wI fun v w' => Out m wI w' fun m' => ∃ kv' vv', v = .agg #[kv', vv'] ∧ KyM m' kv' vv' (oneE E x dv) := by
 have st := St.start him
 obtain ⟨ka, kc, va, vc, rfl, rfl, hkc, hvc⟩ := hE.sl
 obtain ⟨i, hie⟩ : ∃ i, i = plN (kvs E) x.key := ⟨_, rfl⟩
 obtain ⟨th, hth⟩ : ∃ t, t = thB (kvs E) x.key := ⟨_, rfl⟩
 obtain ⟨j, hj⟩ : ∃ j, j = i + if th = true then 1 else 0 := ⟨_, rfl⟩
 have hi : i ≤ E.length := by have := plN_le (M := kvs E) (k := x.key); rw [length_kvs] at this; omega
 have hjl : j ≤ E.length := by
  rw [hj]
  split
  ·have := thB_lt (M := kvs E) (k := x.key) (by rw [← hth]; assumption); rw [length_kvs] at this; omega
  ·omega
 have hone := cells_one (SlM.one1 hok.data)
 have hd1 := SlM.one1 hok.data
 obtain ⟨da, dc, rfl, hdc⟩ := hok.data.opn
 obtain ⟨L1, hL1⟩ : ∃ L, L = E.take i ++ (if x.set then [(x.key, x.data, (.slice da x.data.length dc : Value))] else []) := ⟨_, rfl⟩
 have hE' : oneE E x (.slice da x.data.length dc) = L1 ++ E.drop j := by
  unfold oneE
  rw [← hie, ← hth, ← hj, hL1, List.append_assoc]
 have tk : (E.drop 0).take (i - 0) = E.take i := rfl
 have dk : (E.drop j).take (E.length - j) = E.drop j := List.take_of_length_le (by simp)
 have sk1 := SlM.subM (fun x : By × DV => .string (strB x.1)) 0 i hE.1 (Nat.zero_le _) hi
 have sv1 := SlM.subM (fun x : By × DV => x.2.2) 0 i hE.2.1 (Nat.zero_le _) hi
 have sk2 := SlM.subM (fun x : By × DV => .string (strB x.1)) j E.length hE.1 hjl (Nat.le_refl _)
 have sv2 := SlM.subM (fun x : By × DV => x.2.2) j E.length hE.2.1 hjl (Nat.le_refl _)
 rw [tk] at sk1 sv1
 rw [dk] at sk2 sv2
 have ln1 : (E.take i).length = i := by rw [List.length_take]; omega
 have ln2 : (E.drop j).length = E.length - j := List.length_drop
 have lnL : L1.length ≤ i + 1 := by rw [hL1, List.length_append, ln1]; split <;> simp
 have hT1 : KvOk m (E.take i) := hE.2.2.take i
 have hL1ok : KvOk m L1 := by
  rw [hL1]
  refine kvok_app hT1 ?_
  split
  ·intro y hy; rw [List.mem_singleton.1 hy]; exact ⟨hk, hd, hok.data⟩
  ·intro y hy; cases hy
 refine ret_of Tryz.call70 Tryz.func70 rfl Tryz.ntmps70 Tryz.results70 rfl ?_
 refine wc_seq ?_
 refine wc_region ?_
 refine wl_box (v := .agg #[.slice ka E.length kc, .slice va E.length vc]) rfl st rfl ?_
 intro b2 w st
 refine wl_box (v := .agg (acC x (.slice da x.data.length dc)).toArray) rfl st rfl ?_
 intro b3 w st
 refine wl_alloc TF.z43 st rfl ?_
 intro b4 w st
 refine wl_nil ?_
 refine then_go ?_
 refine wc_seq ?_
 refine wc_region ?_
 refine wl_val (v_load rfl (st.reads (v := .agg #[.slice ka E.length kc, .slice va E.length vc]) 2 rfl TF.t43 (getV_all rfl))) rfl ?_
 refine wl_val (v_fa TF.f57_0 rfl) rfl ?_
 refine wl_val (v_load rfl (st.reads (v := .string (strB x.key)) 1 rfl TF.t9 (Ac.g0_1 hok))) rfl ?_
 refine wl_call rfl (c_place st.im hE hEl) rfl ?_
 rintro v12 w ⟨t12, rfl⟩
 have st := st.pure t12
 rw [← hie, ← hth]
 refine wl_val (v_move' (by conv => (lhs; whnf))) rfl ?_
 refine wl_val (v_extract rfl rfl) rfl ?_
 refine wl_val (v_extract rfl rfl) rfl ?_
 refine wl_val (v_assign' (by conv => (lhs; whnf))) rfl ?_
 refine wl_val (v_assign' (by conv => (lhs; whnf))) rfl ?_
 refine wl_nil ?_
 refine then_go ?_
 refine wc_seq ?_
 refine wc_region ?_
 refine wl_val (v_build (c' := #[.slice none 0 0, .slice none 0 0]) [] TF.z43 TF.p43 rfl rfl) rfl ?_
 refine wl_alloc TF.z43 st rfl ?_
 intro b7 w st
 refine wl_storeW (cs := #[.slice none 0 0, .slice none 0 0]) 0 st rfl TF.t43 rfl rfl rfl rfl (by simp [Value.oneCell']) ?_
 intro w st
 obtain ⟨bb2, hbb2⟩ : ∃ q, q = K.blk b2 #[.slice ka E.length kc, .slice va E.length vc] 43 := ⟨_, rfl⟩
 have st := nilRow st 23 1
 have st := nilRow st 9 1
 have st : St m m [] wI w [ksE (.slice none 0 0) [], vsE (.slice none 0 0) [], K.blk b7 #[.slice none 0 0, .slice none 0 0] 43, K.blk b4 #[.slice none 0 0, .slice none 0 0] 43, K.blk b3 (acC x (.slice da x.data.length dc)).toArray 57, K.blk b2 #[.slice ka E.length kc, .slice va E.length vc] 43] := st
 refine wl_nil ?_
 refine then_go ?_
 refine wc_seq ?_
 refine wc_draw TF.mixed ?_
 have st := st.pure (touch_drew _)
 refine fl_val 0 rfl (fun _ => (v_fa TF.f43_0 rfl)) rfl (by kernel_rfl) ?_
 refine fl_ld 1 rfl (v_load rfl (st.reads (v := .slice none 0 0) 2 rfl TF.t40 rfl)) (by kernel_rfl) ?_
 refine fl_val 2 rfl (fun _ => (v_fa TF.f43_0 rfl)) rfl (by kernel_rfl) ?_
 refine fl_ld 3 rfl (v_load rfl (st.reads (v := .slice ka E.length kc) 5 rfl TF.t40 rfl)) (by kernel_rfl) ?_
 refine fl_val 4 rfl (fun _ => (v_move' (by conv => (lhs; whnf)))) rfl (by kernel_rfl) ?_
 refine fl_val 5 rfl (fun _ => (v_slice_s (l := 0) (h := i) Tryz.underlying40 TF.t9 rfl rfl ⟨_, _, rfl, rfl⟩ (by omega) (by omega))) rfl (by kernel_rfl) ?_
 refine fl_eff1 6 [4, 2, 0] [3] (by kernel_rfl) ⟨obl_ld rfl rfl rfl (v_load rfl (st.reads (v := .slice ka E.length kc) 5 rfl TF.t40 rfl)), obl_ld rfl rfl rfl (v_load rfl (st.reads (v := .slice none 0 0) 2 rfl TF.t40 rfl)), trivial⟩ rfl ?_
 refine wl_rwApp _ 0 (B := E.take i) st rfl Tryz.underlying40 TF.t9 TF.z9 rfl rfl rfl (sk1.src st.im one_str) (by simp; omega) (by simp; omega) rfl ?_
 intro v22 w st o22
 refine wl_nil ⟨rfl, ?_⟩
 refine fl_val 7 rfl (fun _ => (v_fa TF.f43_0 rfl)) rfl (by kernel_rfl) ?_
 refine fl_eff1 8 [] [] (by kernel_rfl) ⟨obl_ld rfl rfl rfl (v_load rfl (st.reads (v := .slice ka E.length kc) 5 rfl TF.t40 rfl)), trivial⟩ rfl ?_
 refine wl_store1 (v := v22) 2 st rfl TF.t40 rfl rfl o22 (lt_ok rfl) ?_
 intro w st
 refine wl_nil ⟨rfl, ?_⟩
 refine fl_nil (by kernel_rfl) trivial ?_
 refine then_go ?_
 refine wc_seq ?_
 refine wc_draw TF.mixed ?_
 have st := st.pure (touch_drew _)
 refine fl_val 0 rfl (fun _ => (v_fa TF.f43_1 rfl)) rfl (by kernel_rfl) ?_
 refine fl_ld 1 rfl (v_load rfl (st.reads (v := .slice none 0 0) 2 rfl TF.t41 rfl)) (by kernel_rfl) ?_
 refine fl_val 2 rfl (fun _ => (v_fa TF.f43_1 rfl)) rfl (by kernel_rfl) ?_
 refine fl_ld 3 rfl (v_load rfl (st.reads (v := .slice va E.length vc) 5 rfl TF.t41 rfl)) (by kernel_rfl) ?_
 refine fl_val 4 rfl (fun _ => (v_move' (by conv => (lhs; whnf)))) rfl (by kernel_rfl) ?_
 refine fl_val 5 rfl (fun _ => (v_slice_s (l := 0) (h := i) Tryz.underlying41 TF.t23 rfl rfl ⟨_, _, rfl, rfl⟩ (by omega) (by omega))) rfl (by kernel_rfl) ?_
 refine fl_eff1 6 [4, 2, 0] [3] (by kernel_rfl) ⟨obl_ld rfl rfl rfl (v_load rfl (st.reads (v := .slice va E.length vc) 5 rfl TF.t41 rfl)), obl_ld rfl rfl rfl (v_load rfl (st.reads (v := .slice none 0 0) 2 rfl TF.t41 rfl)), trivial⟩ rfl ?_
 refine wl_rwApp _ 1 (B := E.take i) st rfl Tryz.underlying41 TF.t23 TF.z23 rfl rfl rfl (sv1.src st.im (one_val hT1)) (by simp; omega) (by simp; omega) rfl ?_
 intro v30 w st o30
 refine wl_nil ⟨rfl, ?_⟩
 refine fl_val 7 rfl (fun _ => (v_fa TF.f43_1 rfl)) rfl (by kernel_rfl) ?_
 refine fl_eff1 8 [] [] (by kernel_rfl) ⟨obl_ld rfl rfl rfl (v_load rfl (st.reads (v := .slice va E.length vc) 5 rfl TF.t41 rfl)), trivial⟩ rfl ?_
 refine wl_store1 (v := v30) 2 st rfl TF.t41 rfl rfl o30 (lt_ok rfl) ?_
 intro w st
 have st : St m m [] wI w [ksE v22 (E.take i), vsE v30 (E.take i), K.blk b7 #[v22, v30] 43, K.blk b4 #[.slice none 0 0, .slice none 0 0] 43, K.blk b3 (acC x (.slice da x.data.length dc)).toArray 57, K.blk b2 #[.slice ka E.length kc, .slice va E.length vc] 43] := st
 refine wl_nil ⟨rfl, ?_⟩
 refine fl_nil (by kernel_rfl) trivial ?_
 refine then_go ?_
 refine wc_seq ?_
 refine wc_seq ?_
 refine wc_region ?_
 refine wl_val (v_fa TF.f57_1 rfl) rfl ?_
 refine wl_val (v_load rfl (st.reads (v := .bool x.set) 4 rfl TF.t4 (Ac.g1_1 hok))) rfl ?_
 refine wl_nil ?_
 refine then_go ?_
 refine wc_mid (fun r w' => ∃ v1 v2, r 2 = .pointer (some ⟨b2, 0, none⟩) ∧ r 4 = .pointer (some ⟨b4, 0, none⟩) ∧ r 5 = .int .i64 i ∧ r 6 = .bool th ∧ r 7 = .pointer (some ⟨b7, 0, none⟩) ∧ v1.oneCell' = true ∧ v2.oneCell' = true ∧ St m m [] wI w' [ksE v1 L1, vsE v2 L1, K.blk b7 #[v1, v2] 43, K.blk b4 #[.slice none 0 0, .slice none 0 0] 43, K.blk b3 (acC x (.slice da x.data.length dc)).toArray 57, K.blk b2 #[.slice ka E.length kc, .slice va E.length vc] 43]) ?_ ?_
 ·refine wc_cond rfl (fun h33 => ?_) (fun h33 => ?_)
  ·refine wc_seq ?_
   refine wc_region ?_
   refine wl_val (v_fa TF.f43_0 rfl) rfl ?_
   refine wl_val (v_load rfl (st.reads (v := v22) 2 rfl TF.t40 rfl)) rfl ?_
   refine wl_val (v_fa TF.f57_0 rfl) rfl ?_
   refine wl_val (v_load rfl (st.reads (v := .string (strB x.key)) 4 rfl TF.t9 (Ac.g0_1 hok))) rfl ?_
   refine wl_rwOne (v := .string (strB x.key)) Tryz.underlying40 TF.t9 TF.z9 rfl rfl rfl st rfl ?_
   intro b38 w st
   refine wl_rwPut (fun x : By × DV => .string (strB x.1)) 0 (e := (x.key, x.data, .slice da x.data.length dc)) st rfl Tryz.underlying40 TF.t9 TF.z9 rfl rfl rfl rfl (by omega) (by omega) rfl ?_
   intro v39 w st o39
   refine wl_val (v_fa TF.f43_0 rfl) rfl ?_
   refine wl_store1 (v := v39) 2 st rfl TF.t40 rfl rfl o39 (lt_ok rfl) ?_
   intro w st
   refine wl_nil ?_
   refine then_go ?_
   refine wc_region ?_
   refine wl_val (v_fa TF.f43_1 rfl) rfl ?_
   refine wl_val (v_load rfl (st.reads (v := v30) 2 rfl TF.t41 rfl)) rfl ?_
   refine wl_val (v_fa TF.f57_2 rfl) rfl ?_
   refine wl_val (v_load rfl (st.reads (v := .slice da x.data.length dc) 4 rfl TF.t23 (Ac.g2_1 hok))) rfl ?_
   refine wl_rwOne (v := .slice da x.data.length dc) Tryz.underlying41 TF.t23 TF.z23 rfl rfl rfl st rfl ?_
   intro b45 w st
   refine wl_rwPut (fun x : By × DV => x.2.2) 1 (e := (x.key, x.data, .slice da x.data.length dc)) st rfl Tryz.underlying41 TF.t23 TF.z23 rfl rfl rfl rfl (by omega) (by omega) rfl ?_
   intro v46 w st o46
   refine wl_val (v_fa TF.f43_1 rfl) rfl ?_
   refine wl_store1 (v := v46) 2 st rfl TF.t41 rfl rfl o46 (lt_ok rfl) ?_
   intro w st
   refine wl_nil ?_
   refine then_go ?_
   exact ⟨v39, v46, rfl, rfl, rfl, rfl, rfl, o39, o46, by rw [hL1, if_pos h33]; exact st⟩
  ·refine wc_skip ?_
   refine then_go ?_
   exact ⟨v22, v30, rfl, rfl, rfl, rfl, rfl, o22, o30, by rw [hL1, if_neg (by rw [h33]; decide), List.append_nil]; exact st⟩
 ·clear st
  rintro r w ⟨v1, v2, g2, g4, g5, g6, g7, o1, o2, st⟩
  refine wc_o 2 g2 (wc_o 4 g4 (wc_o 5 g5 (wc_o 6 g6 (wc_o 7 g7 ?_))))
  refine wc_seq ?_
  refine wc_seq ?_
  refine wc_region ?_
  refine wl_val (v_move' (by conv => (lhs; whnf))) rfl ?_
  refine wl_nil ?_
  refine then_go ?_
  refine wc_mid (fun r w' => r 2 = .pointer (some ⟨b2, 0, none⟩) ∧ r 4 = .pointer (some ⟨b4, 0, none⟩) ∧ r 5 = .int .i64 j ∧ r 7 = .pointer (some ⟨b7, 0, none⟩) ∧ St m m [] wI w' [ksE v1 L1, vsE v2 L1, K.blk b7 #[v1, v2] 43, K.blk b4 #[.slice none 0 0, .slice none 0 0] 43, K.blk b3 (acC x (.slice da x.data.length dc)).toArray 57, K.blk b2 #[.slice ka E.length kc, .slice va E.length vc] 43]) ?_ ?_
  ·refine wc_cond rfl (fun h48 => ?_) (fun h48 => ?_)
   ·refine wc_region ?_
    refine wl_val (v_move' (by conv => (lhs; whnf))) rfl ?_
    refine wl_val (v_add' (c := ((i + 1 : Nat) : Int)) rfl rfl (by omega) (by omega) (by omega)) rfl ?_
    refine wl_val (v_assign' (by conv => (lhs; whnf))) rfl ?_
    refine wl_nil ?_
    refine then_go ?_
    exact ⟨rfl, rfl, by rw [hj, if_pos h48]; rfl, rfl, st⟩
   ·refine wc_skip ?_
    refine then_go ?_
    exact ⟨rfl, rfl, by rw [hj, if_neg (by rw [h48]; decide)]; rfl, rfl, st⟩
  ·clear st
   rintro r w ⟨g2, g4, g5, g7, st⟩
   refine wc_o 2 g2 (wc_o 4 g4 (wc_o 5 g5 (wc_o 7 g7 ?_)))
   refine wc_seq ?_
   refine wc_draw TF.mixed ?_
   have st := st.pure (touch_drew _)
   refine fl_val 0 rfl (fun _ => (v_fa TF.f43_0 rfl)) rfl (by kernel_rfl) ?_
   refine fl_ld 1 rfl (v_load rfl (st.reads (v := v1) 2 rfl TF.t40 rfl)) (by kernel_rfl) ?_
   refine fl_val 2 rfl (fun _ => (v_fa TF.f43_0 rfl)) rfl (by kernel_rfl) ?_
   refine fl_ld 3 rfl (v_load rfl (st.reads (v := .slice ka E.length kc) 5 rfl TF.t40 rfl)) (by kernel_rfl) ?_
   refine fl_val 4 rfl (fun _ => (v_move' (by conv => (lhs; whnf)))) rfl (by kernel_rfl) ?_
   refine fl_val 5 rfl (fun _ => (v_slice_s (l := j) (h := E.length) Tryz.underlying40 TF.t9 rfl ⟨_, _, rfl, rfl⟩ rfl (by omega) (by omega))) rfl (by kernel_rfl) ?_
   refine fl_eff1 6 [4, 2, 0] [3] (by kernel_rfl) ⟨obl_ld rfl rfl rfl (v_load rfl (st.reads (v := .slice ka E.length kc) 5 rfl TF.t40 rfl)), obl_ld rfl rfl rfl (v_load rfl (st.reads (v := v1) 2 rfl TF.t40 rfl)), trivial⟩ rfl ?_
   refine wl_rwApp _ 0 (B := E.drop j) st rfl Tryz.underlying40 TF.t9 TF.z9 rfl rfl rfl (sk2.src st.im one_str) (by omega) (by omega) rfl ?_
   intro v57 w st o57
   refine wl_nil ⟨rfl, ?_⟩
   refine fl_val 7 rfl (fun _ => (v_fa TF.f43_0 rfl)) rfl (by kernel_rfl) ?_
   refine fl_eff1 8 [] [] (by kernel_rfl) ⟨obl_ld rfl rfl rfl (v_load rfl (st.reads (v := .slice ka E.length kc) 5 rfl TF.t40 rfl)), trivial⟩ rfl ?_
   refine wl_store1 (v := v57) 2 st rfl TF.t40 rfl rfl o57 (lt_ok rfl) ?_
   intro w st
   refine wl_nil ⟨rfl, ?_⟩
   refine fl_nil (by kernel_rfl) trivial ?_
   refine then_go ?_
   refine wc_seq ?_
   refine wc_draw TF.mixed ?_
   have st := st.pure (touch_drew _)
   refine fl_val 0 rfl (fun _ => (v_fa TF.f43_1 rfl)) rfl (by kernel_rfl) ?_
   refine fl_ld 1 rfl (v_load rfl (st.reads (v := v2) 2 rfl TF.t41 rfl)) (by kernel_rfl) ?_
   refine fl_val 2 rfl (fun _ => (v_fa TF.f43_1 rfl)) rfl (by kernel_rfl) ?_
   refine fl_ld 3 rfl (v_load rfl (st.reads (v := .slice va E.length vc) 5 rfl TF.t41 rfl)) (by kernel_rfl) ?_
   refine fl_val 4 rfl (fun _ => (v_move' (by conv => (lhs; whnf)))) rfl (by kernel_rfl) ?_
   refine fl_val 5 rfl (fun _ => (v_slice_s (l := j) (h := E.length) Tryz.underlying41 TF.t23 rfl ⟨_, _, rfl, rfl⟩ rfl (by omega) (by omega))) rfl (by kernel_rfl) ?_
   refine fl_eff1 6 [4, 2, 0] [3] (by kernel_rfl) ⟨obl_ld rfl rfl rfl (v_load rfl (st.reads (v := .slice va E.length vc) 5 rfl TF.t41 rfl)), obl_ld rfl rfl rfl (v_load rfl (st.reads (v := v2) 2 rfl TF.t41 rfl)), trivial⟩ rfl ?_
   refine wl_rwApp _ 1 (B := E.drop j) st rfl Tryz.underlying41 TF.t23 TF.z23 rfl rfl rfl (sv2.src st.im (one_val (hE.2.2.drop j))) (by omega) (by omega) rfl ?_
   intro v65 w st o65
   refine wl_nil ⟨rfl, ?_⟩
   refine fl_val 7 rfl (fun _ => (v_fa TF.f43_1 rfl)) rfl (by kernel_rfl) ?_
   refine fl_eff1 8 [] [] (by kernel_rfl) ⟨obl_ld rfl rfl rfl (v_load rfl (st.reads (v := .slice va E.length vc) 5 rfl TF.t41 rfl)), trivial⟩ rfl ?_
   refine wl_store1 (v := v65) 2 st rfl TF.t41 rfl rfl o65 (lt_ok rfl) ?_
   intro w st
   refine wl_nil ⟨rfl, ?_⟩
   refine fl_nil (by kernel_rfl) trivial ?_
   refine then_go ?_
   refine wc_seq ?_
   refine wc_region ?_
   refine wl_val (v_load rfl (st.reads (v := .agg #[v57, v65]) 2 rfl TF.t43 (getV_all rfl))) rfl ?_
   refine wl_storeW (cs := #[v57, v65]) 3 st rfl TF.t43 rfl rfl rfl rfl (by intro u hu; simp at hu; rcases hu with rfl | rfl <;> assumption) ?_
   intro w st
   have st : St m m [] wI w [ksE v57 (L1 ++ E.drop j), vsE v65 (L1 ++ E.drop j), K.blk b7 #[v57, v65] 43, K.blk b4 #[v57, v65] 43, K.blk b3 (acC x (.slice da x.data.length dc)).toArray 57, K.blk b2 #[.slice ka E.length kc, .slice va E.length vc] 43] := st
   refine wl_nil ?_
   refine then_go ?_
   refine wc_ret ?_
   obtain ⟨m1, hg1, hm1, st1⟩ := st.freezeR (i := 0) rfl (by simp)
   have hk1 := row_SlM (m := m1) (st.at (i := 0) rfl) hm1
   obtain ⟨m2, hg2, hm2, st2⟩ := st1.freezeR (i := 0) rfl (by simp)
   have hv1 := row_SlM (m := m2) (st1.at (i := 0) rfl) hm2
   refine ret1c (p := ⟨b4, 0, none⟩) (v := .agg #[v57, v65]) rfl (st.reads (off := 0) 3 rfl TF.t43 (getV_all rfl)) ((st2.keepOnly (l := []) (List.nil_sublist _)).out ⟨v57, v65, rfl, ?_⟩)
   rw [hE']
   exact ⟨hk1.mono hg2.le, hv1, (kvok_app hL1ok (hE.2.2.drop j)).mono fun k o h => hg2.le k o (hg1.le k o h)⟩
end
end Go.Proofs.YtladpaehbolghaaGreat

namespace Go.Proofs.YtladpaehbolghaaGreat
open Go Go.RowKit K SH GC JR OS
open DK hiding By
section
variable {m0 m : Mem} {w0 w : World} {Es : List Ent}
theorem c_sget {sb mb g b s n : Nat} {sl : LG} {lv wv : Value} {S k : By} {N : List (By × Value)} {L : List (By × DV)} {M : Kys}
    (st : St m0 m [] w0 w (lgE g b s n sl lv wv S N (stE sb g mb L Es))) (hL : KvOk m L) (hM : Risen M) (hp : M.Perm (kvs L)) (hk : k.length ≤ 9223372036854775807) :
    Ret Tryz.prog 29 #[.pointer (some ⟨sb, 0, none⟩), .string (strB k)] w fun v w' => ∃ u, v = .tuple #[u, .bool (getKV k M).isSome] ∧ St m0 m [] w0 w' (byE u ((getKV k M).getD []) :: lgE g b s n sl lv wv S N (stE sb g mb L Es)) := by
  have hnd : ((kvs L).map (·.1)).Nodup := (hp.map (·.1)).nodup hM.nodup
  have hget : getKV k M = (getKV k L).map (·.1) := by
    rw [← kvs_get]
    refine Option.ext fun d => ?_
    rw [← mem_getKV hM.nodup, ← mem_getKV hnd]
    exact hp.mem_iff
  rw [hget]
  have hv : SlM m (((getKV k L).map (fun x : DV => x.2)).getD (.slice none 0 0)) 1 (((getKV k L).map (·.1)).getD []).length (bs (((getKV k L).map (·.1)).getD [])) ∧ (((getKV k L).map (·.1)).getD []).length ≤ 1048576 := by
    have hnL : (L.map (·.1)).Nodup := by have : (kvs L).map (·.1) = L.map (·.1) := by unfold kvs; rw [List.map_map]; rfl
                                         rw [← this]; exact hnd
    rcases h : getKV k L with _ | x
    · exact ⟨SlM.nil, by simp⟩
    · have := hL _ ((mem_getKV hnL).2 h)
      exact ⟨this.2.2, this.2.1⟩
  have hsome : (getKV k L).isSome = ((getKV k L).map (·.1)).isSome := by cases getKV k L <;> rfl
  refine ret_of Tryz.call29 Tryz.func29 rfl Tryz.ntmps29 Tryz.results29 rfl ?_
  refine wc_seq ?_
  refine wc_region ?_
  refine wl_val (v_assign' (by conv => (lhs; whnf))) rfl ?_
  refine wl_val (v_assign' (by conv => (lhs; whnf))) rfl ?_
  refine wl_nil ?_
  refine then_go ?_
  refine wc_seq ?_
  refine wc_region ?_
  refine wl_val (v_move' (by conv => (lhs; whnf))) rfl ?_
  refine wl_val (v_nil rfl) rfl ?_
  refine wl_val (v_fa TF.f95_1 rfl) rfl ?_
  refine wl_val (v_load rfl (st.reads (v := .map (some mb)) 3 rfl TF.t93 rfl)) rfl ?_
  refine wl_val (v_move' (by conv => (lhs; whnf))) rfl ?_
  refine wl_val (v_mapGetO 4 st rfl kt_str Tryz.underlying93 TF.z23 hL.keys hk rfl rfl true) rfl ?_
  refine wl_val (v_move' (by conv => (lhs; whnf))) rfl ?_
  refine wl_val (v_extract rfl rfl) rfl ?_
  refine wl_val (v_extract rfl rfl) rfl ?_
  refine wl_val (v_assign' (by conv => (lhs; whnf))) rfl ?_
  refine wl_val (v_assign' (by conv => (lhs; whnf))) rfl ?_
  refine wl_nil ?_
  refine then_go ?_
  refine wc_seq ?_
  refine wc_region ?_
  refine wl_val (v_move' (by conv => (lhs; whnf))) rfl ?_
  refine wl_call rfl (c_bcloneR st hv.1 (by have := hv.2; omega)) rfl ?_
  intro v18 w st
  refine wl_val (v_move' (by conv => (lhs; whnf))) rfl ?_
  refine wl_val (v_assign' (by conv => (lhs; whnf))) rfl ?_
  refine wl_val (v_assign' (by conv => (lhs; whnf))) rfl ?_
  refine wl_nil ?_
  refine then_go ?_
  refine wc_ret ?_
  exact ret2 (v := v18) (v' := .bool (getKV k L).isSome) rfl rfl ⟨v18, by rw [hsome], st⟩
theorem c_slen {sb mb g b s n : Nat} {sl : LG} {lv wv : Value} {S : By} {N : List (By × Value)} {L : List (By × DV)}
  (st : St m0 m [] w0 w (lgE g b s n sl lv wv S N (stE sb g mb L Es))) :
  Ret Tryz.prog 34 #[.pointer (some ⟨sb, 0, none⟩)] w fun v w' => Tch w w' [] [] ∧ v = .int .i64 L.length := by
 refine ret_of Tryz.call34 Tryz.func34 rfl Tryz.ntmps34 Tryz.results34 rfl ?_
 refine wc_seq ?_
 refine wc_region ?_
 refine wl_val (v_assign' (by conv => (lhs; whnf))) rfl ?_
 refine wl_nil ?_
 refine then_go ?_
 refine wc_seq ?_
 refine wc_region ?_
 refine wl_val (v_move' (by conv => (lhs; whnf))) rfl ?_
 refine wl_val (v_nil rfl) rfl ?_
 refine wl_val (v_fa TF.f95_1 rfl) rfl ?_
 refine wl_val (v_load rfl (st.reads (v := .map (some mb)) 3 rfl TF.t93 rfl)) rfl ?_
 refine wl_val (v_mapLen 4 st rfl Tryz.underlying93 rfl) rfl ?_
 refine wl_val (v_assign' (by conv => (lhs; whnf))) rfl ?_
 refine wl_nil ?_
 refine then_go ?_
 refine wc_ret ?_
 exact ret1 rfl ⟨Tch.refl _ _, rfl⟩
theorem c_sall {sb mb g b s n : Nat} {sl : LG} {lv wv : Value} {S : By} {N : List (By × Value)} {L : List (By × DV)} {M : Kys}
  (st : St m0 m [] w0 w (lgE g b s n sl lv wv S N (stE sb g mb L Es))) (hL : KvOk m L) (hM : Risen M) (hp : M.Perm (kvs L)) (hl : L.length ≤ 1000000) :
  Ret Tryz.prog 30 #[.pointer (some ⟨sb, 0, none⟩)] w fun v w' => ∃ b3 m' av A, v = .func (.func 64) #[] #[.pointer (some ⟨b3, 0, none⟩)] ∧ (∀ k o, m k = some o → m' k = some o) ∧ AcsM m' av A ∧ A.map (·.1) = actsOf M ∧ m' b3 = some (.cells #[av] 22 (0, 0)) ∧ St m0 m' [] w0 w' (lgE g b s n sl lv wv S N (stE sb g mb L Es)) := by
 refine ret_of Tryz.call30 Tryz.func30 rfl Tryz.ntmps30 Tryz.results30 rfl ?_
 refine wc_seq ?_
 refine wc_region ?_
 refine wl_val (v_assign' (by conv => (lhs; whnf))) rfl ?_
 refine wl_nil ?_
 refine then_go ?_
 refine wc_seq ?_
 refine wc_region ?_
 refine wl_val (v_move' (by conv => (lhs; whnf))) rfl ?_
 refine wl_val (v_nil rfl) rfl ?_
 refine wl_val (v_fa TF.f95_1 rfl) rfl ?_
 refine wl_val (v_load rfl (st.reads (v := .map (some mb)) 3 rfl TF.t93 rfl)) rfl ?_
 have st := st.perm (List.perm_middle (l₁ := [_, _, _, _]))
 refine wl_call rfl (c_swhole st hL hl) rfl ?_
 rintro v8 w ⟨A, hp1, hrs, st⟩
 have hAM : A.map (·.1) = actsOf M := whole_one hp1 hrs hM hp
 have hao : ∀ a ∈ A, AcOk m a.1 a.2 := fun a ha => by
  obtain ⟨z, hz, rfl⟩ := List.mem_map.1 (hp1.mem_iff.1 ha)
  obtain ⟨h1, h2, h3⟩ := hL z hz
  exact ⟨by show z.1.length ≤ _; omega, h3⟩
 obtain ⟨m1, hg1, hls, st⟩ := st.keepLs (i := 0) rfl (fun _ _ => rfl)
 have hA : AcsM m1 v8 A := ⟨hls, fun a ha => (hao a ha).mono hg1.le⟩
 obtain ⟨aa, ac, rfl⟩ := hA.1.sl
 refine wl_alloc TF.z22 st rfl ?_
 intro b3 w st
 refine wl_store1 (v := .slice aa A.length ac) 0 st rfl TF.t22 rfl rfl rfl (lt_ok rfl) ?_
 intro w st
 obtain ⟨m2, hg2, hm2, st⟩ := st.freeze (i := 0) rfl (by simp)
 have st : St m0 m2 [] w0 w (lgE g b s n sl lv wv S N (stE sb g mb L Es)) := st.perm (List.perm_middle (l₁ := [_, _, _, _])).symm
 refine wl_nil ?_
 refine then_go ?_
 refine wc_seq ?_
 refine wc_region ?_
 refine wl_val (v_mkfunc rfl rfl) rfl ?_
 refine wl_val (v_assign' (by conv => (lhs; whnf))) rfl ?_
 refine wl_nil ?_
 refine then_go ?_
 refine wc_ret ?_
 exact ret1 rfl ⟨b3, m2, _, A, rfl, fun k o h => hg2.le k o (hg1.le k o h), hA.mono hg2.le, hAM, hm2, st⟩
theorem c_sall1 {mA : Mem} {W : World} {l b1 : Nat} {av : Value} {A : List AcT} (J : Nat → World → Prop) (Jx : World → Prop) (him : ∀ i W, J i W → Im mA W)
  (hy : ∀ i W W2 u (hi : i < A.length), J i W → St (heapM W) (heapM W) [] W W2 [byE u A[i].1.data] → YieldR Tryz.prog l [.string (strB A[i].1.key), u] W2 fun v W' => (v = .bool true ∧ J (i + 1) W') ∨ (v = .bool false ∧ Jx W'))
  (hA : AcsM mA av A) (hAl : A.length ≤ 1000000) (hAd : ∀ a ∈ A, a.1.data.length ≤ 1048576) (hJ : J 0 W) (hrd : Reads Tryz.prog W 22 ⟨b1, 0, none⟩ av) :
  Ret Tryz.prog 64 #[.func (.yield l) #[] #[], .pointer (some ⟨b1, 0, none⟩)] W fun _ W' => J A.length W' ∨ Jx W' := by
 obtain ⟨la, lc, rfl⟩ := hA.1.sl
 refine ret_of Tryz.call64 Tryz.func64 rfl Tryz.ntmps64 Tryz.results64 rfl ?_
 refine wc_seq ?_
 refine wc_region ?_
 refine wl_val (v_load rfl hrd) rfl ?_
 refine wl_val (v_len_s Tryz.underlying22 rfl) rfl ?_
 refine wl_val (v_move' (by conv => (lhs; whnf))) rfl ?_
 refine wl_nil ?_
 refine then_go ?_
 refine wc_block ?_
 refine wc_loop (S := Nat) (fun q r w' => ∃ i, q + i = A.length ∧ r 0 = .func (.yield l) #[] #[] ∧ r 5 = .slice la A.length lc ∧ r 6 = .int .i64 A.length ∧ r 7 = .int .i64 i ∧ J i w') id A.length ⟨0, by omega, rfl, rfl, rfl, rfl, hJ⟩ ?_
 rintro q r w ⟨i, hqi, g0, g5, g6, g7, hJ⟩
 refine wc_o 0 g0 (wc_o 5 g5 (wc_o 6 g6 (wc_o 7 g7 ?_)))
 refine wc_seq ?_
 refine wc_region ?_
 refine wl_val (v_lss rfl rfl) rfl ?_
 refine wl_nil ?_
 refine then_go ?_
 refine wc_seq ?_
 refine wc_if rfl (fun h8 => ?_) (fun h8 => ?_)
 ·refine wc_skip ?_
  refine then_go ?_
  refine wc_seq ?_
  refine wc_block ?_
  refine wc_seq ?_
  have hi : i < A.length := by omega
  have st := St.start (im_heapM w)
  obtain ⟨lb, lo, da, dc, hla, hd, hrL, _⟩ := hA.at hi
  subst hla
  have hok : AcOk mA A[i].1 A[i].2 := hA.2 _ (List.getElem_mem hi)
  have hdl := hAd _ (List.getElem_mem hi)
  have hyy := fun W2 u => hy i w W2 u hi
  obtain ⟨x, hx⟩ : ∃ x, x = A[i].1 := ⟨_, rfl⟩
  rw [← hx] at hd hok hdl hyy
  rw [hd] at hok
  have hrX : ∀ {w' : World}, Im mA w' → Reads Tryz.prog w' 57 ⟨lb, lo + i * 3, none⟩ (.agg (acC x (.slice da x.data.length dc)).toArray) := by rw [← hd, hx]; exact hrL
  have hdm : SlM (heapM w) (.slice da x.data.length dc) 1 x.data.length (bs x.data) := hok.data.mono (him i w hJ)
  refine wc_region ?_
  refine wl_val (v_ias i Tryz.underlying22 TF.t57 rfl rfl (by first | rfl | omega) (by first | omega | (dsimp only at *; omega))) rfl ?_
  refine wl_val (v_load rfl (hrX (him i _ hJ))) rfl ?_
  refine wl_alloc TF.z57 st rfl ?_
  intro b4 w st
  refine wl_storeW (cs := (acC x (.slice da x.data.length dc)).toArray) 0 st rfl TF.t57 rfl rfl (by exact Ac.len hok) rfl (by exact Ac.one hok) ?_
  intro w3 st
  refine wl_nil ?_
  refine then_go ?_
  refine wc_seq ?_
  refine wc_drawI TF.mixed ?_
  have st := st.pure (touch_drew _)
  refine fli_val 0 rfl (fun _ => (v_move' (by conv => (lhs; whnf)))) rfl (by kernel_rfl) ?_
  refine fli_val 1 rfl (fun _ => (v_fa TF.f57_0 rfl)) rfl (by kernel_rfl) ?_
  refine fli_ld 2 rfl (v_load rfl (by first | exact st.reads (v := .string (strB x.key)) 0 rfl TF.t9 (Ac.g0_1 hok) | exact st.reads (v := .string (strB x.key)) 1 rfl TF.t9 (Ac.g0_1 hok))) (by kernel_rfl) ?_
  refine fli_val 3 rfl (fun _ => (v_fa TF.f57_2 rfl)) rfl (by kernel_rfl) ?_
  refine fli_ld 4 rfl (v_load rfl (st.reads (v := .slice da x.data.length dc) 0 rfl TF.t23 (Ac.g2_1 hok))) (by kernel_rfl) ?_
  refine fli_eff1 5 [3, 1, 0] [2] (by kernel_rfl) ⟨obl_ld rfl rfl rfl (v_load rfl (st.reads (v := .slice da x.data.length dc) 0 rfl TF.t23 (Ac.g2_1 hok))), obl_ld rfl rfl rfl (v_load rfl (by first | exact st.reads (v := .string (strB x.key)) 0 rfl TF.t9 (Ac.g0_1 hok) | exact st.reads (v := .string (strB x.key)) 1 rfl TF.t9 (Ac.g0_1 hok))), trivial⟩ rfl ?_
  refine wli_call rfl (c_bcloneR st hdm (by omega)) rfl ?_
  intro v16 w4 st
  refine wli_nil ⟨rfl, ?_⟩
  refine fli_eff1 6 [3, 1] [] (by kernel_rfl) ⟨obl_ld rfl rfl rfl (v_load rfl (by first | exact st.reads (v := .string (strB x.key)) 0 rfl TF.t9 (Ac.g0_1 hok) | exact st.reads (v := .string (strB x.key)) 1 rfl TF.t9 (Ac.g0_1 hok))), trivial⟩ rfl ?_
  refine wli_yield rfl rfl (hyy w4 v16 hJ (st.drop 1)) rfl ?_
  intro v17 w5 hR
  obtain ⟨bb, rfl, hR2⟩ : ∃ bb : Bool, v17 = .bool bb ∧ ((bb = true ∧ J (i + 1) w5) ∨ (bb = false ∧ Jx w5)) := by
   rcases hR with ⟨rfl, h⟩ | ⟨rfl, h⟩
   ·exact ⟨true, rfl, .inl ⟨rfl, h⟩⟩
   ·exact ⟨false, rfl, .inr ⟨rfl, h⟩⟩
  refine wli_nil ⟨rfl, ?_⟩
  refine fli_val 7 rfl (fun _ => (v_not rfl)) rfl (by kernel_rfl) ?_
  refine fli_nil (by kernel_rfl) trivial ?_
  refine then_go ?_
  refine wc_cond rfl (fun h18 => ?_) (fun h18 => ?_)
  ·refine wc_ret (block_ret (then_ret (then_ret (block_ret ?_))))
   refine ret0 ?_
   rcases hR2 with ⟨rfl, h⟩ | ⟨rfl, h⟩
   ·cases h18
   ·exact .inr h
  ·refine wc_skip ?_
   refine block_go (then_go ?_)
   refine wc_region ?_
   refine wl_val (v_add' (c := ((i + 1 : Nat) : Int)) rfl rfl (by omega) (by omega) (by omega)) rfl ?_
   refine wl_val (v_move' (by conv => (lhs; whnf))) rfl ?_
   refine wl_nil ?_
   refine then_go ?_
   rcases hR2 with ⟨rfl, h⟩ | ⟨rfl, h⟩
   ·exact ⟨q - 1, by simp; omega, i + 1, by omega, rfl, rfl, rfl, rfl, h⟩
   ·cases h18
 ·refine wc_exit (then_exit (then_exit (block_hit ?_)))
  refine end0 ?_
  have hiA : i = A.length := by omega
  subst hiA
  exact .inl hJ
end
end Go.Proofs.YtladpaehbolghaaGreat

namespace Go.Proofs.YtladpaehbolghaaGreat
open Go Go.RowKit K SH GC JR
abbrev inE (rb : Nat) (bv : Value) (i : Nat) (bad : Bool) : Ent := K.blk rb #[bv, .int .i64 i, .bool bad] 78
theorem add_low {A : UInt64} {c k : Nat} (hA : A.toNat < 2 ^ (7 * k)) (hk : k ≤ 9) (hc : c < 128) (h9 : k = 9 → c ≤ 1) : (A + shl64 (UInt64.ofNat c) (7 * k)).toNat = A.toNat + 2 ^ (7 * k) * c := by
 have h := or_low hA hk hc h9
 have hlt := (A ||| shl64 (UInt64.ofNat c) (7 * k)).toNat_lt
 rw [h.1] at hlt
 have e1 : (UInt64.ofNat c).toNat = c := by rw [UInt64.toNat_ofNat']; omega
 have e2 : (shl64 (UInt64.ofNat c) (7 * k)).toNat = 2 ^ (7 * k) * c := by
  unfold shl64
  rw [UInt64.toNat_ofNat', e1, Nat.mul_comm, Nat.mod_eq_of_lt (by omega)]
 rw [UInt64.toNat_add, e2, Nat.mod_eq_of_lt hlt]
section
variable {m0 m : Mem} {F : List Nat} {w0 w : World} {Es : List Ent}
theorem c_inum {rb i : Nat} {bv : Value} {b : List UInt8} (st : St m0 m F w0 w (inE rb bv i false :: Es)) (hb : SlM m bv 1 b.length (bs b)) (hl : b.length ≤ 1099511627776) (hi : i ≤ b.length) :
  Ret Tryz.prog 67 #[rdP rb] w fun v w' => (∃ n j, i < j ∧ j ≤ b.length ∧ numR 0 (b.drop i) = some (n, b.drop j) ∧ v = u64 (UInt64.ofNat n) ∧ St m0 m F w0 w' (inE rb bv j false :: Es)) ∨ (numR 0 (b.drop i) = none ∧ v = u64 0 ∧ ∃ j, j ≤ b.length ∧ St m0 m F w0 w' (inE rb bv j true :: Es)) := by
 obtain ⟨N0, hN0⟩ : ∃ N0, N0 = numR 0 (b.drop i) := ⟨_, rfl⟩
 rw [← hN0]
 obtain ⟨ba, bc, rfl, hbc⟩ := hb.opn
 refine ret_of Tryz.call67 Tryz.func67 rfl Tryz.ntmps67 Tryz.results67 rfl ?_
 refine wc_seq ?_
 refine wc_region ?_
 refine wl_val (v_assign' (by conv => (lhs; whnf))) rfl ?_
 refine wl_nil ?_
 refine then_go ?_
 refine wc_seq ?_
 refine wc_region ?_
 refine wl_val (v_assign' (by conv => (lhs; whnf))) rfl ?_
 refine wl_nil ?_
 refine then_go ?_
 refine wc_seq ?_
 refine wc_seq ?_
 refine wc_region ?_
 refine wl_val (v_assign' (by conv => (lhs; whnf))) rfl ?_
 refine wl_nil ?_
 refine then_go ?_
 refine wc_block ?_
 refine wc_loop (S := Nat) (fun q r w' => ∃ (k j : Nat) (A : UInt64), q = 10 - k ∧ k ≤ 9 ∧ i ≤ j ∧ j ≤ b.length ∧ A.toNat < 2 ^ (7 * k) ∧ r 0 = rdP rb ∧ r 3 = u64 A ∧ r 4 = .int .i64 k ∧ (N0 = match numR k (b.drop j) with | none => none | some (n, r) => some (A.toNat + 2 ^ (7 * k) * n, r)) ∧ St m0 m F w0 w' (inE rb (.slice ba b.length bc) j false :: Es)) id 10 ⟨0, i, 0, rfl, by omega, Nat.le_refl _, hi, by decide, rfl, rfl, rfl, by rw [hN0]; cases numR 0 (b.drop i) <;> simp, st⟩ ?_
 clear st hN0
 rintro q r w2 ⟨k, j, A, hq, hk, hij, hj, hA, g0, g3, g4, hN, st⟩
 refine wc_o 0 g0 (wc_o 3 g3 (wc_o 4 g4 ?_))
 refine wc_seq ?_
 refine wc_seq ?_
 refine wc_region ?_
 refine wl_val (v_move' (by conv => (lhs; whnf))) rfl ?_
 refine wl_val (v_lss rfl rfl) rfl ?_
 refine wl_nil ?_
 refine then_go ?_
 refine wc_true (congrArg Value.bool (decide_eq_true (by omega))) ?_
 refine wc_skip ?_
 refine then_go ?_
 refine wc_seq ?_
 refine wc_block ?_
 refine wc_seq ?_
 refine wc_seq ?_
 refine wc_draw TF.mixed ?_
 have st := st.pure (touch_drew _)
 refine fl_val 0 rfl (fun _ => (v_move' (by conv => (lhs; whnf)))) rfl (by kernel_rfl) ?_
 refine fl_val 1 rfl (fun _ => (v_nil rfl)) rfl (by kernel_rfl) ?_
 refine fl_val 2 rfl (fun _ => (v_fa TF.f78_2 rfl)) rfl (by kernel_rfl) ?_
 refine fl_ld 3 rfl (v_load rfl (st.reads (v := .bool false) 0 rfl TF.t4 rfl)) (by kernel_rfl) ?_
 refine fl_val 4 rfl (fun _ => (v_move' (by conv => (lhs; whnf)))) rfl (by kernel_rfl) ?_
 refine fl_on 5 rfl rfl rfl rfl (fun _ => (v_move' (by conv => (lhs; whnf)))) rfl (by kernel_rfl) ?_
 refine fl_on 6 rfl rfl rfl rfl (fun _ => (v_nil rfl)) rfl (by kernel_rfl) ?_
 refine fl_on 7 rfl rfl rfl rfl (fun _ => (v_fa TF.f78_1 rfl)) rfl (by kernel_rfl) ?_
 refine fl_ond 8 rfl rfl rfl rfl (v_load rfl (st.reads (v := .int .i64 (j : Int)) 0 rfl TF.t3 rfl)) rfl (by kernel_rfl) ?_
 refine fl_on 9 rfl rfl rfl rfl (fun _ => (v_move' (by conv => (lhs; whnf)))) rfl (by kernel_rfl) ?_
 refine fl_on 10 rfl rfl rfl rfl (fun _ => (v_nil rfl)) rfl (by kernel_rfl) ?_
 refine fl_on 11 rfl rfl rfl rfl (fun _ => (v_fa TF.f78_0 rfl)) rfl (by kernel_rfl) ?_
 refine fl_ond 12 rfl rfl rfl rfl (v_load rfl (st.reads (v := .slice ba b.length bc) 0 rfl TF.t23 rfl)) rfl (by kernel_rfl) ?_
 refine fl_on 13 rfl rfl rfl rfl (fun _ => (v_len_s Tryz.underlying23 rfl)) rfl (by kernel_rfl) ?_
 refine fl_on 14 rfl rfl rfl rfl (fun _ => (v_geq rfl rfl)) rfl (by kernel_rfl) ?_
 refine fl_val 15 rfl (fun _ => (v_pick rfl)) rfl (by kernel_rfl) ?_
 refine fl_nil (by kernel_rfl) ⟨obl_on rfl rfl rfl rfl rfl (v_load rfl (st.reads (v := .slice ba b.length bc) 0 rfl TF.t23 rfl)), obl_on rfl rfl rfl rfl rfl (v_load rfl (st.reads (v := .int .i64 (j : Int)) 0 rfl TF.t3 rfl)), obl_ld rfl rfl rfl (v_load rfl (st.reads (v := .bool false) 0 rfl TF.t4 rfl)), trivial⟩ ?_
 refine then_go ?_
 refine wc_cond rfl (fun h25 => ?_) (fun h25 => ?_)
 ·refine wc_seq ?_
  refine wc_region ?_
  refine wl_val (v_move' (by conv => (lhs; whnf))) rfl ?_
  refine wl_val (v_nil rfl) rfl ?_
  refine wl_val (v_fa TF.f78_2 rfl) rfl ?_
  refine wl_store1 (v := .bool true) 0 st rfl TF.t4 rfl rfl rfl (lt_ok rfl) ?_
  intro w st
  refine wl_nil ?_
  refine then_go ?_
  refine wc_seq ?_
  refine wc_region ?_
  refine wl_val (v_assign' (by conv => (lhs; whnf))) rfl ?_
  refine wl_nil ?_
  refine then_go ?_
  refine wc_ret (then_ret (block_ret (then_ret (then_ret (block_ret (then_ret ?_))))))
  have hjl := of_decide_eq_true h25
  exact ret1 rfl (.inr ⟨by rw [hN, List.drop_eq_nil_of_le (by omega)]; rfl, rfl, j, hj, st⟩)
 ·refine wc_skip ?_
  refine then_go ?_
  refine wc_seq ?_
  have hjl : j < b.length := by have := of_decide_eq_false h25; omega
  obtain ⟨bb, bo, _, hbe, _⟩ := hb.ptr1 (by omega) (by decide)
  simp only [Value.slice.injEq] at hbe
  obtain ⟨hba, _, _⟩ := hbe
  subst hba
  rw [List.drop_eq_getElem_cons hjl, numR_cons] at hN
  obtain ⟨c, hc⟩ : ∃ c, c = b[j] := ⟨_, rfl⟩
  rw [← hc] at hN
  have hc8 := c.toNat_lt
  have hrd : ∀ {w'}, Im m w' → Reads Tryz.prog w' 5 ⟨bb, bo + j * 1, none⟩ (u8 c) := fun him => by rw [hc]; exact SlM.rdB TF.t5 j hb hjl him
  refine wc_draw TF.mixed ?_
  have st := st.pure (touch_drew _)
  refine fl_val 0 rfl (fun _ => (v_move' (by conv => (lhs; whnf)))) rfl (by kernel_rfl) ?_
  refine fl_val 1 rfl (fun _ => (v_nil rfl)) rfl (by kernel_rfl) ?_
  refine fl_val 2 rfl (fun _ => (v_fa TF.f78_0 rfl)) rfl (by kernel_rfl) ?_
  refine fl_ld 3 rfl (v_load rfl (st.reads (v := .slice (some ⟨bb, bo, none⟩) b.length bc) 0 rfl TF.t23 rfl)) (by kernel_rfl) ?_
  refine fl_val 4 rfl (fun _ => (v_move' (by conv => (lhs; whnf)))) rfl (by kernel_rfl) ?_
  refine fl_val 5 rfl (fun _ => (v_nil rfl)) rfl (by kernel_rfl) ?_
  refine fl_val 6 rfl (fun _ => (v_fa TF.f78_1 rfl)) rfl (by kernel_rfl) ?_
  refine fl_ld 7 rfl (v_load rfl (st.reads (v := .int .i64 (j : Int)) 0 rfl TF.t3 rfl)) (by kernel_rfl) ?_
  refine fl_val 8 rfl (fun _ => (v_ias j Tryz.underlying23 TF.t5 rfl rfl (by first | rfl | omega) (by first | omega | (dsimp only at *; omega)))) rfl (by kernel_rfl) ?_
  refine fl_ld 9 rfl (v_load rfl (hrd st.im)) (by kernel_rfl) ?_
  refine fl_eff1 10 [] [] (by kernel_rfl) ⟨obl_ld rfl rfl rfl (v_load rfl (hrd st.im)), obl_ld rfl rfl rfl (v_load rfl (st.reads (v := .int .i64 (j : Int)) 0 rfl TF.t3 rfl)), obl_ld rfl rfl rfl (v_load rfl (st.reads (v := .slice (some ⟨bb, bo, none⟩) b.length bc) 0 rfl TF.t23 rfl)), trivial⟩ rfl ?_
  refine wl_val (v_assign' (by conv => (lhs; whnf))) rfl ?_
  refine wl_nil ⟨rfl, ?_⟩
  refine fl_nil (by kernel_rfl) trivial ?_
  refine then_go ?_
  refine wc_seq ?_
  refine wc_region ?_
  refine wl_val (v_move' (by conv => (lhs; whnf))) rfl ?_
  refine wl_val (v_move' (by conv => (lhs; whnf))) rfl ?_
  refine wl_val (v_nil rfl) rfl ?_
  refine wl_val (v_fa TF.f78_1 rfl) rfl ?_
  refine wl_val (v_load rfl (st.reads (v := .int .i64 (j : Int)) 0 rfl TF.t3 rfl)) rfl ?_
  refine wl_val (v_add' (c := ((j + 1 : Nat) : Int)) rfl rfl (by omega) (by omega) (by omega)) rfl ?_
  refine wl_val (v_nil rfl) rfl ?_
  refine wl_val (v_fa TF.f78_1 rfl) rfl ?_
  refine wl_store1 (v := .int .i64 ((j + 1 : Nat) : Int)) 0 st rfl TF.t3 rfl rfl rfl (lt_ok rfl) ?_
  intro w st
  have st : St m0 m F w0 w (inE rb (.slice (some ⟨bb, bo, none⟩) b.length bc) (j + 1) false :: Es) := st
  refine wl_nil ?_
  refine then_go ?_
  refine wc_cut (fun r w' => ¬ ((k = 9 ∧ 1 < c.toNat) ∨ (0 < k ∧ c.toNat = 0)) ∧ r 0 = rdP rb ∧ r 3 = u64 A ∧ r 4 = .int .i64 k ∧ r 5 = u8 c ∧ St m0 m F w0 w' (inE rb (.slice (some ⟨bb, bo, none⟩) b.length bc) (j + 1) false :: Es)) ?_ ?_
  ·refine wc_seq ?_
   by_cases h9 : k = 9
   ·by_cases hc1 : 1 < c.toNat
    ·refine wc_region ?_
     refine wl_val (v_move' (by conv => (lhs; whnf))) rfl ?_
     refine wl_val (wl_valD (v_eql rfl rfl) (q := true) (decide_eq_true (by omega))) rfl ?_
     refine wl_val (v_move' (by conv => (lhs; whnf))) rfl ?_
     refine wl_on rfl rfl ?_
     refine wl_val (v_move' (by conv => (lhs; whnf))) rfl ?_
     refine wl_on rfl rfl ?_
     refine wl_val (wl_valD (v_gtr (a := (c.toNat : Int)) (b := 1) rfl rfl) (q := true) (decide_eq_true (by omega))) rfl ?_
     refine wl_val (v_pick rfl) rfl ?_
     refine wl_val (v_move' (by conv => (lhs; whnf))) rfl ?_
     refine wl_off rfl rfl rfl rfl ?_
     refine wl_off rfl rfl rfl rfl ?_
     refine wl_off rfl rfl rfl rfl ?_
     refine offU rfl rfl rfl ?_
     refine offU rfl rfl rfl ?_
     refine wl_off rfl rfl rfl rfl ?_
     refine wl_val (v_pick rfl) rfl ?_
     refine wl_nil ?_
     refine then_go ?_
     refine wc_true rfl ?_
     refine wc_seq ?_
     refine wc_region ?_
     refine wl_val (v_move' (by conv => (lhs; whnf))) rfl ?_
     refine wl_val (v_nil rfl) rfl ?_
     refine wl_val (v_fa TF.f78_2 rfl) rfl ?_
     refine wl_store1 (v := .bool true) 0 st rfl TF.t4 rfl rfl rfl (lt_ok rfl) ?_
     intro w st
     refine wl_nil ?_
     refine then_go ?_
     refine wc_seq ?_
     refine wc_region ?_
     refine wl_val (v_assign' (by conv => (lhs; whnf))) rfl ?_
     refine wl_nil ?_
     refine then_go ?_
     refine wc_ret (then_ret (block_ret (then_ret (then_ret (block_ret (then_ret ?_))))))
     exact ret1 rfl (.inr ⟨by rw [hN, if_pos (by omega)], rfl, j + 1, by omega, st⟩)
    ·refine wc_region ?_
     refine wl_val (v_move' (by conv => (lhs; whnf))) rfl ?_
     refine wl_val (wl_valD (v_eql rfl rfl) (q := true) (decide_eq_true (by omega))) rfl ?_
     refine wl_val (v_move' (by conv => (lhs; whnf))) rfl ?_
     refine wl_on rfl rfl ?_
     refine wl_val (v_move' (by conv => (lhs; whnf))) rfl ?_
     refine wl_on rfl rfl ?_
     refine wl_val (wl_valD (v_gtr (a := (c.toNat : Int)) (b := 1) rfl rfl) (q := false) (decide_eq_false (by omega))) rfl ?_
     refine wl_val (v_pick rfl) rfl ?_
     refine wl_val (v_move' (by conv => (lhs; whnf))) rfl ?_
     refine wl_on rfl rfl ?_
     refine wl_val (v_move' (by conv => (lhs; whnf))) rfl ?_
     refine wl_on rfl rfl ?_
     refine wl_val (wl_valD (v_gtr rfl rfl) (q := true) (decide_eq_true (by omega))) rfl ?_
     refine wl_on rfl rfl ?_
     refine wl_val (v_move' (by conv => (lhs; whnf))) rfl ?_
     refine wl_on rfl rfl ?_
     refine wl_val (v_move' (by conv => (lhs; whnf))) rfl ?_
     refine wl_on rfl rfl ?_
     refine wl_val (v_eql (a := (c.toNat : Int)) (b := 0) rfl rfl) rfl ?_
     refine wl_on rfl rfl ?_
     refine wl_val (v_pick rfl) rfl ?_
     refine wl_val (v_pick rfl) rfl ?_
     refine wl_nil ?_
     refine then_go ?_
     refine wc_cond rfl (fun h60 => ?_) (fun h60 => ?_)
     ·refine wc_seq ?_
      refine wc_region ?_
      refine wl_val (v_move' (by conv => (lhs; whnf))) rfl ?_
      refine wl_val (v_nil rfl) rfl ?_
      refine wl_val (v_fa TF.f78_2 rfl) rfl ?_
      refine wl_store1 (v := .bool true) 0 st rfl TF.t4 rfl rfl rfl (lt_ok rfl) ?_
      intro w st
      refine wl_nil ?_
      refine then_go ?_
      refine wc_seq ?_
      refine wc_region ?_
      refine wl_val (v_assign' (by conv => (lhs; whnf))) rfl ?_
      refine wl_nil ?_
      refine then_go ?_
      refine wc_ret (then_ret (block_ret (then_ret (then_ret (block_ret (then_ret ?_))))))
      exact ret1 rfl (.inr ⟨by have := of_decide_eq_true h60; rw [hN, if_pos (by omega)], rfl, j + 1, by omega, st⟩)
     ·refine wc_skip ?_
      refine then_go ?_
      exact ⟨by have := of_decide_eq_false h60; omega, rfl, rfl, rfl, rfl, st⟩
   ·by_cases hk0 : 0 < k
    ·refine wc_region ?_
     refine wl_val (v_move' (by conv => (lhs; whnf))) rfl ?_
     refine wl_val (wl_valD (v_eql rfl rfl) (q := false) (decide_eq_false (by omega))) rfl ?_
     refine wl_val (v_move' (by conv => (lhs; whnf))) rfl ?_
     refine wl_off rfl rfl rfl rfl ?_
     refine wl_off rfl rfl rfl rfl ?_
     refine wl_val (v_pick rfl) rfl ?_
     refine wl_val (v_move' (by conv => (lhs; whnf))) rfl ?_
     refine wl_on rfl rfl ?_
     refine wl_val (v_move' (by conv => (lhs; whnf))) rfl ?_
     refine wl_on rfl rfl ?_
     refine wl_val (wl_valD (v_gtr rfl rfl) (q := true) (decide_eq_true (by omega))) rfl ?_
     refine wl_on rfl rfl ?_
     refine wl_val (v_move' (by conv => (lhs; whnf))) rfl ?_
     refine wl_on rfl rfl ?_
     refine wl_val (v_move' (by conv => (lhs; whnf))) rfl ?_
     refine wl_on rfl rfl ?_
     refine wl_val (v_eql (a := (c.toNat : Int)) (b := 0) rfl rfl) rfl ?_
     refine wl_on rfl rfl ?_
     refine wl_val (v_pick rfl) rfl ?_
     refine wl_val (v_pick rfl) rfl ?_
     refine wl_nil ?_
     refine then_go ?_
     refine wc_cond rfl (fun h60 => ?_) (fun h60 => ?_)
     ·refine wc_seq ?_
      refine wc_region ?_
      refine wl_val (v_move' (by conv => (lhs; whnf))) rfl ?_
      refine wl_val (v_nil rfl) rfl ?_
      refine wl_val (v_fa TF.f78_2 rfl) rfl ?_
      refine wl_store1 (v := .bool true) 0 st rfl TF.t4 rfl rfl rfl (lt_ok rfl) ?_
      intro w st
      refine wl_nil ?_
      refine then_go ?_
      refine wc_seq ?_
      refine wc_region ?_
      refine wl_val (v_assign' (by conv => (lhs; whnf))) rfl ?_
      refine wl_nil ?_
      refine then_go ?_
      refine wc_ret (then_ret (block_ret (then_ret (then_ret (block_ret (then_ret ?_))))))
      exact ret1 rfl (.inr ⟨by have := of_decide_eq_true h60; rw [hN, if_pos (by omega)], rfl, j + 1, by omega, st⟩)
     ·refine wc_skip ?_
      refine then_go ?_
      exact ⟨by have := of_decide_eq_false h60; omega, rfl, rfl, rfl, rfl, st⟩
    ·refine wc_region ?_
     refine wl_val (v_move' (by conv => (lhs; whnf))) rfl ?_
     refine wl_val (wl_valD (v_eql rfl rfl) (q := false) (decide_eq_false (by omega))) rfl ?_
     refine wl_val (v_move' (by conv => (lhs; whnf))) rfl ?_
     refine wl_off rfl rfl rfl rfl ?_
     refine wl_off rfl rfl rfl rfl ?_
     refine wl_val (v_pick rfl) rfl ?_
     refine wl_val (v_move' (by conv => (lhs; whnf))) rfl ?_
     refine wl_on rfl rfl ?_
     refine wl_val (v_move' (by conv => (lhs; whnf))) rfl ?_
     refine wl_on rfl rfl ?_
     refine wl_val (wl_valD (v_gtr rfl rfl) (q := false) (decide_eq_false (by omega))) rfl ?_
     refine wl_on rfl rfl ?_
     refine wl_val (v_move' (by conv => (lhs; whnf))) rfl ?_
     refine wl_off rfl rfl rfl rfl ?_
     refine wl_off rfl rfl rfl rfl ?_
     refine wl_on rfl rfl ?_
     refine wl_val (v_pick rfl) rfl ?_
     refine wl_val (v_pick rfl) rfl ?_
     refine wl_nil ?_
     refine then_go ?_
     refine wc_false rfl ?_
     refine wc_skip ?_
     refine then_go ?_
     exact ⟨by omega, rfl, rfl, rfl, rfl, st⟩
  ·clear st
   rintro r w ⟨hgood, g0, g3, g4, g5, st⟩
   refine wc_o 0 g0 (wc_o 3 g3 (wc_o 4 g4 (wc_o 5 g5 ?_)))
   rw [if_neg hgood] at hN
   have hor := add_low (c := c.toNat % 128) hA hk (by omega) (by omega)
   have hlow := (or_low (c := c.toNat % 128) hA hk (by omega) (by omega)).2
   refine wc_seq ?_
   refine wc_region ?_
   refine wl_val (v_move' (by conv => (lhs; whnf))) rfl ?_
   refine wl_val (v_move' (by conv => (lhs; whnf))) rfl ?_
   refine wl_val (v_rem' (a := (c.toNat : Int)) (b := 128) (c := ((c.toNat % 128 : Nat) : Int)) rfl rfl (by omega) (by omega) (by omega)) rfl ?_
   refine wl_val (v_convi_64 Tryz.underlying5 Tryz.underlying47 rfl) rfl ?_
   refine wl_val (v_move' (by conv => (lhs; whnf))) rfl ?_
   refine wl_val (v_mul' (c := ((7 * k : Nat) : Int)) rfl rfl (by omega) (by omega) (by omega)) rfl ?_
   refine wl_val (v_to (v' := .int .u64 ((7 * k : Nat) : Int)) (v_conv Tryz.underlying3 Tryz.underlying120 rfl) (by rw [wrap_u64_small (by omega)])) rfl ?_
   refine wl_val (v_shl64 (7 * k) rfl rfl (by omega)) rfl ?_
   refine wl_val (v_add64 rfl rfl) rfl ?_
   refine wl_val (v_assign' (by conv => (lhs; whnf))) rfl ?_
   refine wl_nil ?_
   refine then_go ?_
   refine wc_seq ?_
   refine wc_region ?_
   refine wl_val (v_move' (by conv => (lhs; whnf))) rfl ?_
   refine wl_val (v_lss (a := (c.toNat : Int)) (b := 128) rfl rfl) rfl ?_
   refine wl_nil ?_
   refine then_go ?_
   refine wc_cond rfl (fun h74 => ?_) (fun h74 => ?_)
   ·refine wc_seq ?_
    refine wc_region ?_
    refine wl_val (v_move' (by conv => (lhs; whnf))) rfl ?_
    refine wl_val (v_assign' (by conv => (lhs; whnf))) rfl ?_
    refine wl_nil ?_
    refine then_go ?_
    refine wc_ret (block_ret (then_ret (then_ret (block_ret (then_ret ?_)))))
    have h128 : c.toNat < 128 := by have := of_decide_eq_true h74; omega
    rw [if_pos h128] at hN
    have e128 : c.toNat % 128 = c.toNat := Nat.mod_eq_of_lt h128
    have hval : u64 (A + shl64 (UInt64.ofNat (c.toNat % 128)) (7 * k)) = u64 (UInt64.ofNat (A.toNat + 2 ^ (7 * k) * c.toNat)) := by
     rw [e128] at hor ⊢
     rw [← hor, UInt64.ofNat_toNat]
    exact ret1 rfl (.inl ⟨A.toNat + 2 ^ (7 * k) * c.toNat, j + 1, by omega, by omega, hN, hval, st⟩)
   ·refine wc_skip ?_
    refine block_go (then_go ?_)
    refine wc_region ?_
    refine wl_val (v_move' (by conv => (lhs; whnf))) rfl ?_
    refine wl_val (v_add' (c := ((k + 1 : Nat) : Int)) rfl rfl (by omega) (by omega) (by omega)) rfl ?_
    refine wl_val (v_assign' (by conv => (lhs; whnf))) rfl ?_
    refine wl_nil ?_
    refine then_go ?_
    have h128 : ¬ c.toNat < 128 := by have := of_decide_eq_false h74; omega
    have hk9 : k ≠ 9 := by rintro rfl; exact hgood (.inl ⟨rfl, by omega⟩)
    rw [if_neg h128] at hN
    refine ⟨10 - (k + 1), by simp; omega, k + 1, j + 1, _, rfl, by omega, by omega, by omega, ?_, rfl, rfl, rfl, ?_, st⟩
    ·rw [hor]; exact hlow
    ·rw [hN, hor]
     cases numR (k + 1) (b.drop (j + 1)) with
     | none => rfl
     | some p =>
      obtain ⟨n, r⟩ := p
      simp only [Option.some.injEq, Prod.mk.injEq, and_true]
      rw [show 7 * (k + 1) = 7 * k + 7 by omega, Nat.pow_add, Nat.mul_add, Nat.mul_assoc, Nat.add_assoc]
theorem c_inumB {rb i : Nat} {bv : Value} (st : St m0 m F w0 w (inE rb bv i true :: Es)) :
  Ret Tryz.prog 67 #[rdP rb] w fun v w' => v = u64 0 ∧ St m0 m F w0 w' (inE rb bv i true :: Es) := by
 refine ret_of Tryz.call67 Tryz.func67 rfl Tryz.ntmps67 Tryz.results67 rfl ?_
 refine wc_seq ?_
 refine wc_region ?_
 refine wl_val (v_assign' (by conv => (lhs; whnf))) rfl ?_
 refine wl_nil ?_
 refine then_go ?_
 refine wc_seq ?_
 refine wc_region ?_
 refine wl_val (v_assign' (by conv => (lhs; whnf))) rfl ?_
 refine wl_nil ?_
 refine then_go ?_
 refine wc_seq ?_
 refine wc_seq ?_
 refine wc_region ?_
 refine wl_val (v_assign' (by conv => (lhs; whnf))) rfl ?_
 refine wl_nil ?_
 refine then_go ?_
 refine wc_block ?_
 refine wc_loop (S := Nat) (fun q r w' => r 0 = rdP rb ∧ r 4 = .int .i64 0 ∧ St m0 m F w0 w' (inE rb bv i true :: Es)) id 0 ⟨rfl, rfl, st⟩ ?_
 clear st
 rintro q r w2 ⟨g0, g4, st⟩
 refine wc_o 0 g0 (wc_o 4 g4 ?_)
 refine wc_seq ?_
 refine wc_seq ?_
 refine wc_region ?_
 refine wl_val (v_move' (by conv => (lhs; whnf))) rfl ?_
 refine wl_val (v_lss rfl rfl) rfl ?_
 refine wl_nil ?_
 refine then_go ?_
 refine wc_true rfl ?_
 refine wc_skip ?_
 refine then_go ?_
 refine wc_seq ?_
 refine wc_block ?_
 refine wc_seq ?_
 refine wc_seq ?_
 refine wc_draw TF.mixed ?_
 have st := st.pure (touch_drew _)
 refine fl_val 0 rfl (fun _ => (v_move' (by conv => (lhs; whnf)))) rfl (by kernel_rfl) ?_
 refine fl_val 1 rfl (fun _ => (v_nil rfl)) rfl (by kernel_rfl) ?_
 refine fl_val 2 rfl (fun _ => (v_fa TF.f78_2 rfl)) rfl (by kernel_rfl) ?_
 refine fl_ld 3 rfl (v_load rfl (st.reads (v := .bool true) 0 rfl TF.t4 rfl)) (by kernel_rfl) ?_
 refine fl_val 4 rfl (fun _ => (v_move' (by conv => (lhs; whnf)))) rfl (by kernel_rfl) ?_
 refine fl_off 5 rfl rfl rfl rfl rfl rfl (by kernel_rfl) ?_
 refine fl_off 6 rfl rfl rfl rfl rfl rfl (by kernel_rfl) ?_
 refine fl_off 7 rfl rfl rfl rfl rfl rfl (by kernel_rfl) ?_
 refine fl_offd 8 rfl rfl rfl rfl rfl rfl (by kernel_rfl) ?_
 refine fl_off 9 rfl rfl rfl rfl rfl rfl (by kernel_rfl) ?_
 refine fl_off 10 rfl rfl rfl rfl rfl rfl (by kernel_rfl) ?_
 refine fl_off 11 rfl rfl rfl rfl rfl rfl (by kernel_rfl) ?_
 refine fl_offd 12 rfl rfl rfl rfl rfl rfl (by kernel_rfl) ?_
 refine fl_off 13 rfl rfl rfl rfl rfl rfl (by kernel_rfl) ?_
 refine fl_off 14 rfl rfl rfl rfl rfl rfl (by kernel_rfl) ?_
 refine fl_val 15 rfl (fun _ => (v_pick rfl)) rfl (by kernel_rfl) ?_
 refine fl_nil (by kernel_rfl) ⟨obl_off rfl rfl rfl rfl rfl rfl, obl_off rfl rfl rfl rfl rfl rfl, obl_ld rfl rfl rfl (v_load rfl (st.reads (v := .bool true) 0 rfl TF.t4 rfl)), trivial⟩ ?_
 refine then_go ?_
 refine wc_true rfl ?_
 refine wc_seq ?_
 refine wc_region ?_
 refine wl_val (v_move' (by conv => (lhs; whnf))) rfl ?_
 refine wl_val (v_nil rfl) rfl ?_
 refine wl_val (v_fa TF.f78_2 rfl) rfl ?_
 refine wl_store1 (v := .bool true) 0 st rfl TF.t4 rfl rfl rfl (lt_ok rfl) ?_
 intro w st
 refine wl_nil ?_
 refine then_go ?_
 refine wc_seq ?_
 refine wc_region ?_
 refine wl_val (v_assign' (by conv => (lhs; whnf))) rfl ?_
 refine wl_nil ?_
 refine then_go ?_
 refine wc_ret (then_ret (block_ret (then_ret (then_ret (block_ret (then_ret ?_))))))
 exact ret1 rfl ⟨rfl, st⟩
end
end Go.Proofs.YtladpaehbolghaaGreat

namespace Go.Proofs.YtladpaehbolghaaGreat
open Go Go.RowKit K SH GC JR
section
variable {m0 m : Mem} {F : List Nat} {w0 w : World} {Es : List Ent}
theorem c_icount {rb i most : Nat} {bv : Value} {b : List UInt8} (st : St m0 m F w0 w (inE rb bv i false :: Es)) (hb : SlM m bv 1 b.length (bs b)) (hl : b.length ≤ 1099511627776) (hi : i ≤ b.length) (hm : most ≤ 1099511627776) :
  Ret Tryz.prog 40 #[rdP rb, .int .i64 most] w fun v w' => (∃ n j, i < j ∧ j ≤ b.length ∧ n ≤ most ∧ cntR most (b.drop i) = some (n, b.drop j) ∧ v = .int .i64 n ∧ St m0 m F w0 w' (inE rb bv j false :: Es)) ∨ (cntR most (b.drop i) = none ∧ v = .int .i64 (0 : Nat) ∧ ∃ j, j ≤ b.length ∧ St m0 m F w0 w' (inE rb bv j true :: Es)) := by
 refine ret_of Tryz.call40 Tryz.func40 rfl Tryz.ntmps40 Tryz.results40 rfl ?_
 refine wc_seq ?_
 refine wc_region ?_
 refine wl_val (v_assign' (by conv => (lhs; whnf))) rfl ?_
 refine wl_nil ?_
 refine then_go ?_
 refine wc_seq ?_
 refine wc_region ?_
 refine wl_val (v_move' (by conv => (lhs; whnf))) rfl ?_
 refine wl_call rfl (c_inum st hb hl hi) rfl ?_
 rintro v7 w h7
 refine wl_val (v_assign' (by conv => (lhs; whnf))) rfl ?_
 refine wl_nil ?_
 refine then_go ?_
 refine wc_seq ?_
 refine wc_seq ?_
 rcases h7 with ⟨n, j, hij, hj, hn, rfl, st⟩ | ⟨hn, rfl, j, hj, st⟩
 ·have hc := cntR_some (most := most) hn
  have hn64 := (numR_lt (by omega) hn).1
  have hn64 : n < 18446744073709551616 := hn64
  refine wc_region ?_
  refine wl_val (v_move' (by conv => (lhs; whnf))) rfl ?_
  refine wl_val (v_nil rfl) rfl ?_
  refine wl_val (v_fa TF.f78_2 rfl) rfl ?_
  refine wl_val (v_load rfl (st.reads (v := .bool false) 0 rfl TF.t4 rfl)) rfl ?_
  refine wl_val (v_move' (by conv => (lhs; whnf))) rfl ?_
  refine wl_on rfl rfl ?_
  refine wl_val (v_move' (by conv => (lhs; whnf))) rfl ?_
  refine wl_on rfl rfl ?_
  refine wl_val (v_move' (by conv => (lhs; whnf))) rfl ?_
  refine wl_on rfl rfl ?_
  refine wl_val (v_convi_64 Tryz.underlying3 Tryz.underlying47 rfl) rfl ?_
  refine wl_on rfl rfl ?_
  refine wl_val (wl_valD (v_gtr (a := ((UInt64.ofNat n).toNat : Int)) (b := ((UInt64.ofNat most).toNat : Int)) rfl rfl) (q := decide (most < n)) (by rw [UInt64.toNat_ofNat', UInt64.toNat_ofNat', Nat.mod_eq_of_lt hn64, Nat.mod_eq_of_lt (by omega)]; simp)) rfl ?_
  refine wl_val (v_pick rfl) rfl ?_
  refine wl_nil ?_
  refine then_go ?_
  refine wc_cond rfl (fun h17 => ?_) (fun h17 => ?_)
  ·refine wc_seq ?_
   refine wc_region ?_
   refine wl_val (v_move' (by conv => (lhs; whnf))) rfl ?_
   refine wl_val (v_nil rfl) rfl ?_
   refine wl_val (v_fa TF.f78_2 rfl) rfl ?_
   refine wl_store1 (v := .bool true) 0 st rfl TF.t4 rfl rfl rfl (lt_ok rfl) ?_
   intro w st
   refine wl_nil ?_
   refine then_go ?_
   refine wc_seq ?_
   refine wc_region ?_
   refine wl_val (v_assign' (by conv => (lhs; whnf))) rfl ?_
   refine wl_nil ?_
   refine then_go ?_
   refine wc_ret (then_ret ?_)
   exact ret1 rfl (.inr ⟨by rw [hc, if_pos (of_decide_eq_true h17)], rfl, j, hj, st⟩)
  ·refine wc_skip ?_
   refine then_go ?_
   refine wc_seq ?_
   have hnm : n ≤ most := by have := of_decide_eq_false h17; omega
   rw [if_neg (by omega)] at hc
   refine wc_region ?_
   refine wl_val (v_move' (by conv => (lhs; whnf))) rfl ?_
   refine wl_val (v_to (v' := .int .i64 (n : Int)) (v_conv64i Tryz.underlying47 Tryz.underlying3 rfl (by rw [UInt64.toNat_ofNat', Nat.mod_eq_of_lt hn64]; omega)) (by rw [UInt64.toNat_ofNat', Nat.mod_eq_of_lt hn64])) rfl ?_
   refine wl_val (v_assign' (by conv => (lhs; whnf))) rfl ?_
   refine wl_nil ?_
   refine then_go ?_
   refine wc_ret ?_
   exact ret1 rfl (.inl ⟨n, j, hij, hj, hnm, hc, rfl, st⟩)
 ·refine wc_region ?_
  refine wl_val (v_move' (by conv => (lhs; whnf))) rfl ?_
  refine wl_val (v_nil rfl) rfl ?_
  refine wl_val (v_fa TF.f78_2 rfl) rfl ?_
  refine wl_val (v_load rfl (st.reads (v := .bool true) 0 rfl TF.t4 rfl)) rfl ?_
  refine wl_val (v_move' (by conv => (lhs; whnf))) rfl ?_
  refine wl_off rfl rfl rfl rfl ?_
  refine wl_off rfl rfl rfl rfl ?_
  refine wl_off rfl rfl rfl rfl ?_
  refine wl_off rfl rfl rfl rfl ?_
  refine wl_val (v_pick rfl) rfl ?_
  refine wl_nil ?_
  refine then_go ?_
  refine wc_true rfl ?_
  refine wc_seq ?_
  refine wc_region ?_
  refine wl_val (v_move' (by conv => (lhs; whnf))) rfl ?_
  refine wl_val (v_nil rfl) rfl ?_
  refine wl_val (v_fa TF.f78_2 rfl) rfl ?_
  refine wl_store1 (v := .bool true) 0 st rfl TF.t4 rfl rfl rfl (lt_ok rfl) ?_
  intro w st
  refine wl_nil ?_
  refine then_go ?_
  refine wc_seq ?_
  refine wc_region ?_
  refine wl_val (v_assign' (by conv => (lhs; whnf))) rfl ?_
  refine wl_nil ?_
  refine then_go ?_
  refine wc_ret (then_ret ?_)
  exact ret1 rfl (.inr ⟨cntR_none hn, rfl, j, hj, st⟩)
theorem c_icountB {rb i most : Nat} {bv : Value} (st : St m0 m F w0 w (inE rb bv i true :: Es)) :
  Ret Tryz.prog 40 #[rdP rb, .int .i64 most] w fun v w' => v = .int .i64 (0 : Nat) ∧ St m0 m F w0 w' (inE rb bv i true :: Es) := by
 refine ret_of Tryz.call40 Tryz.func40 rfl Tryz.ntmps40 Tryz.results40 rfl ?_
 refine wc_seq ?_
 refine wc_region ?_
 refine wl_val (v_assign' (by conv => (lhs; whnf))) rfl ?_
 refine wl_nil ?_
 refine then_go ?_
 refine wc_seq ?_
 refine wc_region ?_
 refine wl_val (v_move' (by conv => (lhs; whnf))) rfl ?_
 refine wl_call rfl (c_inumB st) rfl ?_
 rintro v7 w ⟨rfl, st⟩
 refine wl_val (v_assign' (by conv => (lhs; whnf))) rfl ?_
 refine wl_nil ?_
 refine then_go ?_
 refine wc_seq ?_
 refine wc_seq ?_
 refine wc_region ?_
 refine wl_val (v_move' (by conv => (lhs; whnf))) rfl ?_
 refine wl_val (v_nil rfl) rfl ?_
 refine wl_val (v_fa TF.f78_2 rfl) rfl ?_
 refine wl_val (v_load rfl (st.reads (v := .bool true) 0 rfl TF.t4 rfl)) rfl ?_
 refine wl_val (v_move' (by conv => (lhs; whnf))) rfl ?_
 refine wl_off rfl rfl rfl rfl ?_
 refine wl_off rfl rfl rfl rfl ?_
 refine wl_off rfl rfl rfl rfl ?_
 refine wl_off rfl rfl rfl rfl ?_
 refine wl_val (v_pick rfl) rfl ?_
 refine wl_nil ?_
 refine then_go ?_
 refine wc_true rfl ?_
 refine wc_seq ?_
 refine wc_region ?_
 refine wl_val (v_move' (by conv => (lhs; whnf))) rfl ?_
 refine wl_val (v_nil rfl) rfl ?_
 refine wl_val (v_fa TF.f78_2 rfl) rfl ?_
 refine wl_store1 (v := .bool true) 0 st rfl TF.t4 rfl rfl rfl (lt_ok rfl) ?_
 intro w st
 refine wl_nil ?_
 refine then_go ?_
 refine wc_seq ?_
 refine wc_region ?_
 refine wl_val (v_assign' (by conv => (lhs; whnf))) rfl ?_
 refine wl_nil ?_
 refine then_go ?_
 refine wc_ret (then_ret ?_)
 exact ret1 rfl ⟨rfl, st⟩
theorem c_itake {rb j n : Nat} {bv : Value} {b : List UInt8} (st : St m0 m [] w0 w (inE rb bv j false :: Es)) (hb : SlM m bv 1 b.length (bs b)) (hl : b.length ≤ 1099511627776) (hj : j ≤ b.length) (hn : n ≤ 1099511627776) :
  Ret Tryz.prog 68 #[rdP rb, .int .i64 n] w fun v w' => (∃ m', (∀ k o, m k = some o → m' k = some o) ∧ j + n ≤ b.length ∧ takeR n (b.drop j) = some ((b.drop j).take n, b.drop (j + n)) ∧ SlM m' v 1 ((b.drop j).take n).length (bs ((b.drop j).take n)) ∧ St m0 m' [] w0 w' (inE rb bv (j + n) false :: Es)) ∨ (takeR n (b.drop j) = none ∧ v = .slice none 0 0 ∧ St m0 m [] w0 w' (inE rb bv j true :: Es)) := by
 obtain ⟨ba, bc, rfl, hbc⟩ := hb.opn
 refine ret_of Tryz.call68 Tryz.func68 rfl Tryz.ntmps68 Tryz.results68 rfl ?_
 refine wc_seq ?_
 refine wc_region ?_
 refine wl_val (v_assign' (by conv => (lhs; whnf))) rfl ?_
 refine wl_nil ?_
 refine then_go ?_
 refine wc_seq ?_
 refine wc_seq ?_
 refine wc_draw TF.mixed ?_
 have st := st.pure (touch_drew _)
 refine fl_val 0 rfl (fun _ => (v_move' (by conv => (lhs; whnf)))) rfl (by kernel_rfl) ?_
 refine fl_val 1 rfl (fun _ => (v_nil rfl)) rfl (by kernel_rfl) ?_
 refine fl_val 2 rfl (fun _ => (v_fa TF.f78_2 rfl)) rfl (by kernel_rfl) ?_
 refine fl_ld 3 rfl (v_load rfl (st.reads (v := .bool false) 0 rfl TF.t4 rfl)) (by kernel_rfl) ?_
 refine fl_val 4 rfl (fun _ => (v_move' (by conv => (lhs; whnf)))) rfl (by kernel_rfl) ?_
 refine fl_on 5 rfl rfl rfl rfl (fun _ => (v_move' (by conv => (lhs; whnf)))) rfl (by kernel_rfl) ?_
 refine fl_on 6 rfl rfl rfl rfl (fun _ => (v_move' (by conv => (lhs; whnf)))) rfl (by kernel_rfl) ?_
 refine fl_on 7 rfl rfl rfl rfl (fun _ => (v_nil rfl)) rfl (by kernel_rfl) ?_
 refine fl_on 8 rfl rfl rfl rfl (fun _ => (v_fa TF.f78_0 rfl)) rfl (by kernel_rfl) ?_
 refine fl_ond 9 rfl rfl rfl rfl (v_load rfl (st.reads (v := .slice ba b.length bc) 0 rfl TF.t23 rfl)) rfl (by kernel_rfl) ?_
 refine fl_on 10 rfl rfl rfl rfl (fun _ => (v_len_s Tryz.underlying23 rfl)) rfl (by kernel_rfl) ?_
 refine fl_on 11 rfl rfl rfl rfl (fun _ => (v_move' (by conv => (lhs; whnf)))) rfl (by kernel_rfl) ?_
 refine fl_on 12 rfl rfl rfl rfl (fun _ => (v_nil rfl)) rfl (by kernel_rfl) ?_
 refine fl_on 13 rfl rfl rfl rfl (fun _ => (v_fa TF.f78_1 rfl)) rfl (by kernel_rfl) ?_
 refine fl_ond 14 rfl rfl rfl rfl (v_load rfl (st.reads (v := .int .i64 (j : Int)) 0 rfl TF.t3 rfl)) rfl (by kernel_rfl) ?_
 refine fl_on 15 rfl rfl rfl rfl (fun _ => (v_sub' (c := ((b.length - j : Nat) : Int)) rfl rfl (by omega) (by omega) (by omega))) rfl (by kernel_rfl) ?_
 refine fl_on 16 rfl rfl rfl rfl (fun _ => (v_gtr rfl rfl)) rfl (by kernel_rfl) ?_
 refine fl_val 17 rfl (fun _ => (v_pick rfl)) rfl (by kernel_rfl) ?_
 refine fl_nil (by kernel_rfl) ⟨obl_on rfl rfl rfl rfl rfl (v_load rfl (st.reads (v := .int .i64 (j : Int)) 0 rfl TF.t3 rfl)), obl_on rfl rfl rfl rfl rfl (v_load rfl (st.reads (v := .slice ba b.length bc) 0 rfl TF.t23 rfl)), obl_ld rfl rfl rfl (v_load rfl (st.reads (v := .bool false) 0 rfl TF.t4 rfl)), trivial⟩ ?_
 refine then_go ?_
 refine wc_cond rfl (fun h23 => ?_) (fun h23 => ?_)
 ·refine wc_seq ?_
  refine wc_region ?_
  refine wl_val (v_move' (by conv => (lhs; whnf))) rfl ?_
  refine wl_val (v_nil rfl) rfl ?_
  refine wl_val (v_fa TF.f78_2 rfl) rfl ?_
  refine wl_store1 (v := .bool true) 0 st rfl TF.t4 rfl rfl rfl (lt_ok rfl) ?_
  intro w st
  refine wl_nil ?_
  refine then_go ?_
  refine wc_seq ?_
  refine wc_region ?_
  refine wl_val (v_assign' (by conv => (lhs; whnf))) rfl ?_
  refine wl_nil ?_
  refine then_go ?_
  refine wc_ret (then_ret ?_)
  exact ret1 rfl (.inr ⟨by unfold takeR; rw [if_pos (by have := of_decide_eq_true h23; rw [List.length_drop]; omega)], rfl, st⟩)
 ·refine wc_skip ?_
  refine then_go ?_
  refine wc_seq ?_
  have hnl : j + n ≤ b.length := by have := of_decide_eq_false h23; omega
  have hT : takeR n (b.drop j) = some ((b.drop j).take n, b.drop (j + n)) := by unfold takeR; rw [if_neg (by rw [List.length_drop]; omega), List.drop_drop]
  refine wc_region ?_
  refine wl_val (v_move' (by conv => (lhs; whnf))) rfl ?_
  refine wl_val (v_move' (by conv => (lhs; whnf))) rfl ?_
  refine wl_val (v_nil rfl) rfl ?_
  refine wl_val (v_fa TF.f78_1 rfl) rfl ?_
  refine wl_val (v_load rfl (st.reads (v := .int .i64 (j : Int)) 0 rfl TF.t3 rfl)) rfl ?_
  refine wl_val (v_move' (by conv => (lhs; whnf))) rfl ?_
  refine wl_val (v_add' (c := ((j + n : Nat) : Int)) rfl rfl (by omega) (by omega) (by omega)) rfl ?_
  refine wl_val (v_nil rfl) rfl ?_
  refine wl_val (v_fa TF.f78_1 rfl) rfl ?_
  refine wl_store1 (v := .int .i64 ((j + n : Nat) : Int)) 0 st rfl TF.t3 rfl rfl rfl (lt_ok rfl) ?_
  intro w st
  have st : St m0 m [] w0 w (inE rb (.slice ba b.length bc) (j + n) false :: Es) := st
  refine wl_nil ?_
  refine then_go ?_
  refine wc_seq ?_
  refine wc_region ?_
  refine wl_val (v_assign' (by conv => (lhs; whnf))) rfl ?_
  refine wl_nil ?_
  refine then_go ?_
  refine wc_seq ?_
  have st := nilRow st 5 1
  have st : St m0 m [] w0 w (byE (.slice none 0 0) [] :: inE rb (.slice ba b.length bc) (j + n) false :: Es) := st
  have hpart := hb.partB j (j + n) (by omega) hnl
  have hpe : (b.drop j).take (j + n - j) = (b.drop j).take n := by rw [Nat.add_sub_cancel_left]
  rw [hpe] at hpart
  have htl : ((b.drop j).take n).length = n := by rw [List.length_take, List.length_drop]; omega
  refine wc_draw TF.mixed ?_
  have st := st.pure (touch_drew _)
  refine fl_val 0 rfl (fun _ => (v_move' (by conv => (lhs; whnf)))) rfl (by kernel_rfl) ?_
  refine fl_val 1 rfl (fun _ => (v_move' (by conv => (lhs; whnf)))) rfl (by kernel_rfl) ?_
  refine fl_val 2 rfl (fun _ => (v_nil rfl)) rfl (by kernel_rfl) ?_
  refine fl_val 3 rfl (fun _ => (v_fa TF.f78_0 rfl)) rfl (by kernel_rfl) ?_
  refine fl_ld 4 rfl (v_load rfl (st.reads (v := .slice ba b.length bc) 1 rfl TF.t23 rfl)) (by kernel_rfl) ?_
  refine fl_val 5 rfl (fun _ => (v_move' (by conv => (lhs; whnf)))) rfl (by kernel_rfl) ?_
  refine fl_val 6 rfl (fun _ => (v_nil rfl)) rfl (by kernel_rfl) ?_
  refine fl_val 7 rfl (fun _ => (v_fa TF.f78_1 rfl)) rfl (by kernel_rfl) ?_
  refine fl_ld 8 rfl (v_load rfl (st.reads (v := .int .i64 ((j + n : Nat) : Int)) 1 rfl TF.t3 rfl)) (by kernel_rfl) ?_
  refine fl_val 9 rfl (fun _ => (v_move' (by conv => (lhs; whnf)))) rfl (by kernel_rfl) ?_
  refine fl_val 10 rfl (fun _ => (v_sub' (c := (j : Int)) rfl rfl (by omega) (by omega) (by omega))) rfl (by kernel_rfl) ?_
  refine fl_val 11 rfl (fun _ => (v_move' (by conv => (lhs; whnf)))) rfl (by kernel_rfl) ?_
  refine fl_val 12 rfl (fun _ => (v_nil rfl)) rfl (by kernel_rfl) ?_
  refine fl_val 13 rfl (fun _ => (v_fa TF.f78_1 rfl)) rfl (by kernel_rfl) ?_
  refine fl_ld 14 rfl (v_load rfl (st.reads (v := .int .i64 ((j + n : Nat) : Int)) 1 rfl TF.t3 rfl)) (by kernel_rfl) ?_
  refine fl_val 15 rfl (fun _ => (v_sls j (j + n) Tryz.underlying23 TF.t5 rfl ⟨_, _, rfl, rfl⟩ ⟨_, _, rfl, rfl⟩ (by omega) (by omega))) rfl (by kernel_rfl) ?_
  refine fl_eff1 16 [13, 12, 11, 10, 9, 7, 6, 5, 3, 2, 1] [14, 8, 4] (by kernel_rfl) ⟨obl_ld rfl rfl rfl (v_load rfl (st.reads (v := .int .i64 ((j + n : Nat) : Int)) 1 rfl TF.t3 rfl)), obl_ld rfl rfl rfl (v_load rfl (st.reads (v := .int .i64 ((j + n : Nat) : Int)) 1 rfl TF.t3 rfl)), obl_ld rfl rfl rfl (v_load rfl (st.reads (v := .slice ba b.length bc) 1 rfl TF.t23 rfl)), trivial⟩ rfl ?_
  refine wl_appB (l2 := (b.drop j).take n) st Tryz.underlying23 Tryz.underlying23 (.inr ⟨_, rfl⟩) TF.t5 TF.z5 rfl rfl (hpart.src st.im (one_bs _)) (by simp; omega) (by simp; omega) rfl ?_
  intro v52 w st hv52
  refine wl_nil ⟨rfl, ?_⟩
  refine fl_eff1 17 [] [] (by kernel_rfl) ⟨obl_ld rfl rfl rfl (v_load rfl (st.reads (v := .int .i64 ((j + n : Nat) : Int)) 1 rfl TF.t3 rfl)), obl_ld rfl rfl rfl (v_load rfl (st.reads (v := .int .i64 ((j + n : Nat) : Int)) 1 rfl TF.t3 rfl)), obl_ld rfl rfl rfl (v_load rfl (st.reads (v := .slice ba b.length bc) 1 rfl TF.t23 rfl)), trivial⟩ rfl ?_
  refine wl_val (v_assign' (by conv => (lhs; whnf))) rfl ?_
  refine wl_nil ⟨rfl, ?_⟩
  refine fl_nil (by kernel_rfl) trivial ?_
  refine then_go ?_
  refine wc_ret ?_
  have st0 := st
  obtain ⟨m1, hg1, hm1, st⟩ := st.freezeR (i := 0) rfl (by simp)
  exact ret1 rfl (.inl ⟨m1, hg1.le, hnl, hT, row_SlM (m := m1) (st0.at (i := 0) rfl) hm1, st⟩)
theorem c_itakeB {rb j n : Nat} {bv : Value} (st : St m0 m F w0 w (inE rb bv j true :: Es)) :
  Ret Tryz.prog 68 #[rdP rb, .int .i64 n] w fun v w' => v = .slice none 0 0 ∧ St m0 m F w0 w' (inE rb bv j true :: Es) := by
 refine ret_of Tryz.call68 Tryz.func68 rfl Tryz.ntmps68 Tryz.results68 rfl ?_
 refine wc_seq ?_
 refine wc_region ?_
 refine wl_val (v_assign' (by conv => (lhs; whnf))) rfl ?_
 refine wl_nil ?_
 refine then_go ?_
 refine wc_seq ?_
 refine wc_seq ?_
 refine wc_draw TF.mixed ?_
 have st := st.pure (touch_drew _)
 refine fl_val 0 rfl (fun _ => (v_move' (by conv => (lhs; whnf)))) rfl (by kernel_rfl) ?_
 refine fl_val 1 rfl (fun _ => (v_nil rfl)) rfl (by kernel_rfl) ?_
 refine fl_val 2 rfl (fun _ => (v_fa TF.f78_2 rfl)) rfl (by kernel_rfl) ?_
 refine fl_ld 3 rfl (v_load rfl (st.reads (v := .bool true) 0 rfl TF.t4 rfl)) (by kernel_rfl) ?_
 refine fl_val 4 rfl (fun _ => (v_move' (by conv => (lhs; whnf)))) rfl (by kernel_rfl) ?_
 refine fl_off 5 rfl rfl rfl rfl rfl rfl (by kernel_rfl) ?_
 refine fl_off 6 rfl rfl rfl rfl rfl rfl (by kernel_rfl) ?_
 refine fl_off 7 rfl rfl rfl rfl rfl rfl (by kernel_rfl) ?_
 refine fl_off 8 rfl rfl rfl rfl rfl rfl (by kernel_rfl) ?_
 refine fl_offd 9 rfl rfl rfl rfl rfl rfl (by kernel_rfl) ?_
 refine fl_off 10 rfl rfl rfl rfl rfl rfl (by kernel_rfl) ?_
 refine fl_off 11 rfl rfl rfl rfl rfl rfl (by kernel_rfl) ?_
 refine fl_off 12 rfl rfl rfl rfl rfl rfl (by kernel_rfl) ?_
 refine fl_off 13 rfl rfl rfl rfl rfl rfl (by kernel_rfl) ?_
 refine fl_offd 14 rfl rfl rfl rfl rfl rfl (by kernel_rfl) ?_
 refine fl_off 15 rfl rfl rfl rfl rfl rfl (by kernel_rfl) ?_
 refine fl_off 16 rfl rfl rfl rfl rfl rfl (by kernel_rfl) ?_
 refine fl_val 17 rfl (fun _ => (v_pick rfl)) rfl (by kernel_rfl) ?_
 refine fl_nil (by kernel_rfl) ⟨obl_off rfl rfl rfl rfl rfl rfl, obl_off rfl rfl rfl rfl rfl rfl, obl_ld rfl rfl rfl (v_load rfl (st.reads (v := .bool true) 0 rfl TF.t4 rfl)), trivial⟩ ?_
 refine then_go ?_
 refine wc_true rfl ?_
 refine wc_seq ?_
 refine wc_region ?_
 refine wl_val (v_move' (by conv => (lhs; whnf))) rfl ?_
 refine wl_val (v_nil rfl) rfl ?_
 refine wl_val (v_fa TF.f78_2 rfl) rfl ?_
 refine wl_store1 (v := .bool true) 0 st rfl TF.t4 rfl rfl rfl (lt_ok rfl) ?_
 intro w st
 refine wl_nil ?_
 refine then_go ?_
 refine wc_seq ?_
 refine wc_region ?_
 refine wl_val (v_assign' (by conv => (lhs; whnf))) rfl ?_
 refine wl_nil ?_
 refine then_go ?_
 refine wc_ret (then_ret ?_)
 exact ret1 rfl ⟨rfl, st⟩
theorem c_itext {rb i : Nat} {bv : Value} {b : List UInt8} (st : St m0 m [] w0 w (inE rb bv i false :: Es)) (hb : SlM m bv 1 b.length (bs b)) (hl : b.length ≤ 1099511627776) (hi : i ≤ b.length) :
  Ret Tryz.prog 41 #[rdP rb] w fun v w' => (∃ m' t j, (∀ k o, m k = some o → m' k = some o) ∧ i < j ∧ j ≤ b.length ∧ txtR (b.drop i) = some (t, b.drop j) ∧ SlM m' v 1 t.length (bs t) ∧ St m0 m' [] w0 w' (inE rb bv j false :: Es)) ∨ (txtR (b.drop i) = none ∧ v = .slice none 0 0 ∧ ∃ j, j ≤ b.length ∧ St m0 m [] w0 w' (inE rb bv j true :: Es)) := by
 refine ret_of Tryz.call41 Tryz.func41 rfl Tryz.ntmps41 Tryz.results41 rfl ?_
 refine wc_seq ?_
 refine wc_region ?_
 refine wl_val (v_assign' (by conv => (lhs; whnf))) rfl ?_
 refine wl_nil ?_
 refine then_go ?_
 refine wc_seq ?_
 refine wc_region ?_
 refine wl_val (v_move' (by conv => (lhs; whnf))) rfl ?_
 refine wl_val (v_move' (by conv => (lhs; whnf))) rfl ?_
 refine wl_call rfl (c_icount (most := 1048576) st hb hl hi (by decide)) rfl ?_
 rintro v5 w h5
 have key : Ret Tryz.prog 68 #[rdP rb, v5] w fun v w' => (∃ m' t j, (∀ k o, m k = some o → m' k = some o) ∧ i < j ∧ j ≤ b.length ∧ txtR (b.drop i) = some (t, b.drop j) ∧ SlM m' v 1 t.length (bs t) ∧ St m0 m' [] w0 w' (inE rb bv j false :: Es)) ∨ (txtR (b.drop i) = none ∧ v = .slice none 0 0 ∧ ∃ j, j ≤ b.length ∧ St m0 m [] w0 w' (inE rb bv j true :: Es)) := by
  rcases h5 with ⟨n, j, hij, hj, hnm, hc, rfl, st⟩ | ⟨hc, rfl, j, hj, st⟩
  ·have hT : txtR (b.drop i) = takeR n (b.drop j) := by unfold txtR; rw [hc]
   refine (c_itake st hb hl hj (by omega)).mono fun v w' h => ?_
   rw [hT]
   rcases h with ⟨m', hmm, hjn, ht, hs, st⟩ | ⟨ht, hv, st⟩
   ·exact .inl ⟨m', _, j + n, hmm, by omega, hjn, ht, hs, st⟩
   ·exact .inr ⟨ht, hv, j, hj, st⟩
  ·refine (c_itakeB (n := 0) st).mono fun v w' h => ?_
   exact .inr ⟨by unfold txtR; rw [hc], h.1, j, hj, h.2⟩
 refine wl_call rfl key rfl ?_
 rintro v6 w h6
 refine wl_val (v_assign' (by conv => (lhs; whnf))) rfl ?_
 refine wl_nil ?_
 refine then_go ?_
 refine wc_ret ?_
 exact ret1 rfl h6
theorem c_itextB {rb i : Nat} {bv : Value} (st : St m0 m F w0 w (inE rb bv i true :: Es)) :
  Ret Tryz.prog 41 #[rdP rb] w fun v w' => v = .slice none 0 0 ∧ St m0 m F w0 w' (inE rb bv i true :: Es) := by
 refine ret_of Tryz.call41 Tryz.func41 rfl Tryz.ntmps41 Tryz.results41 rfl ?_
 refine wc_seq ?_
 refine wc_region ?_
 refine wl_val (v_assign' (by conv => (lhs; whnf))) rfl ?_
 refine wl_nil ?_
 refine then_go ?_
 refine wc_seq ?_
 refine wc_region ?_
 refine wl_val (v_move' (by conv => (lhs; whnf))) rfl ?_
 refine wl_val (v_move' (by conv => (lhs; whnf))) rfl ?_
 refine wl_call rfl (c_icountB (most := 1048576) st) rfl ?_
 rintro v5 w ⟨rfl, st⟩
 refine wl_call rfl (c_itakeB (n := 0) st) rfl ?_
 rintro v6 w ⟨rfl, st⟩
 refine wl_val (v_assign' (by conv => (lhs; whnf))) rfl ?_
 refine wl_nil ?_
 refine then_go ?_
 refine wc_ret ?_
 exact ret1 rfl ⟨rfl, st⟩
theorem c_idone {rb i : Nat} {bad : Bool} {bv : Value} {b : List UInt8} (st : St m0 m F w0 w (inE rb bv i bad :: Es)) (hb : SlM m bv 1 b.length (bs b)) :
  Ret Tryz.prog 42 #[rdP rb] w fun v w' => v = .bool (decide (bad = false ∧ i = b.length)) ∧ St m0 m F w0 w' (inE rb bv i bad :: Es) := by
 obtain ⟨ba, bc, rfl, hbc⟩ := hb.opn
 refine ret_of Tryz.call42 Tryz.func42 rfl Tryz.ntmps42 Tryz.results42 rfl ?_
 refine wc_seq ?_
 refine wc_region ?_
 refine wl_val (v_assign' (by conv => (lhs; whnf))) rfl ?_
 refine wl_nil ?_
 refine then_go ?_
 refine wc_seq ?_
 rcases Bool.eq_false_or_eq_true bad with rfl | rfl
 ·refine wc_draw TF.mixed ?_
  have st := st.pure (touch_drew _)
  refine fl_val 0 rfl (fun _ => (v_move' (by conv => (lhs; whnf)))) rfl (by kernel_rfl) ?_
  refine fl_val 1 rfl (fun _ => (v_nil rfl)) rfl (by kernel_rfl) ?_
  refine fl_val 2 rfl (fun _ => (v_fa TF.f78_2 rfl)) rfl (by kernel_rfl) ?_
  refine fl_ld 3 rfl (v_load rfl (st.reads (v := .bool true) 0 rfl TF.t4 rfl)) (by kernel_rfl) ?_
  refine fl_val 4 rfl (fun _ => (v_not rfl)) rfl (by kernel_rfl) ?_
  refine fl_val 5 rfl (fun _ => (v_move' (by conv => (lhs; whnf)))) rfl (by kernel_rfl) ?_
  refine fl_off 6 rfl rfl rfl rfl rfl rfl (by kernel_rfl) ?_
  refine fl_off 7 rfl rfl rfl rfl rfl rfl (by kernel_rfl) ?_
  refine fl_off 8 rfl rfl rfl rfl rfl rfl (by kernel_rfl) ?_
  refine fl_offd 9 rfl rfl rfl rfl rfl rfl (by kernel_rfl) ?_
  refine fl_off 10 rfl rfl rfl rfl rfl rfl (by kernel_rfl) ?_
  refine fl_off 11 rfl rfl rfl rfl rfl rfl (by kernel_rfl) ?_
  refine fl_off 12 rfl rfl rfl rfl rfl rfl (by kernel_rfl) ?_
  refine fl_offd 13 rfl rfl rfl rfl rfl rfl (by kernel_rfl) ?_
  refine fl_off 14 rfl rfl rfl rfl rfl rfl (by kernel_rfl) ?_
  refine fl_off 15 rfl rfl rfl rfl rfl rfl (by kernel_rfl) ?_
  refine fl_val 16 rfl (fun _ => (v_pick rfl)) rfl (by kernel_rfl) ?_
  refine fl_eff1 17 [] [] (by kernel_rfl) ⟨obl_off rfl rfl rfl rfl rfl rfl, obl_off rfl rfl rfl rfl rfl rfl, obl_ld rfl rfl rfl (v_load rfl (st.reads (v := .bool true) 0 rfl TF.t4 rfl)), trivial⟩ rfl ?_
  refine wl_val (v_assign' (by conv => (lhs; whnf))) rfl ?_
  refine wl_nil ⟨rfl, ?_⟩
  refine fl_nil (by kernel_rfl) trivial ?_
  refine then_go ?_
  refine wc_ret ?_
  exact ret1 (v := .bool false) rfl ⟨by simp, st⟩
 ·refine wc_draw TF.mixed ?_
  have st := st.pure (touch_drew _)
  refine fl_val 0 rfl (fun _ => (v_move' (by conv => (lhs; whnf)))) rfl (by kernel_rfl) ?_
  refine fl_val 1 rfl (fun _ => (v_nil rfl)) rfl (by kernel_rfl) ?_
  refine fl_val 2 rfl (fun _ => (v_fa TF.f78_2 rfl)) rfl (by kernel_rfl) ?_
  refine fl_ld 3 rfl (v_load rfl (st.reads (v := .bool false) 0 rfl TF.t4 rfl)) (by kernel_rfl) ?_
  refine fl_val 4 rfl (fun _ => (v_not rfl)) rfl (by kernel_rfl) ?_
  refine fl_val 5 rfl (fun _ => (v_move' (by conv => (lhs; whnf)))) rfl (by kernel_rfl) ?_
  refine fl_on 6 rfl rfl rfl rfl (fun _ => (v_move' (by conv => (lhs; whnf)))) rfl (by kernel_rfl) ?_
  refine fl_on 7 rfl rfl rfl rfl (fun _ => (v_nil rfl)) rfl (by kernel_rfl) ?_
  refine fl_on 8 rfl rfl rfl rfl (fun _ => (v_fa TF.f78_1 rfl)) rfl (by kernel_rfl) ?_
  refine fl_ond 9 rfl rfl rfl rfl (v_load rfl (st.reads (v := .int .i64 (i : Int)) 0 rfl TF.t3 rfl)) rfl (by kernel_rfl) ?_
  refine fl_on 10 rfl rfl rfl rfl (fun _ => (v_move' (by conv => (lhs; whnf)))) rfl (by kernel_rfl) ?_
  refine fl_on 11 rfl rfl rfl rfl (fun _ => (v_nil rfl)) rfl (by kernel_rfl) ?_
  refine fl_on 12 rfl rfl rfl rfl (fun _ => (v_fa TF.f78_0 rfl)) rfl (by kernel_rfl) ?_
  refine fl_ond 13 rfl rfl rfl rfl (v_load rfl (st.reads (v := .slice ba b.length bc) 0 rfl TF.t23 rfl)) rfl (by kernel_rfl) ?_
  refine fl_on 14 rfl rfl rfl rfl (fun _ => (v_len_s Tryz.underlying23 rfl)) rfl (by kernel_rfl) ?_
  refine fl_on 15 rfl rfl rfl rfl (fun _ => (v_eql rfl rfl)) rfl (by kernel_rfl) ?_
  refine fl_val 16 rfl (fun _ => (v_pick rfl)) rfl (by kernel_rfl) ?_
  refine fl_eff1 17 [] [] (by kernel_rfl) ⟨obl_on rfl rfl rfl rfl rfl (v_load rfl (st.reads (v := .slice ba b.length bc) 0 rfl TF.t23 rfl)), obl_on rfl rfl rfl rfl rfl (v_load rfl (st.reads (v := .int .i64 (i : Int)) 0 rfl TF.t3 rfl)), obl_ld rfl rfl rfl (v_load rfl (st.reads (v := .bool false) 0 rfl TF.t4 rfl)), trivial⟩ rfl ?_
  refine wl_val (v_assign' (by conv => (lhs; whnf))) rfl ?_
  refine wl_nil ⟨rfl, ?_⟩
  refine fl_nil (by kernel_rfl) trivial ?_
  refine then_go ?_
  refine wc_ret ?_
  exact ret1 (v := .bool (decide ((i : Int) = (b.length : Int)))) rfl ⟨congrArg Value.bool (decide_eq_decide.2 (by simp; omega)), st⟩
end
end Go.Proofs.YtladpaehbolghaaGreat

namespace Go.Proofs.YtladpaehbolghaaGreat
open Go Go.RowKit K SH GC JR OS
def BatOut (m : Mem) (v : Value) : Option (List Ac) → Prop
 | none => v = .tuple #[.slice none 0 0, .int .i64 (3 : Nat)]
 | some M => ∃ lv L, v = .tuple #[lv, .int .i64 (0 : Nat)] ∧ AcsM m lv L ∧ L.map (·.1) = M
section
open OS
variable {m0 m : Mem} {w0 w : World} {Es : List Ent}
theorem c_readB {bv : Value} {b : List UInt8} (st : St m0 m [] w0 w Es) (hb : SlM m bv 1 b.length (bs b)) (hl : b.length ≤ 1099511627776) :
  Ret Tryz.prog 11 #[bv] w fun v w' => ∃ m', (∀ k o, m k = some o → m' k = some o) ∧ BatOut m' v (batR b) ∧ St m0 m' [] w0 w' Es := by
 refine ret_of Tryz.call11 Tryz.func11 rfl Tryz.ntmps11 Tryz.results11 rfl ?_
 refine wc_seq ?_
 refine wc_region ?_
 refine wl_val (v_assign' (by conv => (lhs; whnf))) rfl ?_
 refine wl_val (v_assign' (by conv => (lhs; whnf))) rfl ?_
 refine wl_nil ?_
 refine then_go ?_
 refine wc_seq ?_
 refine wc_region ?_
 refine wl_alloc TF.z22 st rfl ?_
 intro b4 w st
 refine wl_nil ?_
 refine then_go ?_
 refine wc_seq ?_
 refine wc_region ?_
 refine wl_val (v_move' (by conv => (lhs; whnf))) rfl ?_
 refine wl_val (v_mkfunc rfl rfl) rfl ?_
 have st : St m0 m [] w0 w (gaE b4 (.slice none 0 0) :: Es) := st
 refine wl_call rfl (c_cread (cap := [.pointer (some ⟨b4, 0, none⟩)]) st hb fun rb eb w1 st1 => c_readB1 st1 hb hl) rfl ?_
 intro v8 w h8
 refine wl_val (v_assign' (by conv => (lhs; whnf))) rfl ?_
 refine wl_nil ?_
 refine then_go ?_
 refine wc_seq ?_
 refine wc_seq ?_
 rcases h8 with ⟨m2, j, Es2, ⟨lv, L, n, r, hmm, rfl, hj, hLo, hc, ha, hok⟩, rfl, st⟩ | ⟨m2, Es2, ⟨hn, hmm, rfl⟩, rfl, st⟩
 ·have hbat : batR b = if j = b.length then some (L.map (·.1)) else none := by
   unfold batR
   rw [hc]
   simp only [ha]
   by_cases hjl : j = b.length
   ·rw [if_pos hjl, if_pos ⟨by rw [hjl]; simp, hok⟩]
   ·rw [if_neg hjl, if_neg (fun h => by have := congrArg List.length h.1; rw [List.length_drop, List.length_nil] at this; omega)]
  refine wc_region ?_
  refine wl_val (v_move' (by conv => (lhs; whnf))) rfl ?_
  refine wl_val (wl_valD (v_neq rfl rfl) (q := decide (¬ j = b.length)) (by by_cases h : j = b.length <;> simp [h])) rfl ?_
  refine wl_nil ?_
  refine then_go ?_
  refine wc_cond rfl (fun h10 => ?_) (fun h10 => ?_)
  ·refine wc_seq ?_
   refine wc_region ?_
   refine wl_val (v_move' (by conv => (lhs; whnf))) rfl ?_
   refine wl_val (v_assign' (by conv => (lhs; whnf))) rfl ?_
   refine wl_val (v_assign' (by conv => (lhs; whnf))) rfl ?_
   refine wl_nil ?_
   refine then_go ?_
   refine wc_ret (then_ret ?_)
   have hjl : ¬ j = b.length := of_decide_eq_true h10
   rw [hbat, if_neg hjl]
   rw [if_neg hjl]
   exact ret2 rfl rfl ⟨m2, hmm, rfl, (st.drop 0).drop 0⟩
  ·refine wc_skip ?_
   refine then_go ?_
   refine wc_seq ?_
   refine wc_region ?_
   refine wl_val (v_load rfl (st.reads (v := lv) 0 rfl TF.t22 rfl)) rfl ?_
   refine wl_val (v_assign' (by conv => (lhs; whnf))) rfl ?_
   refine wl_val (v_assign' (by conv => (lhs; whnf))) rfl ?_
   refine wl_nil ?_
   refine then_go ?_
   refine wc_ret ?_
   have hjl : j = b.length := Decidable.not_not.1 (of_decide_eq_false h10)
   rw [hbat, if_pos hjl]
   obtain ⟨m3, hg3, hls, st⟩ := st.keepLs (i := 1) rfl (fun x _ => rfl)
   exact ret2 rfl rfl ⟨m3, fun k o h => hg3.le k o (hmm k o h), ⟨lv, L, rfl, ⟨hls, fun p hp => (hLo p hp).mono hg3.le⟩, rfl⟩, st.drop 0⟩
 ·refine wc_region ?_
  refine wl_val (v_move' (by conv => (lhs; whnf))) rfl ?_
  refine wl_val (wl_valD (v_neq rfl rfl) (q := true) rfl) rfl ?_
  refine wl_nil ?_
  refine then_go ?_
  refine wc_true rfl ?_
  refine wc_seq ?_
  refine wc_region ?_
  refine wl_val (v_move' (by conv => (lhs; whnf))) rfl ?_
  refine wl_val (v_assign' (by conv => (lhs; whnf))) rfl ?_
  refine wl_val (v_assign' (by conv => (lhs; whnf))) rfl ?_
  refine wl_nil ?_
  refine then_go ?_
  refine wc_ret (then_ret ?_)
  rw [hn]
  exact ret2 rfl rfl ⟨m2, hmm, rfl, st⟩
theorem c_itextX {rb i : Nat} {bad : Bool} {bv : Value} {b : List UInt8} (st : St m0 m [] w0 w (inE rb bv i bad :: Es)) (hb : SlM m bv 1 b.length (bs b)) (hl : b.length ≤ 1099511627776) (hi : i ≤ b.length) :
  Ret Tryz.prog 41 #[rdP rb] w fun v w' => ∃ m' t j bad', (∀ k o, m k = some o → m' k = some o) ∧ j ≤ b.length ∧ t.length ≤ 1048576 ∧ SlM m' v 1 t.length (bs t) ∧ (bad' = false → bad = false ∧ txtR (b.drop i) = some (t, b.drop j)) ∧ (bad' = true → bad = true ∨ txtR (b.drop i) = none) ∧ St m0 m' [] w0 w' (inE rb bv j bad' :: Es) := by
 cases bad with
 | true => exact (c_itextB st).mono fun v w' ⟨hv, st⟩ => ⟨m, [], i, true, fun _ _ h => h, hi, by simp, by rw [hv]; exact SlM.nil, (fun h => by cases h), fun _ => .inl rfl, st⟩
 | false =>
  refine (c_itext st hb hl hi).mono fun v w' h => ?_
  rcases h with ⟨m', t, j, hmm, _, hj, ht, hs, st⟩ | ⟨hn, hv, j, hj, st⟩
  ·exact ⟨m', t, j, false, hmm, hj, (txtR_eq ht).2, hs, fun _ => ⟨rfl, ht⟩, (fun h => by cases h), st⟩
  ·exact ⟨m, [], j, true, fun _ _ h => h, hj, by simp, by rw [hv]; exact SlM.nil, (fun h => by cases h), fun _ => .inr hn, st⟩
theorem c_icountX {rb i most : Nat} {bad : Bool} {bv : Value} {b : List UInt8} (st : St m0 m [] w0 w (inE rb bv i bad :: Es)) (hb : SlM m bv 1 b.length (bs b)) (hl : b.length ≤ 1099511627776) (hi : i ≤ b.length) (hm : most ≤ 1099511627776) :
  Ret Tryz.prog 40 #[rdP rb, .int .i64 most] w fun v w' => ∃ n j bad', j ≤ b.length ∧ n ≤ most ∧ v = .int .i64 n ∧ (bad' = false → bad = false ∧ cntR most (b.drop i) = some (n, b.drop j)) ∧ (bad' = true → n = 0 ∧ (bad = true ∨ cntR most (b.drop i) = none)) ∧ St m0 m [] w0 w' (inE rb bv j bad' :: Es) := by
 cases bad with
 | true => exact (c_icountB st).mono fun v w' ⟨hv, st⟩ => ⟨0, i, true, hi, by omega, hv, (fun h => by cases h), fun _ => ⟨rfl, .inl rfl⟩, st⟩
 | false =>
  refine (c_icount st hb hl hi hm).mono fun v w' h => ?_
  rcases h with ⟨n, j, _, hj, hn, hc, hv, st⟩ | ⟨hn, hv, j, hj, st⟩
  ·exact ⟨n, j, false, hj, hn, hv, fun _ => ⟨rfl, hc⟩, (fun h => by cases h), st⟩
  ·exact ⟨0, j, true, hj, by omega, hv, (fun h => by cases h), fun _ => ⟨rfl, .inr hn⟩, st⟩
theorem c_rreadB {wI : World} {bv : Value} {b : List UInt8} (him : Im m wI) (hb : SlM m bv 1 b.length (bs b)) (hl : b.length ≤ 1099511627776) :
  Ret Tryz.prog 12 #[bv] wI fun v w' => Out m wI w' fun m' => BatOut m' v (batR b) := by
 have st := St.start him
 obtain ⟨ba, bc, rfl, hbc⟩ := hb.opn
 have hbat : batR b = (match (match cntR 4096 b with | none => none | some (n, r) => actsR n r) with | none => none | some (l, r) => if r = [] ∧ okL l then some l else none) := by
  unfold batR
  cases cntR 4096 b with
  | none => rfl
  | some q => obtain ⟨n, r⟩ := q; rfl
 obtain ⟨T, hT⟩ : ∃ T, T = (match cntR 4096 b with | none => none | some (n, r) => actsR n r) := ⟨_, rfl⟩
 rw [← hT] at hbat
 refine ret_of Tryz.call12 Tryz.func12 rfl Tryz.ntmps12 Tryz.results12 rfl ?_
 refine wc_seq ?_
 refine wc_region ?_
 refine wl_val (v_assign' (by conv => (lhs; whnf))) rfl ?_
 refine wl_val (v_assign' (by conv => (lhs; whnf))) rfl ?_
 refine wl_nil ?_
 refine then_go ?_
 refine wc_seq ?_
 refine wc_region ?_
 refine wl_val (v_move' (by conv => (lhs; whnf))) rfl ?_
 refine wl_val (v_build (c' := #[.slice ba b.length bc, .int .i64 0, .bool false]) [(0, .slice ba b.length bc)] TF.z78 TF.p78 rfl ⟨0, 1, rfl, rfl, by decide, rfl⟩) rfl ?_
 refine wl_box rfl st rfl ?_
 intro b11 w st
 refine wl_val (v_assign' (by conv => (lhs; whnf))) rfl ?_
 refine wl_nil ?_
 refine then_go ?_
 refine wc_seq ?_
 refine wc_region ?_
 refine wl_val (v_assign' (by conv => (lhs; whnf))) rfl ?_
 refine wl_nil ?_
 refine then_go ?_
 refine wc_seq ?_
 refine wc_region ?_
 refine wl_val (v_move' (by conv => (lhs; whnf))) rfl ?_
 have st : St m m [] wI _ [inE b11 (.slice ba b.length bc) 0 false] := st
 refine wl_call rfl (c_icountX (most := 4096) st hb hl (Nat.zero_le _) (by decide)) rfl ?_
 rintro v13 w2 ⟨n, j, bad, hj, hn4, rfl, hgood, hbad, st⟩
 rw [List.drop_zero] at hgood hbad
 refine wl_val (v_assign' (by conv => (lhs; whnf))) rfl ?_
 refine wl_nil ?_
 refine then_go ?_
 refine wc_seq ?_
 refine wc_seq ?_
 refine wc_region ?_
 refine wl_val (v_assign' (by conv => (lhs; whnf))) rfl ?_
 refine wl_nil ?_
 refine then_go ?_
 refine wc_block ?_
 have st : St m m [] wI _ (acE (.slice none 0 0) [] :: [inE b11 (.slice ba b.length bc) j bad]) := nilRow st 57 3
 have st : St m m [] wI _ [inE b11 (.slice ba b.length bc) j bad, acE (.slice none 0 0) []] := st.perm (List.Perm.swap _ _ _)
 refine wc_loop (S := Nat) (fun q r w' => ∃ (i j : Nat) (bad : Bool) (lv : Value) (L : List AcT) (m' : Mem), q = n - i ∧ i ≤ n ∧ L.length = i ∧ j ≤ b.length ∧ r 4 = rdP b11 ∧ r 5 = lv ∧ r 6 = .int .i64 n ∧ r 7 = .int .i64 i ∧ (∀ k o, m k = some o → m' k = some o) ∧ (∀ p ∈ L, AcOk m' p.1 p.2) ∧ (bad = false → T = match actsR (n - i) (b.drop j) with | none => none | some (l, r) => some (L.map (·.1) ++ l, r)) ∧ (bad = true → T = none) ∧ St m m' [] wI w' [inE b11 (.slice ba b.length bc) j bad, acE lv L]) id n ⟨0, j, bad, _, [], m, rfl, by omega, rfl, hj, rfl, rfl, rfl, rfl, fun _ _ h => h, by simp, (fun h => by rw [hT, (hgood h).2, Nat.sub_zero]; show actsR n (b.drop j) = _; cases actsR n (b.drop j) <;> simp), (fun h => by rcases (hbad h).2 with h2 | h2 <;> first | cases h2 | rw [hT, h2]), st⟩ ?_
 clear st hj hgood hbad
 rintro q r w3 ⟨i, j2, bad, lv, L, m', hqi, hin, hLi, hj, g4, g5, g6, g7, hmm, hLo, hgood, hbad, st⟩
 refine wc_o 4 g4 (wc_o 5 g5 (wc_o 6 g6 (wc_o 7 g7 ?_)))
 have hb := hb.mono hmm
 refine wc_seq ?_
 refine wc_seq ?_
 refine wc_region ?_
 refine wl_val (v_move' (by conv => (lhs; whnf))) rfl ?_
 refine wl_val (v_move' (by conv => (lhs; whnf))) rfl ?_
 refine wl_val (v_lss rfl rfl) rfl ?_
 refine wl_val (v_move' (by conv => (lhs; whnf))) rfl ?_
 refine wl_valg rfl rfl (fun e => (v_move' (by conv => (lhs; whnf)))) rfl ?_
 refine wl_valg rfl rfl (fun e => (v_nil (by first | rfl | exact gx e rfl))) rfl ?_
 refine wl_valg rfl rfl (fun e => (v_fa TF.f78_2 (by first | rfl | exact gx e rfl))) rfl ?_
 refine wl_valg rfl rfl (fun e => (v_load (by first | rfl | exact gx e rfl) (st.reads (v := .bool bad) 0 (by first | rfl | exact gx e rfl) TF.t4 (by first | rfl | exact gx e rfl)))) rfl ?_
 refine wl_valg rfl rfl (fun e => (v_not (by first | rfl | exact gx e rfl))) rfl ?_
 refine wl_val (v_pickA rfl rfl rfl) rfl ?_
 refine wl_nil ?_
 refine then_go ?_
 refine wc_cond rfl (fun h23 => ?_) (fun h23 => ?_)
 ·refine wc_skip ?_
  refine then_go ?_
  refine wc_seq ?_
  refine wc_block ?_
  refine wc_seq ?_
  refine wc_region ?_
  refine wl_val (v_move' (by conv => (lhs; whnf))) rfl ?_
  have h23' : i < n ∧ bad = false := by cases bad <;> simp at h23 ⊢; omega
  obtain ⟨hi, hbf⟩ := h23'
  have hTg := hgood hbf
  rw [show n - i = (n - (i + 1)) + 1 by omega, actsR] at hTg
  refine wl_call rfl (c_itextX st hb hl hj) rfl ?_
  rintro v27 w4 ⟨m1, t, j3, bad3, hm1, hj3, htl, hsl, hg3, hb3, st⟩
  have hb := hb.mono hm1
  refine wl_val (v_b2s Tryz.underlying23 Tryz.underlying5 Tryz.underlying9 st.im hsl rfl) rfl ?_
  refine wl_val (v_build (c' := (acC ⟨t, false, []⟩ (.slice none 0 0)).toArray) [(0, .string (strB t))] TF.z57 TF.p57 rfl ⟨0, 1, rfl, rfl, by decide, rfl⟩) rfl ?_
  refine wl_alloc TF.z57 st rfl ?_
  intro b8 w st
  refine wl_storeW (cs := (acC ⟨t, false, []⟩ (.slice none 0 0)).toArray) 0 st rfl TF.t57 rfl rfl rfl rfl (by intro u hu; simp [acC] at hu; rcases hu with rfl | rfl | rfl <;> rfl) ?_
  intro w5 st
  have st : St m m1 [] wI w5 [inE b11 (.slice ba b.length bc) j3 bad3, K.blk b8 (acC ⟨t, false, []⟩ (.slice none 0 0)).toArray 57, acE lv L] := st.perm (List.Perm.swap _ _ _)
  refine wl_nil ?_
  refine then_go ?_
  refine wc_seq ?_
  refine wc_region ?_
  refine wl_val (v_move' (by conv => (lhs; whnf))) rfl ?_
  refine wl_call rfl (c_icountX (most := 1) st hb hl hj3 (by decide)) rfl ?_
  rintro v31 w6 ⟨s, j4, bad4, hj4, hs1, rfl, hg4, hb4, st⟩
  refine wl_val (wl_valD (v_eql rfl rfl) (q := decide (s = 1)) (decide_eq_decide.2 (by omega))) rfl ?_
  refine wl_val (v_fa TF.f57_1 rfl) rfl ?_
  refine wl_store1 (v := .bool (decide (s = 1))) 1 st rfl TF.t4 rfl rfl rfl (lt_ok rfl) ?_
  intro w7 st
  have st : St m m1 [] wI w7 [inE b11 (.slice ba b.length bc) j4 bad4, K.blk b8 (acC ⟨t, decide (s = 1), []⟩ (.slice none 0 0)).toArray 57, acE lv L] := st
  refine wl_nil ?_
  refine then_go ?_
  refine wc_seq ?_
  refine wc_seq ?_
  refine wc_region ?_
  refine wl_val (v_fa TF.f57_1 rfl) rfl ?_
  refine wl_val (v_load rfl (st.reads (v := .bool (decide (s = 1))) 1 rfl TF.t4 rfl)) rfl ?_
  refine wl_nil ?_
  refine then_go ?_
  refine wc_mid (fun r w' => ∃ (m2 : Mem) (a : Ac) (dv : Value) (j5 : Nat) (bad5 : Bool), j5 ≤ b.length ∧ r 4 = rdP b11 ∧ r 5 = lv ∧ r 6 = .int .i64 n ∧ r 7 = .int .i64 i ∧ r 8 = .pointer (some ⟨b8, 0, none⟩) ∧ (∀ k o, m1 k = some o → m2 k = some o) ∧ AcOk m2 a dv ∧ (bad5 = false → T = match actsR (n - (i + 1)) (b.drop j5) with | none => none | some (l, r) => some (L.map (·.1) ++ a :: l, r)) ∧ (bad5 = true → T = none) ∧ St m m2 [] wI w' [inE b11 (.slice ba b.length bc) j5 bad5, K.blk b8 (acC a dv).toArray 57, acE lv L]) ?_ ?_
  ·refine wc_cond rfl (fun h35 => ?_) (fun h35 => ?_)
   ·refine wc_region ?_
    refine wl_val (v_move' (by conv => (lhs; whnf))) rfl ?_
    have hs : s = 1 := of_decide_eq_true h35
    subst hs
    refine wl_call rfl (c_itextX st hb hl hj4) rfl ?_
    rintro v37 w8 ⟨m2, d, j5, bad5, hm2, hj5, hdl, hsl5, hg5, hb5, st⟩
    refine wl_val (v_fa TF.f57_2 rfl) rfl ?_
    refine wl_store1 (v := v37) 1 st rfl TF.t23 rfl rfl (SlM.one1 hsl5) (lt_ok rfl) ?_
    intro w9 st
    have st : St m m2 [] wI w9 [inE b11 (.slice ba b.length bc) j5 bad5, K.blk b8 (acC ⟨t, true, d⟩ v37).toArray 57, acE lv L] := st
    refine wl_nil ?_
    refine then_go ?_
    refine ⟨m2, ⟨t, true, d⟩, v37, j5, bad5, hj5, rfl, rfl, rfl, rfl, rfl, hm2, ⟨by show t.length ≤ _; omega, hsl5⟩, fun h => ?_, fun h => ?_, st⟩
    ·obtain ⟨e4, hd5⟩ := hg5 h
     obtain ⟨e3, hc4⟩ := hg4 e4
     obtain ⟨_, ht3⟩ := hg3 e3
     rw [hTg]
     unfold actR
     rw [ht3]
     simp only [hc4, if_true, hd5]
     cases actsR (n - (i + 1)) (b.drop j5) <;> rfl
    ·have key : actR (b.drop j2) = none := by
      unfold actR
      rcases Bool.eq_false_or_eq_true bad3 with e3 | e3
      ·rcases hb3 e3 with h3 | h3
       ·rw [hbf] at h3; cases h3
       ·rw [h3]
      ·rw [(hg3 e3).2]
       rcases Bool.eq_false_or_eq_true bad4 with e4 | e4
       ·exact absurd (hb4 e4).1 (by decide)
       ·simp only [(hg4 e4).2, if_true]
        rcases hb5 h with h5 | h5
        ·rw [e4] at h5; cases h5
        ·rw [h5]
     rw [hTg, key]
   ·refine wc_skip ?_
    refine then_go ?_
    have hs : ¬ s = 1 := of_decide_eq_false h35
    rw [decide_eq_false hs] at st
    refine ⟨m1, ⟨t, false, []⟩, .slice none 0 0, j4, bad4, hj4, rfl, rfl, rfl, rfl, rfl, fun _ _ h => h, ⟨by show t.length ≤ _; omega, SlM.nil⟩, fun h => ?_, fun h => ?_, st⟩
    ·obtain ⟨e3, hc4⟩ := hg4 h
     obtain ⟨_, ht3⟩ := hg3 e3
     rw [hTg]
     unfold actR
     rw [ht3]
     simp only [hc4, if_neg hs]
     cases actsR (n - (i + 1)) (b.drop j4) <;> rfl
    ·have key : actR (b.drop j2) = none := by
      unfold actR
      rcases Bool.eq_false_or_eq_true bad3 with e3 | e3
      ·rcases hb3 e3 with h3 | h3
       ·rw [hbf] at h3; cases h3
       ·rw [h3]
      ·rw [(hg3 e3).2]
       rcases (hb4 h).2 with h4 | h4
       ·rw [e3] at h4; cases h4
       ·simp only [h4]
     rw [hTg, key]
  ·clear st
   rintro r w8 ⟨m2, a, dv, j5, bad5, hj5, g4, g5, g6, g7, g8, hm2, hao, hg5, hb5, st⟩
   refine wc_o 4 g4 (wc_o 5 g5 (wc_o 6 g6 (wc_o 7 g7 (wc_o 8 g8 ?_))))
   refine wc_region ?_
   refine wl_val (v_move' (by conv => (lhs; whnf))) rfl ?_
   refine wl_val (v_load rfl (st.reads (v := .agg (acC a dv).toArray) 1 rfl TF.t57 (getV_all (Ac.len hao)))) rfl ?_
   refine wl_lsOne (acC a dv) Tryz.underlying22 TF.t57 TF.z57 (by decide) (by decide) (Ac.len hao) rfl st rfl ?_
   intro b41 w9 st
   refine wl_lsApp (c := acP) (e := (a, dv)) 2 st rfl Tryz.underlying22 TF.t57 TF.z57 rfl rfl (Ac.one hao) rfl rfl (by omega) (by omega) rfl ?_
   intro v42 w10 st hv42
   have st : St m m2 [] wI w10 [inE b11 (.slice ba b.length bc) j5 bad5, acE v42 (L ++ [(a, dv)])] := st.drop 1
   refine wl_val (v_assign' (by conv => (lhs; whnf))) rfl ?_
   refine wl_nil ?_
   refine block_go (then_go ?_)
   refine wc_region ?_
   refine wl_val (v_move' (by conv => (lhs; whnf))) rfl ?_
   refine wl_val (v_add' (c := ((i + 1 : Nat) : Int)) rfl rfl (by omega) (by omega) (by omega)) rfl ?_
   refine wl_val (v_assign' (by conv => (lhs; whnf))) rfl ?_
   refine wl_nil ?_
   refine then_go ?_
   exact ⟨n - (i + 1), by simp; omega, i + 1, j5, bad5, v42, L ++ [(a, dv)], m2, rfl, by omega, by simp [hLi], hj5, rfl, rfl, rfl, rfl, fun k o h => hm2 k o (hm1 k o (hmm k o h)), fun p hp => (List.mem_append.1 hp).elim (fun hp => (hLo p hp).mono fun k o h => hm2 k o (hm1 k o h)) fun hp => by rw [List.mem_singleton.1 hp]; exact hao, fun h => by rw [hg5 h]; simp, hb5, st⟩
 ·refine wc_exit (then_exit (then_exit (block_hit ?_)))
  refine then_go ?_
  refine wc_seq ?_
  refine wc_seq ?_
  by_cases hd : bad = false ∧ j2 = b.length
  ·obtain ⟨hbf, hjl⟩ := hd
   have hTT := hgood hbf
   refine wc_region ?_
   refine wl_val (v_move' (by conv => (lhs; whnf))) rfl ?_
   refine wl_call rfl (c_idone st hb) rfl ?_
   rintro v44 w4 ⟨rfl, st⟩
   refine wl_val (wl_valD (v_not rfl) (q := false) (by simp [hbf, hjl])) rfl ?_
   refine wl_val (v_move' (by conv => (lhs; whnf))) rfl ?_
   refine wl_on rfl rfl ?_
   refine wl_val (v_move' (by conv => (lhs; whnf))) rfl ?_
   have hLM : AcsM (heapM w4) lv L := ⟨st.lsRd 1 rfl (fun x _ => rfl), fun p hp => (hLo p hp).mono st.im⟩
   refine wl_on rfl rfl ?_
   refine wl_call rfl (c_rchk (im_heapM w4) hLM (by omega)) rfl ?_
   rintro v48 w5 ⟨t48, rfl⟩
   have st := st.pure t48
   refine wl_on rfl rfl ?_
   refine wl_val (wl_valD (v_neq rfl rfl) (q := decide (¬ okL (L.map (·.1)))) (by unfold chkL; by_cases h : okL (L.map (·.1)) <;> simp [h])) rfl ?_
   refine wl_val (v_pick rfl) rfl ?_
   refine wl_nil ?_
   refine then_go ?_
   refine wc_cond rfl (fun h50 => ?_) (fun h50 => ?_)
   ·refine wc_seq ?_
    refine wc_region ?_
    refine wl_val (v_assign' (by conv => (lhs; whnf))) rfl ?_
    refine wl_val (v_assign' (by conv => (lhs; whnf))) rfl ?_
    refine wl_nil ?_
    refine then_go ?_
    refine wc_ret (then_ret ?_)
    have hin2 : n - i = 0 := by rw [hbf] at h23; simp at h23; omega
    rw [hin2, actsR] at hTT
    refine ret2 rfl rfl ((st.keepOnly (l := []) (List.nil_sublist _)).out ?_)
    have e : batR b = none := by
     rw [hbat, hTT]
     exact if_neg (fun h => of_decide_eq_true h50 (by simpa using h.2))
    rw [e]
    rfl
   ·refine wc_skip ?_
    refine then_go ?_
    refine wc_seq ?_
    refine wc_region ?_
    refine wl_val (v_move' (by conv => (lhs; whnf))) rfl ?_
    refine wl_val (v_assign' (by conv => (lhs; whnf))) rfl ?_
    refine wl_val (v_assign' (by conv => (lhs; whnf))) rfl ?_
    refine wl_nil ?_
    refine then_go ?_
    refine wc_ret ?_
    have hin2 : n - i = 0 := by rw [hbf] at h23; simp at h23; omega
    rw [hin2, actsR] at hTT
    have hok : okL (L.map (·.1)) := Decidable.not_not.1 (of_decide_eq_false h50)
    obtain ⟨m3, hg3, hls, st⟩ := st.keepLs (i := 1) rfl (fun x _ => rfl)
    refine ret2 rfl rfl ((st.keepOnly (l := []) (List.nil_sublist _)).out ?_)
    have e : batR b = some (L.map (·.1)) := by
     rw [hbat, hTT]
     simp only [List.append_nil]
     exact if_pos ⟨by rw [hjl]; simp, hok⟩
    rw [e]
    exact ⟨lv, L, rfl, ⟨hls, fun p hp => (hLo p hp).mono hg3.le⟩, rfl⟩
  ·refine wc_region ?_
   refine wl_val (v_move' (by conv => (lhs; whnf))) rfl ?_
   refine wl_call rfl (c_idone st hb) rfl ?_
   rintro v44 w4 ⟨rfl, st⟩
   refine wl_val (wl_valD (v_not rfl) (q := true) (by simp [hd])) rfl ?_
   refine wl_val (v_move' (by conv => (lhs; whnf))) rfl ?_
   refine wl_off rfl rfl rfl rfl ?_
   refine wl_off rfl rfl rfl rfl ?_
   refine wl_off rfl rfl rfl rfl ?_
   refine wl_val (v_pick rfl) rfl ?_
   refine wl_nil ?_
   refine then_go ?_
   refine wc_true rfl ?_
   refine wc_seq ?_
   refine wc_region ?_
   refine wl_val (v_assign' (by conv => (lhs; whnf))) rfl ?_
   refine wl_val (v_assign' (by conv => (lhs; whnf))) rfl ?_
   refine wl_nil ?_
   refine then_go ?_
   refine wc_ret (then_ret ?_)
   refine ret2 rfl rfl ((st.keepOnly (l := []) (List.nil_sublist _)).out ?_)
   have e : batR b = none := by
    rcases Bool.eq_false_or_eq_true bad with hb1 | hb1
    ·rw [hbat, hbad hb1]
    ·have hin2 : n - i = 0 := by rw [hb1] at h23; simp at h23; omega
     have hTT := hgood hb1
     rw [hin2, actsR] at hTT
     rw [hbat, hTT]
     exact if_neg (fun h => hd ⟨hb1, by have := congrArg List.length h.1; rw [List.length_drop, List.length_nil] at this; omega⟩)
   rw [e]
   rfl
end
end Go.Proofs.YtladpaehbolghaaGreat

namespace Go.Proofs.YtladpaehbolghaaGreat
open Go Go.RowKit K SH GC JR OS
open DK hiding By
namespace OS
def ofR : Kys → List By → Option Kys
 | M, [] => some M
 | M, x :: R => match batR x with
  | none => none
  | some A => ofR (doneS M A) R
end OS
section
variable {m0 m : Mem} {w0 w : World} {Es : List Ent}
abbrev lgD (g b s n : Nat) (sl : LG) (lv wv : Value) (d : DS) (N : List (By × Value)) (Es : List Ent) : List Ent := logB g b sl lv :: lrE lv N :: diskO b s n wv d :: Es
def SoOutD (m0 m : Mem) (w0 w' : World) (Es : List Ent) (b s n : Nat) (d' : DS) (sl' : LG) (R : List By) (v : Value) : Option Kys → Prop
 | none => v = .tuple #[.pointer none, .int .i64 3] ∧ ∃ m' wv', (∀ k o, m k = some o → m' k = some o) ∧ St m0 m' [] w0 w' (diskO b s n wv' d' :: Es)
 | some M => ∃ g sb mb m' wv' lv' N' L', v = .tuple #[.pointer (some ⟨sb, 0, none⟩), .int .i64 0] ∧ (∀ k o, m k = some o → m' k = some o) ∧ Pcs m' N' ∧ N'.map (·.1) = R ∧ Risen M ∧ KvOk m' L' ∧ M.Perm (kvs L') ∧ St m0 m' [] w0 w' (lgD g b s n sl' lv' wv' d' N' (stE sb g mb L' Es))
theorem c_sopenD {b s n : Nat} {wv : Value} {S : By} {d' : DS} {sl' : LG} {R : List By} (st : St m0 m [] w0 w (diskO b s n wv (calm S) :: Es)) (hl : S.length = 64 * n) (hn : 8 ≤ n) (hn2 : n ≤ 16384) (hO : openD n S = (d', sl', R, 0)) (hRl : ∀ x ∈ R, x.length ≤ 1048576) (hRn : R.length ≤ 1048576) :
  Ret Tryz.prog 27 #[.pointer (some ⟨b, 0, none⟩)] w fun v w' => SoOutD m0 m w0 w' Es b s n d' sl' R v (ofR [] R) := by
 refine ret_of Tryz.call27 Tryz.func27 rfl Tryz.ntmps27 Tryz.results27 rfl ?_
 refine wc_seq ?_
 refine wc_region ?_
 refine wl_val (v_assign' (by conv => (lhs; whnf))) rfl ?_
 refine wl_val (v_assign' (by conv => (lhs; whnf))) rfl ?_
 refine wl_nil ?_
 refine then_go ?_
 refine wc_seq ?_
 refine wc_region ?_
 refine wl_val (v_move' (by conv => (lhs; whnf))) rfl ?_
 refine wl_call rfl (c_open st hl hn hn2 (by rw [hO])) rfl ?_
 rintro v13 w ⟨m1, wv1, g, lv1, N1, hmm1, rfl, hP1, hN1, st⟩
 rw [hO] at st hN1 ⊢
 have hN1 : N1.map (·.1) = R := hN1
 have st : St m0 m1 [] w0 w (logB g b sl' lv1 :: lrE lv1 N1 :: diskO b s n wv1 d' :: Es) := st
 have hNl : ∀ x ∈ N1, x.1.length ≤ 1048576 := fun x hx => hRl x.1 (by rw [← hN1]; exact List.mem_map.2 ⟨x, hx, rfl⟩)
 have hNn : N1.length ≤ 1048576 := by
  have h3 : R.length = N1.length := by rw [← hN1, List.length_map]
  omega
 refine wl_val (v_move' (by conv => (lhs; whnf))) rfl ?_
 refine wl_val (v_extract rfl rfl) rfl ?_
 refine wl_val (v_extract rfl rfl) rfl ?_
 refine wl_val (v_assign' (by conv => (lhs; whnf))) rfl ?_
 refine wl_val (v_assign' (by conv => (lhs; whnf))) rfl ?_
 refine wl_nil ?_
 refine then_go ?_
 refine wc_seq ?_
 refine wc_seq ?_
 refine wc_region ?_
 refine wl_val (v_move' (by conv => (lhs; whnf))) rfl ?_
 refine wl_val (v_neq rfl rfl) rfl ?_
 refine wl_nil ?_
 refine then_go ?_
 refine wc_false rfl ?_
 refine wc_skip ?_
 refine then_go ?_
 refine wc_seq ?_
 refine wc_region ?_
 refine wl_val (v_move' (by conv => (lhs; whnf))) rfl ?_
 refine wl_makeMap strV (fun x : DV => x.2) st rfl ?_
 intro mb w _ st
 refine wl_val (v_build (c' := #[.pointer (some ⟨g, 0, none⟩), .map (some mb)]) [(0, .pointer (some ⟨g, 0, none⟩)), (1, .map (some mb))] TF.z95 TF.p95 rfl (fill_one [] [.pointer none] [.map none] rfl rfl rfl (fill_one [.pointer (some ⟨g, 0, none⟩)] [.map none] [] rfl rfl rfl rfl))) rfl ?_
 refine wl_box (v := .agg #[.pointer (some ⟨g, 0, none⟩), .map (some mb)]) rfl st rfl ?_
 intro sb w st
 have st : St m0 m1 [] w0 w (K.blk sb #[.pointer (some ⟨g, 0, none⟩), .map (some mb)] 95 :: kmE mb [] :: logB g b sl' lv1 :: lrE lv1 N1 :: diskO b s n wv1 d' :: Es) := st
 have st : St m0 m1 [] w0 w (lgD g b s n sl' lv1 wv1 d' N1 (stE sb g mb [] Es)) := st.perm ((List.perm_append_comm (l₁ := [_, _]) (l₂ := [_, _, _])).append_right Es)
 refine wl_val (v_assign' (by conv => (lhs; whnf))) rfl ?_
 refine wl_nil ?_
 refine then_go ?_
 refine wc_seq ?_
 refine wc_seq ?_
 refine wc_region ?_
 refine wl_val (v_move' (by conv => (lhs; whnf))) rfl ?_
 refine wl_call rfl (c_logAll st hP1 hNl hNn) rfl ?_
 rintro v24 w ⟨A, hA, st1⟩
 obtain ⟨m2, hg2, hm2, st2⟩ := st1.freezeR (i := 0) rfl (by simp)
 have hs2 : SlM m2 v24 1 A.length (A.map (·.2)) := row_SlM (m := m2) (st1.at (i := 0) rfl) hm2
 obtain ⟨m3, hmm23, hP3, st⟩ := rows_freeze (A := A) st2
 have st : St m0 m3 [] w0 w (lgD g b s n sl' lv1 wv1 d' N1 (stE sb g mb [] Es)) := st
 have hmm3 : ∀ k o, m1 k = some o → m3 k = some o := fun k o h => hmm23 k o (hg2.le k o h)
 have hPM : PcsM m3 v24 A := ⟨hs2.mono hmm23, hP3⟩
 have hAR : A.map (·.1) = R := hA.trans hN1
 have hAl : A.length = N1.length := by have := congrArg List.length hA; simpa using this
 obtain ⟨va, vc, rfl⟩ : ∃ a c, v24 = .slice a A.length c := by obtain ⟨⟨_, a, c, h, _⟩, _⟩ := hPM; exact ⟨a, c, h⟩
 refine wl_val (v_len_s Tryz.underlying41 rfl) rfl ?_
 refine wl_val (v_move' (by conv => (lhs; whnf))) rfl ?_
 refine wl_nil ?_
 refine then_go ?_
 refine wc_block ?_
 refine wc_loop (S := Nat) (fun q r w' => ∃ (i : Nat) (m' : Mem) (M : Kys) (L : List (By × DV)), q + i = A.length ∧ r 4 = .pointer (some ⟨g, 0, none⟩) ∧ r 6 = .pointer (some ⟨sb, 0, none⟩) ∧ r 24 = .slice va A.length vc ∧ r 25 = .int .i64 A.length ∧ r 26 = .int .i64 i ∧ (∀ k o, m3 k = some o → m' k = some o) ∧ ofR [] R = ofR M (R.drop i) ∧ Risen M ∧ KvOk m' L ∧ M.Perm (kvs L) ∧ St m0 m' [] w0 w' (lgD g b s n sl' lv1 wv1 d' N1 (stE sb g mb L Es))) id A.length ⟨0, m3, [], [], by omega, rfl, rfl, rfl, rfl, rfl, fun _ _ h => h, rfl, by simp [Risen], (by intro x hx; cases hx), List.Perm.refl _, st⟩ ?_
 clear st
 rintro q r w2 ⟨i, m', M, L, hqi, g4, g6, g24, g25, g26, hmm, hof, hM, hL, hp, st⟩
 refine wc_o 4 g4 (wc_o 6 g6 (wc_o 24 g24 (wc_o 25 g25 (wc_o 26 g26 ?_))))
 refine wc_seq ?_
 refine wc_region ?_
 refine wl_val (v_lss rfl rfl) rfl ?_
 refine wl_nil ?_
 refine then_go ?_
 refine wc_seq ?_
 refine wc_if rfl (fun h27 => ?_) (fun h27 => ?_)
 ·refine wc_skip ?_
  refine then_go ?_
  refine wc_seq ?_
  refine wc_block ?_
  refine wc_seq ?_
  have hi : i < A.length := by omega
  obtain ⟨nb, no, _, hnv, hsk, hrk⟩ := hPM.elem hi
  cases hnv
  have hsk := hsk.mono hmm
  have hdr : R.drop i = A[i].1 :: R.drop (i + 1) := by
   have hlt : i < R.length := by rw [← hAR, List.length_map]; exact hi
   rw [List.drop_eq_getElem_cons hlt]
   congr 1
   simp [← hAR]
  have hxl : A[i].1.length ≤ 1048576 := hRl A[i].1 (by rw [← hAR]; exact List.mem_map.2 ⟨_, List.getElem_mem hi, rfl⟩)
  refine wc_region ?_
  refine wl_val (v_ias i Tryz.underlying41 TF.t23 rfl rfl (by first | rfl | omega) (by first | omega | (dsimp only at *; omega))) rfl ?_
  refine wl_val (v_load rfl (hrk (fun k o h => st.im k o (hmm k o h)))) rfl ?_
  refine wl_val (v_assign' (by conv => (lhs; whnf))) rfl ?_
  refine wl_nil ?_
  refine then_go ?_
  refine wc_seq ?_
  refine wc_region ?_
  refine wl_val (v_move' (by conv => (lhs; whnf))) rfl ?_
  refine wl_call rfl (c_readB st hsk (by omega)) rfl ?_
  rintro v32 w ⟨m4, hmm4, hro, st⟩
  obtain ⟨lv, e, rfl, he⟩ : ∃ lv e, v32 = .tuple #[lv, .int .i64 (e : Nat)] ∧ ((batR A[i].1 = none ∧ e = 3) ∨ (∃ X, batR A[i].1 = some (X.map (·.1)) ∧ e = 0 ∧ AcsM m4 lv X)) := by
   rcases hbr : batR A[i].1 with _ | X
   ·rw [hbr] at hro
    exact ⟨_, 3, hro, .inl ⟨rfl, rfl⟩⟩
   ·rw [hbr] at hro
    obtain ⟨lv, X', h1, h2, h3⟩ := hro
    exact ⟨lv, 0, h1, .inr ⟨X', by rw [h3], rfl, h2⟩⟩
  refine wl_val (v_move' (by conv => (lhs; whnf))) rfl ?_
  refine wl_val (v_extract rfl rfl) rfl ?_
  refine wl_val (v_extract rfl rfl) rfl ?_
  refine wl_val (v_assign' (by conv => (lhs; whnf))) rfl ?_
  refine wl_val (v_assign' (by conv => (lhs; whnf))) rfl ?_
  refine wl_nil ?_
  refine then_go ?_
  refine wc_seq ?_
  refine wc_seq ?_
  rcases he with ⟨hbr, rfl⟩ | ⟨X, hbr, rfl, hX⟩
  ·refine wc_region ?_
   refine wl_val (v_move' (by conv => (lhs; whnf))) rfl ?_
   refine wl_val (v_neq rfl rfl) rfl ?_
   refine wl_nil ?_
   refine then_go ?_
   refine wc_true rfl ?_
   refine wc_seq ?_
   refine wc_region ?_
   refine wl_val (v_move' (by conv => (lhs; whnf))) rfl ?_
   refine wl_val (v_assign' (by conv => (lhs; whnf))) rfl ?_
   refine wl_val (v_assign' (by conv => (lhs; whnf))) rfl ?_
   refine wl_nil ?_
   refine then_go ?_
   refine wc_ret (then_ret (block_ret (then_ret (then_ret (block_ret (then_ret ?_))))))
   have hR0 : ofR [] R = none := by rw [hof, hdr, ofR, hbr]
   rw [hR0]
   exact ret2 rfl rfl ⟨rfl, m4, wv1, fun k o h => hmm4 k o (hmm k o (hmm3 k o (hmm1 k o h))), ((((st.drop 0).drop 0).drop 1).drop 1)⟩
  ·refine wc_region ?_
   refine wl_val (v_move' (by conv => (lhs; whnf))) rfl ?_
   refine wl_val (v_neq rfl rfl) rfl ?_
   refine wl_nil ?_
   refine then_go ?_
   refine wc_false rfl ?_
   refine wc_skip ?_
   refine then_go ?_
   refine wc_region ?_
   refine wl_val (v_move' (by conv => (lhs; whnf))) rfl ?_
   refine wl_val (v_nil rfl) rfl ?_
   refine wl_val (v_fa TF.f95_1 rfl) rfl ?_
   refine wl_val (v_load rfl (st.reads (v := .map (some mb)) 3 rfl TF.t93 rfl)) rfl ?_
   refine wl_val (v_move' (by conv => (lhs; whnf))) rfl ?_
   have hokX : okL (X.map (·.1)) := (batR_eq hbr).2
   have hXl : X.length ≤ 4096 := by have := hokX.1; simpa using this
   have hnd : ((kvs L).map (·.1)).Nodup := (hp.map (·.1)).nodup hM.nodup
   have st := st.perm (List.perm_middle (l₁ := [_, _, _, _]))
   refine wl_call rfl (c_done st hX (fun a ha => hokX.2.1 _ (List.mem_map.2 ⟨a, ha, rfl⟩)) (hL.mono hmm4) (by omega)) rfl ?_
   rintro v43 w ⟨m5, L5, hmm5, hL5, _, hK5, st⟩
   have st : St m0 m5 [] w0 w (lgD g b s n sl' lv1 wv1 d' N1 (stE sb g mb L5 Es)) := st.perm (List.perm_middle (l₁ := [_, _, _, _])).symm
   refine wl_nil ?_
   refine block_go (then_go ?_)
   refine wc_region ?_
   refine wl_val (v_add' (c := ((i + 1 : Nat) : Int)) rfl rfl (by omega) (by omega) (by omega)) rfl ?_
   refine wl_val (v_move' (by conv => (lhs; whnf))) rfl ?_
   refine wl_nil ?_
   refine then_go ?_
   refine ⟨q - 1, by simp; omega, i + 1, m5, doneS M (X.map (·.1)), L5, by omega, rfl, rfl, rfl, rfl, rfl, fun k o h => hmm5 k o (hmm4 k o (hmm k o h)), ?_, doneS_rise hM, hL5, ?_, st⟩
   ·rw [hof, hdr, ofR, hbr]
   ·rw [hK5]
    exact doneS_perm hp hnd
 ·refine wc_exit (then_exit (then_exit (block_hit ?_)))
  refine then_go ?_
  refine wc_seq ?_
  refine wc_region ?_
  refine wl_val (v_move' (by conv => (lhs; whnf))) rfl ?_
  refine wl_val (v_assign' (by conv => (lhs; whnf))) rfl ?_
  refine wl_val (v_assign' (by conv => (lhs; whnf))) rfl ?_
  refine wl_nil ?_
  refine then_go ?_
  refine wc_ret ?_
  have hiA : i = A.length := by omega
  subst hiA
  have hR0 : ofR [] R = some M := by rw [hof, List.drop_eq_nil_of_le (by rw [← hAR, List.length_map]; exact Nat.le_refl _)]; rfl
  rw [hR0]
  have hmm4 : ∀ k o, m1 k = some o → m' k = some o := fun k o h => hmm k o (hmm3 k o h)
  exact ret2 rfl rfl ⟨g, sb, mb, m', wv1, lv1, N1, L, rfl, fun k o h => hmm4 k o (hmm1 k o h), hP1.mono hmm4, hN1, hM, hL, hp, st⟩
abbrev SoOut (m0 m : Mem) (w0 w' : World) (Es : List Ent) (b s n : Nat) (S' : By) (sl' : LG) (R : List By) (v : Value) (o : Option Kys) : Prop := SoOutD m0 m w0 w' Es b s n (calm S') sl' R v o
theorem c_sopen {b s n : Nat} {wv : Value} {S S' : By} {sl' : LG} {R : List By} (st : St m0 m [] w0 w (diskO b s n wv (calm S) :: Es)) (hl : S.length = 64 * n) (hn : 8 ≤ n) (hn2 : n ≤ 16384) (hO : openD n S = (calm S', sl', R, 0)) (ok : LogOk n S' sl' R) :
  Ret Tryz.prog 27 #[.pointer (some ⟨b, 0, none⟩)] w fun v w' => SoOut m0 m w0 w' Es b s n S' sl' R v (ofR [] R) :=
 c_sopenD st hl hn hn2 hO (fun x hx => (ok.okr x hx).2) (by
  have h1 := sizeL_ge (l := R)
  have h2 := ok.fit
  omega)
theorem c_sopenFew {b s n : Nat} {wv : Value} {d : DS} (st : St m0 m [] w0 w (diskO b s n wv d :: Es)) (ok : d.ok n) (hn : n < 8) :
  Ret Tryz.prog 27 #[.pointer (some ⟨b, 0, none⟩)] w fun v w' => St m0 m [] w0 w' (diskO b s n wv d :: Es) ∧ v = .tuple #[.pointer none, .int .i64 1] := by
 refine ret_of Tryz.call27 Tryz.func27 rfl Tryz.ntmps27 Tryz.results27 rfl ?_
 refine wc_seq ?_
 refine wc_region ?_
 refine wl_val (v_assign' (by conv => (lhs; whnf))) rfl ?_
 refine wl_val (v_assign' (by conv => (lhs; whnf))) rfl ?_
 refine wl_nil ?_
 refine then_go ?_
 refine wc_seq ?_
 refine wc_region ?_
 refine wl_val (v_move' (by conv => (lhs; whnf))) rfl ?_
 refine wl_call rfl (c_openFew st ok hn) rfl ?_
 rintro v13 w ⟨st, rfl⟩
 refine wl_val (v_move' (by conv => (lhs; whnf))) rfl ?_
 refine wl_val (v_extract rfl rfl) rfl ?_
 refine wl_val (v_extract rfl rfl) rfl ?_
 refine wl_val (v_assign' (by conv => (lhs; whnf))) rfl ?_
 refine wl_val (v_assign' (by conv => (lhs; whnf))) rfl ?_
 refine wl_nil ?_
 refine then_go ?_
 refine wc_seq ?_
 refine wc_seq ?_
 refine wc_region ?_
 refine wl_val (v_move' (by conv => (lhs; whnf))) rfl ?_
 refine wl_val (v_neq rfl rfl) rfl ?_
 refine wl_nil ?_
 refine then_go ?_
 refine wc_true rfl ?_
 refine wc_seq ?_
 refine wc_region ?_
 refine wl_val (v_move' (by conv => (lhs; whnf))) rfl ?_
 refine wl_val (v_assign' (by conv => (lhs; whnf))) rfl ?_
 refine wl_val (v_assign' (by conv => (lhs; whnf))) rfl ?_
 refine wl_nil ?_
 refine then_go ?_
 refine wc_ret (then_ret ?_)
 exact ret2 rfl rfl ⟨st, rfl⟩
end
end Go.Proofs.YtladpaehbolghaaGreat

namespace Go.Proofs.YtladpaehbolghaaGreat
open Go Go.RowKit K SH GC JR OS
open DK hiding By
section
variable {m : Mem} {wI : World}
theorem c_rdone {kv vv lv : Value} {E : List (By × DV)} {A : List AcT} (him : Im m wI) (hE : KyM m kv vv E) (hr : Risen (kvs E)) (hA : AcsM m lv A) (hAo : ∀ a ∈ A, actOk a.1) (hl : E.length + A.length ≤ 1000000) :
  Ret Tryz.prog 47 #[.agg #[kv, vv], lv] wI fun v w' => Out m wI w' fun m' => ∃ kv' vv' E', v = .agg #[kv', vv'] ∧ KyM m' kv' vv' E' ∧ kvs E' = doneS (kvs E) (A.map (·.1)) ∧ E'.length ≤ E.length + A.length := by
 have st := St.start him
 have o1 := SlM.one1 hE.1
 have o2 := SlM.one1 hE.2.1
 have hc : (Value.agg #[kv, vv]).cells = #[kv, vv] := rfl
 obtain ⟨la, lc, rfl⟩ := hA.1.sl
 refine ret_of Tryz.call47 Tryz.func47 rfl Tryz.ntmps47 Tryz.results47 rfl ?_
 refine wc_seq ?_
 refine wc_region ?_
 refine wl_box (v := .agg #[kv, vv]) rfl st rfl ?_
 intro b2 w st
 refine wl_alloc TF.z43 st rfl ?_
 intro b4 w st
 refine wl_nil ?_
 refine then_go ?_
 refine wc_seq ?_
 refine wc_seq ?_
 refine wc_region ?_
 refine wl_val (v_assign' (by conv => (lhs; whnf))) rfl ?_
 refine wl_nil ?_
 refine then_go ?_
 refine wc_block ?_
 refine wc_loop (S := Nat) (fun q r w' => ∃ (i : Nat) (m' : Mem) (kv' vv' : Value) (E' : List (By × DV)), q + i = A.length ∧ r 1 = .slice la A.length lc ∧ r 2 = .pointer (some ⟨b2, 0, none⟩) ∧ r 4 = .pointer (some ⟨b4, 0, none⟩) ∧ r 5 = .int .i64 i ∧ (∀ k o, m k = some o → m' k = some o) ∧ KyM m' kv' vv' E' ∧ kvs E' = doneS (kvs E) ((A.take i).map (·.1)) ∧ E'.length ≤ E.length + i ∧ St m m' [] wI w' [K.blk b4 #[.slice none 0 0, .slice none 0 0] 43, K.blk b2 #[kv', vv'] 43]) id A.length ⟨0, m, kv, vv, E, by omega, rfl, rfl, rfl, rfl, fun _ _ h => h, hE, rfl, by omega, st⟩ ?_
 clear st
 rintro q r w2 ⟨i, m', kv', vv', E', hqi, g1, g2, g4, g5, hmm, hE', hK, hEl, st⟩
 refine wc_o 1 g1 (wc_o 2 g2 (wc_o 4 g4 (wc_o 5 g5 ?_)))
 have hA := hA.mono hmm
 refine wc_seq ?_
 refine wc_seq ?_
 refine wc_region ?_
 refine wl_val (v_move' (by conv => (lhs; whnf))) rfl ?_
 refine wl_val (v_move' (by conv => (lhs; whnf))) rfl ?_
 refine wl_val (v_len_s Tryz.underlying22 rfl) rfl ?_
 refine wl_val (v_lss rfl rfl) rfl ?_
 refine wl_nil ?_
 refine then_go ?_
 refine wc_if rfl (fun h9 => ?_) (fun h9 => ?_)
 ·refine wc_skip ?_
  refine then_go ?_
  refine wc_seq ?_
  refine wc_block ?_
  have hi : i < A.length := by omega
  obtain ⟨lb, lo, da, dc, hla, hd, hrL, _⟩ := hA.at hi
  subst hla
  have hok : AcOk m' A[i].1 A[i].2 := hA.2 _ (List.getElem_mem hi)
  have hao := hAo _ (List.getElem_mem hi)
  have htk : doneS (kvs E) ((A.take (i + 1)).map (·.1)) = oneS (doneS (kvs E) ((A.take i).map (·.1))) A[i].1 := by
   unfold doneS
   rw [List.take_succ_eq_append_getElem hi, List.map_append, List.foldl_append]
   rfl
  have hri : Risen (kvs E') := by rw [hK]; exact doneS_rise hr
  refine wc_draw TF.mixed ?_
  have st := st.pure (touch_drew _)
  refine fl_ld 0 rfl (v_load rfl (st.reads (v := .agg #[kv', vv']) 1 rfl TF.t43 (getV_all rfl))) (by kernel_rfl) ?_
  refine fl_val 1 rfl (fun _ => (v_move' (by conv => (lhs; whnf)))) rfl (by kernel_rfl) ?_
  refine fl_val 2 rfl (fun _ => (v_move' (by conv => (lhs; whnf)))) rfl (by kernel_rfl) ?_
  refine fl_val 3 rfl (fun _ => (v_ias i Tryz.underlying22 TF.t57 rfl rfl (by first | rfl | omega) (by first | omega | (dsimp only at *; omega)))) rfl (by kernel_rfl) ?_
  refine fl_ld 4 rfl (v_load rfl (hrL st.im)) (by kernel_rfl) ?_
  refine fl_eff1 5 [3, 2, 1] [] (by kernel_rfl) ⟨obl_ld rfl rfl rfl (v_load rfl (hrL st.im)), obl_ld rfl rfl rfl (v_load rfl (st.reads (v := .agg #[kv', vv']) 1 rfl TF.t43 (getV_all rfl))), trivial⟩ rfl ?_
  refine wl_call rfl (c_rone st.im hE' (by omega) hok hao.2.1 hao.2.2.2) rfl ?_
  rintro v17 w ⟨t17, m1, hg1, hi1, kv2, vv2, rfl, hE2⟩
  have st := st.grown hg1 t17 hi1
  have p1 := SlM.one1 hE2.1
  have p2 := SlM.one1 hE2.2.1
  refine wl_nil ⟨rfl, ?_⟩
  refine fl_eff1 6 [] [] (by kernel_rfl) trivial rfl ?_
  refine wl_storeW (cs := #[kv2, vv2]) 1 st rfl TF.t43 rfl rfl rfl rfl (by intro u hu; simp at hu; rcases hu with rfl | rfl <;> assumption) ?_
  intro w st
  refine wl_nil ⟨rfl, ?_⟩
  refine fl_nil (by kernel_rfl) trivial ?_
  refine block_go (then_go ?_)
  refine wc_region ?_
  refine wl_val (v_move' (by conv => (lhs; whnf))) rfl ?_
  refine wl_val (v_add' (c := ((i + 1 : Nat) : Int)) rfl rfl (by omega) (by omega) (by omega)) rfl ?_
  refine wl_val (v_assign' (by conv => (lhs; whnf))) rfl ?_
  refine wl_nil ?_
  refine then_go ?_
  refine ⟨q - 1, by simp; omega, i + 1, m1, kv2, vv2, _, by omega, rfl, rfl, rfl, rfl, fun k o h => hg1.le k o (hmm k o h), hE2, ?_, ?_, st⟩
  ·rw [kvs_one hri, hK, ← htk]
  ·have h1 := (bulkOne (M := kvs E') (a := A[i].1)).2
   rw [← kvs_one (dv := A[i].2) hri, length_kvs, length_kvs] at h1
   omega
 ·refine wc_exit (then_exit (then_exit (block_hit ?_)))
  refine then_go ?_
  refine wc_seq ?_
  refine wc_region ?_
  refine wl_val (v_load rfl (st.reads (v := .agg #[kv', vv']) 1 rfl TF.t43 (getV_all rfl))) rfl ?_
  have p1 := SlM.one1 hE'.1
  have p2 := SlM.one1 hE'.2.1
  refine wl_storeW (cs := #[kv', vv']) 0 st rfl TF.t43 rfl rfl rfl rfl (by intro u hu; simp at hu; rcases hu with rfl | rfl <;> assumption) ?_
  intro w st
  refine wl_nil ?_
  refine then_go ?_
  refine wc_ret ?_
  have hiA : i = A.length := by omega
  subst hiA
  rw [List.take_length] at hK
  exact ret1c (p := ⟨b4, 0, none⟩) (v := .agg #[kv', vv']) rfl (st.reads (off := 0) 0 rfl TF.t43 (getV_all rfl)) ((st.keepOnly (l := []) (List.nil_sublist _)).out ⟨kv', vv', E', rfl, hE', hK, hEl⟩)
theorem c_rwhole {kv vv : Value} {E : List (By × DV)} (him : Im m wI) (hE : KyM m kv vv E) (hl : E.length ≤ 1000000) :
  Ret Tryz.prog 49 #[.agg #[kv, vv]] wI fun v w' => Out m wI w' fun m' => ∃ A, AcsM m' v A ∧ A.map (·.1) = actsOf (kvs E) := by
 have st := St.start him
 obtain ⟨ka, kc, va, vc, rfl, rfl, hkc, hvc⟩ := hE.sl
 refine ret_of Tryz.call49 Tryz.func49 rfl Tryz.ntmps49 Tryz.results49 rfl ?_
 refine wc_seq ?_
 refine wc_region ?_
 refine wl_box (v := .agg #[.slice ka E.length kc, .slice va E.length vc]) rfl st rfl ?_
 intro b1 w st
 refine wl_val (v_assign' (by conv => (lhs; whnf))) rfl ?_
 refine wl_nil ?_
 refine then_go ?_
 refine wc_seq ?_
 refine wc_region ?_
 refine wl_val (v_assign' (by conv => (lhs; whnf))) rfl ?_
 refine wl_nil ?_
 refine then_go ?_
 refine wc_seq ?_
 refine wc_seq ?_
 refine wc_region ?_
 refine wl_val (v_assign' (by conv => (lhs; whnf))) rfl ?_
 refine wl_nil ?_
 refine then_go ?_
 refine wc_block ?_
 have st : St m m [] wI w [acE (.slice none 0 0) [], K.blk b1 #[.slice ka E.length kc, .slice va E.length vc] 43] := nilRow st 57 3
 refine wc_loop (S := Nat) (fun q r w' => ∃ (i : Nat) (v : Value), q + i = E.length ∧ r 1 = .pointer (some ⟨b1, 0, none⟩) ∧ r 3 = v ∧ r 4 = .int .i64 i ∧ St m m [] wI w' [acE v ((E.take i).map toAct), K.blk b1 #[.slice ka E.length kc, .slice va E.length vc] 43]) id E.length ⟨0, _, by omega, rfl, rfl, rfl, st⟩ ?_
 clear st
 rintro q r w2 ⟨i, v, hqi, g1, g3, g4, st⟩
 refine wc_o 1 g1 (wc_o 3 g3 (wc_o 4 g4 ?_))
 refine wc_seq ?_
 refine wc_seq ?_
 refine wc_region ?_
 refine wl_val (v_move' (by conv => (lhs; whnf))) rfl ?_
 refine wl_val (v_fa TF.f43_0 rfl) rfl ?_
 refine wl_val (v_load rfl (st.reads (v := .slice ka E.length kc) 1 rfl TF.t40 rfl)) rfl ?_
 refine wl_val (v_len_s Tryz.underlying40 rfl) rfl ?_
 refine wl_val (v_lss rfl rfl) rfl ?_
 refine wl_nil ?_
 refine then_go ?_
 refine wc_if rfl (fun h9 => ?_) (fun h9 => ?_)
 ·refine wc_skip ?_
  refine then_go ?_
  refine wc_seq ?_
  refine wc_block ?_
  have hi : i < E.length := by omega
  obtain ⟨lb, lo, _, hla, hrk⟩ := hE.str hi
  cases hla
  obtain ⟨ub, uo, _, hua, hrv⟩ := hE.val hi
  cases hua
  obtain ⟨hk64, hd20, hsl⟩ := hE.2.2 _ (List.getElem_mem hi)
  have hone := cells_one (SlM.one1 hsl)
  have hao : AcOk m (toAct E[i]).1 (toAct E[i]).2 := ⟨by show E[i].1.length ≤ _; omega, hsl⟩
  have htk : (E.take (i + 1)).map toAct = (E.take i).map toAct ++ [toAct E[i]] := by rw [List.take_succ_eq_append_getElem hi, List.map_append]; rfl
  have hln : ((E.take i).map toAct).length = i := by rw [List.length_map, List.length_take]; omega
  refine wc_draw TF.mixed ?_
  have st := st.pure (touch_drew _)
  refine fl_val 0 rfl (fun _ => (v_move' (by conv => (lhs; whnf)))) rfl (by kernel_rfl) ?_
  refine fl_val 1 rfl (fun _ => (v_fa TF.f43_0 rfl)) rfl (by kernel_rfl) ?_
  refine fl_ld 2 rfl (v_load rfl (by first | exact st.reads (v := .slice (some ⟨lb, lo, none⟩) E.length kc) 1 rfl TF.t40 rfl | exact st.reads (v := .slice (some ⟨lb, lo, none⟩) E.length kc) 2 rfl TF.t40 rfl)) (by kernel_rfl) ?_
  refine fl_val 3 rfl (fun _ => (v_move' (by conv => (lhs; whnf)))) rfl (by kernel_rfl) ?_
  refine fl_val 4 rfl (fun _ => (v_ias i Tryz.underlying40 TF.t9 rfl rfl (by first | rfl | omega) (by first | omega | (dsimp only at *; omega)))) rfl (by kernel_rfl) ?_
  refine fl_ld 5 rfl (v_load rfl (hrk st.im)) (by kernel_rfl) ?_
  refine fl_val 6 rfl (fun _ => (v_fa TF.f43_1 rfl)) rfl (by kernel_rfl) ?_
  refine fl_ld 7 rfl (v_load rfl (by first | exact st.reads (v := .slice (some ⟨ub, uo, none⟩) E.length vc) 1 rfl TF.t41 rfl | exact st.reads (v := .slice (some ⟨ub, uo, none⟩) E.length vc) 2 rfl TF.t41 rfl)) (by kernel_rfl) ?_
  refine fl_val 8 rfl (fun _ => (v_move' (by conv => (lhs; whnf)))) rfl (by kernel_rfl) ?_
  refine fl_val 9 rfl (fun _ => (v_ias i Tryz.underlying41 TF.t23 rfl rfl (by first | rfl | omega) (by first | omega | (dsimp only at *; omega)))) rfl (by kernel_rfl) ?_
  refine fl_ld 10 rfl (v_load rfl (hrv st.im)) (by kernel_rfl) ?_
  refine fl_val 11 rfl (fun _ => (v_build (c' := (acC ⟨E[i].1, true, E[i].2.1⟩ E[i].2.2).toArray) [(0, .string (strB E[i].1)), (1, .bool true), (2, E[i].2.2)] TF.z57 TF.p57 rfl (fill_one [] [.string ⟨#[]⟩] [.bool false, .slice none 0 0] rfl rfl rfl (fill_one [.string (strB E[i].1)] [.bool false] [.slice none 0 0] rfl rfl rfl (fill_one [.string (strB E[i].1), .bool true] [.slice none 0 0] [] rfl rfl (by rw [hone]; rfl) (by rw [hone]; rfl)))))) rfl (by kernel_rfl) ?_
  refine fl_eff1 12 [9, 8, 6, 4, 3, 1, 0] [10, 7, 5, 2] (by kernel_rfl) ⟨obl_ld rfl rfl rfl (v_load rfl (hrv st.im)), obl_ld rfl rfl rfl (v_load rfl (by first | exact st.reads (v := .slice (some ⟨ub, uo, none⟩) E.length vc) 1 rfl TF.t41 rfl | exact st.reads (v := .slice (some ⟨ub, uo, none⟩) E.length vc) 2 rfl TF.t41 rfl)), obl_ld rfl rfl rfl (v_load rfl (hrk st.im)), obl_ld rfl rfl rfl (v_load rfl (by first | exact st.reads (v := .slice (some ⟨lb, lo, none⟩) E.length kc) 1 rfl TF.t40 rfl | exact st.reads (v := .slice (some ⟨lb, lo, none⟩) E.length kc) 2 rfl TF.t40 rfl)), trivial⟩ rfl ?_
  refine wl_lsOne (acC ⟨E[i].1, true, E[i].2.1⟩ E[i].2.2) Tryz.underlying22 TF.t57 TF.z57 (by decide) (by decide) (Ac.len hao) rfl st rfl ?_
  intro b24 w st
  refine wl_nil ⟨rfl, ?_⟩
  refine fl_eff1 13 [9, 8, 6, 4, 3, 1] [10, 7, 5, 2] (by kernel_rfl) ⟨obl_ld rfl rfl rfl (v_load rfl (hrv st.im)), obl_ld rfl rfl rfl (v_load rfl (by first | exact st.reads (v := .slice (some ⟨ub, uo, none⟩) E.length vc) 1 rfl TF.t41 rfl | exact st.reads (v := .slice (some ⟨ub, uo, none⟩) E.length vc) 2 rfl TF.t41 rfl)), obl_ld rfl rfl rfl (v_load rfl (hrk st.im)), obl_ld rfl rfl rfl (v_load rfl (by first | exact st.reads (v := .slice (some ⟨lb, lo, none⟩) E.length kc) 1 rfl TF.t40 rfl | exact st.reads (v := .slice (some ⟨lb, lo, none⟩) E.length kc) 2 rfl TF.t40 rfl)), trivial⟩ rfl ?_
  refine wl_lsApp (c := acP) (e := toAct E[i]) 0 st rfl Tryz.underlying22 TF.t57 TF.z57 rfl rfl (Ac.one hao) rfl rfl (by omega) (by omega) rfl ?_
  intro v25 w st hv25
  refine wl_nil ⟨rfl, ?_⟩
  refine fl_eff1 14 [] [] (by kernel_rfl) ⟨obl_ld rfl rfl rfl (v_load rfl (hrv st.im)), obl_ld rfl rfl rfl (v_load rfl (by first | exact st.reads (v := .slice (some ⟨ub, uo, none⟩) E.length vc) 1 rfl TF.t41 rfl | exact st.reads (v := .slice (some ⟨ub, uo, none⟩) E.length vc) 2 rfl TF.t41 rfl)), obl_ld rfl rfl rfl (v_load rfl (hrk st.im)), obl_ld rfl rfl rfl (v_load rfl (by first | exact st.reads (v := .slice (some ⟨lb, lo, none⟩) E.length kc) 1 rfl TF.t40 rfl | exact st.reads (v := .slice (some ⟨lb, lo, none⟩) E.length kc) 2 rfl TF.t40 rfl)), trivial⟩ rfl ?_
  refine wl_val (v_assign' (by conv => (lhs; whnf))) rfl ?_
  refine wl_nil ⟨rfl, ?_⟩
  refine fl_nil (by kernel_rfl) trivial ?_
  refine block_go (then_go ?_)
  refine wc_region ?_
  refine wl_val (v_move' (by conv => (lhs; whnf))) rfl ?_
  refine wl_val (v_add' (c := ((i + 1 : Nat) : Int)) rfl rfl (by omega) (by omega) (by omega)) rfl ?_
  refine wl_val (v_assign' (by conv => (lhs; whnf))) rfl ?_
  refine wl_nil ?_
  refine then_go ?_
  refine ⟨q - 1, by simp; omega, i + 1, v25, by omega, rfl, rfl, rfl, ?_⟩
  rw [htk]
  exact st
 ·refine wc_exit (then_exit (then_exit (block_hit ?_)))
  refine then_go ?_
  refine wc_seq ?_
  refine wc_region ?_
  refine wl_val (v_move' (by conv => (lhs; whnf))) rfl ?_
  refine wl_val (v_assign' (by conv => (lhs; whnf))) rfl ?_
  refine wl_nil ?_
  refine then_go ?_
  refine wc_ret ?_
  have hiE : i = E.length := by omega
  subst hiE
  rw [List.take_length] at st
  obtain ⟨m1, hg1, hls, st⟩ := st.keepLs (i := 0) rfl (fun _ _ => rfl)
  have hA : AcsM m1 v (E.map toAct) := ⟨hls, fun a ha => by
   obtain ⟨z, hz, rfl⟩ := List.mem_map.1 ha
   obtain ⟨h1, h2, h3⟩ := hE.2.2 z hz
   exact ⟨by show z.1.length ≤ _; omega, h3.mono hg1.le⟩⟩
  exact ret1 rfl ((st.keepOnly (l := []) (List.nil_sublist _)).out ⟨_, hA, by unfold actsOf kvs; rw [List.map_map, List.map_map]; rfl⟩)
end
end Go.Proofs.YtladpaehbolghaaGreat

namespace Go.Proofs.YtladpaehbolghaaGreat
open Go Go.RowKit K SH GC JR OS
open DK hiding By
section
variable {m : Mem} {wI : World}
def OfOut (m : Mem) (v : Value) : Option Kys → Prop
 | none => v = .tuple #[.agg #[.slice none 0 0, .slice none 0 0], .bool false]
 | some M => ∃ kv vv E, v = .tuple #[.agg #[kv, vv], .bool true] ∧ KyM m kv vv E ∧ kvs E = M
theorem c_rof {nv : Value} {N : List (By × Value)} (him : Im m wI) (hN : PcsM m nv N) (hNl : ∀ x ∈ N, x.1.length ≤ 1048576) (hNn : N.length ≤ 200) :
  Ret Tryz.prog 32 #[nv] wI fun v w' => Out m wI w' fun m' => OfOut m' v (ofR [] (N.map (·.1))) := by
 have st := St.start him
 obtain ⟨na, nc, rfl⟩ := hN.sl
 refine ret_of Tryz.call32 Tryz.func32 rfl Tryz.ntmps32 Tryz.results32 rfl ?_
 refine wc_seq ?_
 refine wc_region ?_
 refine wl_alloc TF.z43 st rfl ?_
 intro b2 w st
 refine wl_val (v_assign' (by conv => (lhs; whnf))) rfl ?_
 refine wl_nil ?_
 refine then_go ?_
 refine wc_seq ?_
 refine wc_region ?_
 refine wl_val (v_build (c' := #[.slice none 0 0, .slice none 0 0]) [] TF.z43 TF.p43 rfl rfl) rfl ?_
 refine wl_alloc TF.z43 st rfl ?_
 intro b4 w st
 refine wl_storeW (cs := #[.slice none 0 0, .slice none 0 0]) 0 st rfl TF.t43 rfl rfl rfl rfl (by simp [Value.oneCell']) ?_
 intro w st
 refine wl_nil ?_
 refine then_go ?_
 refine wc_seq ?_
 refine wc_seq ?_
 refine wc_region ?_
 refine wl_val (v_assign' (by conv => (lhs; whnf))) rfl ?_
 refine wl_nil ?_
 refine then_go ?_
 refine wc_block ?_
 refine wc_loop (S := Nat) (fun q r w' => ∃ (i : Nat) (m' : Mem) (kv vv : Value) (E : List (By × DV)), q + i = N.length ∧ r 0 = .slice na N.length nc ∧ r 2 = .pointer (some ⟨b2, 0, none⟩) ∧ r 4 = .pointer (some ⟨b4, 0, none⟩) ∧ r 5 = .int .i64 i ∧ (∀ k o, m k = some o → m' k = some o) ∧ KyM m' kv vv E ∧ Risen (kvs E) ∧ ofR [] (N.map (·.1)) = ofR (kvs E) ((N.map (·.1)).drop i) ∧ E.length ≤ i * 4096 ∧ St m m' [] wI w' [K.blk b4 #[kv, vv] 43, K.blk b2 #[.slice none 0 0, .slice none 0 0] 43]) id N.length ⟨0, m, _, _, [], by omega, rfl, rfl, rfl, rfl, fun _ _ h => h, KyM.nil, by simp [Risen], rfl, by simp, st⟩ ?_
 clear st
 rintro q r w2 ⟨i, m', kv, vv, E, hqi, g0, g2, g4, g5, hmm, hE, hr, hof, hEl, st⟩
 refine wc_o 0 g0 (wc_o 2 g2 (wc_o 4 g4 (wc_o 5 g5 ?_)))
 have hN := PcsM.mono hN hmm
 refine wc_seq ?_
 refine wc_seq ?_
 refine wc_region ?_
 refine wl_val (v_move' (by conv => (lhs; whnf))) rfl ?_
 refine wl_val (v_move' (by conv => (lhs; whnf))) rfl ?_
 refine wl_val (v_len_s Tryz.underlying41 rfl) rfl ?_
 refine wl_val (v_lss rfl rfl) rfl ?_
 refine wl_nil ?_
 refine then_go ?_
 refine wc_if rfl (fun h12 => ?_) (fun h12 => ?_)
 ·refine wc_skip ?_
  refine then_go ?_
  refine wc_seq ?_
  refine wc_block ?_
  refine wc_seq ?_
  have hi : i < N.length := by omega
  obtain ⟨nb, no, _, hnv, hsk, hrk⟩ := hN.elem hi
  cases hnv
  have hxl := hNl _ (List.getElem_mem hi)
  have hdr : (N.map (·.1)).drop i = N[i].1 :: (N.map (·.1)).drop (i + 1) := by
   rw [List.drop_eq_getElem_cons (by rw [List.length_map]; exact hi)]
   simp
  refine wc_region ?_
  refine wl_val (v_move' (by conv => (lhs; whnf))) rfl ?_
  refine wl_val (v_move' (by conv => (lhs; whnf))) rfl ?_
  refine wl_val (v_ias i Tryz.underlying41 TF.t23 rfl rfl (by first | rfl | omega) (by first | omega | (dsimp only at *; omega))) rfl ?_
  refine wl_val (v_load rfl (hrk st.im)) rfl ?_
  refine wl_call rfl (c_rreadB st.im hsk (by omega)) rfl ?_
  rintro v20 w ⟨t20, m1, hg1, hi1, hro⟩
  have st := st.grown hg1 t20 hi1
  obtain ⟨lv, e, rfl, he⟩ : ∃ lv e, v20 = .tuple #[lv, .int .i64 (e : Nat)] ∧ ((batR N[i].1 = none ∧ e = 3) ∨ (∃ X, batR N[i].1 = some (X.map (·.1)) ∧ e = 0 ∧ AcsM m1 lv X)) := by
   rcases hbr : batR N[i].1 with _ | X
   ·rw [hbr] at hro
    exact ⟨_, 3, hro, .inl ⟨rfl, rfl⟩⟩
   ·rw [hbr] at hro
    obtain ⟨lv, X', h1, h2, h3⟩ := hro
    exact ⟨lv, 0, h1, .inr ⟨X', by rw [h3], rfl, h2⟩⟩
  refine wl_val (v_move' (by conv => (lhs; whnf))) rfl ?_
  refine wl_val (v_extract rfl rfl) rfl ?_
  refine wl_val (v_extract rfl rfl) rfl ?_
  refine wl_val (v_assign' (by conv => (lhs; whnf))) rfl ?_
  refine wl_val (v_assign' (by conv => (lhs; whnf))) rfl ?_
  refine wl_nil ?_
  refine then_go ?_
  refine wc_seq ?_
  refine wc_seq ?_
  rcases he with ⟨hbr, rfl⟩ | ⟨X, hbr, rfl, hX⟩
  ·refine wc_region ?_
   refine wl_val (v_move' (by conv => (lhs; whnf))) rfl ?_
   refine wl_val (v_neq rfl rfl) rfl ?_
   refine wl_nil ?_
   refine then_go ?_
   refine wc_true rfl ?_
   refine wc_seq ?_
   refine wc_region ?_
   refine wl_val (v_build (c' := #[.slice none 0 0, .slice none 0 0]) [] TF.z43 TF.p43 rfl rfl) rfl ?_
   refine wl_storeW (cs := #[.slice none 0 0, .slice none 0 0]) 1 st rfl TF.t43 rfl rfl rfl rfl (by simp [Value.oneCell']) ?_
   intro w st
   refine wl_val (v_assign' (by conv => (lhs; whnf))) rfl ?_
   refine wl_nil ?_
   refine then_go ?_
   refine wc_ret (then_ret (block_ret (then_ret (then_ret (block_ret (then_ret ?_))))))
   have hR0 : ofR [] (N.map (·.1)) = none := by rw [hof, hdr, ofR, hbr]
   rw [hR0]
   exact ret2c (p := ⟨b2, 0, none⟩) (v := .agg #[.slice none 0 0, .slice none 0 0]) rfl (st.reads (off := 0) 1 rfl TF.t43 (getV_all rfl)) rfl ((st.keepOnly (l := []) (List.nil_sublist _)).out rfl)
  ·refine wc_region ?_
   refine wl_val (v_move' (by conv => (lhs; whnf))) rfl ?_
   refine wl_val (v_neq rfl rfl) rfl ?_
   refine wl_nil ?_
   refine then_go ?_
   refine wc_false rfl ?_
   refine wc_skip ?_
   refine then_go ?_
   refine wc_region ?_
   refine wl_val (v_load rfl (st.reads (v := .agg #[kv, vv]) 0 rfl TF.t43 (getV_all rfl))) rfl ?_
   refine wl_val (v_move' (by conv => (lhs; whnf))) rfl ?_
   have hokX : okL (X.map (·.1)) := (batR_eq hbr).2
   have hXl : X.length ≤ 4096 := by have := hokX.1; simpa using this
   refine wl_call rfl (c_rdone st.im (hE.mono hg1.le) hr hX (fun a ha => hokX.2.1 _ (List.mem_map.2 ⟨a, ha, rfl⟩)) (by omega)) rfl ?_
   rintro v28 w ⟨t28, m2, hg2, hi2, kv2, vv2, E2, rfl, hE2, hK2, hl2⟩
   have st := st.grown hg2 t28 hi2
   have p1 := SlM.one1 hE2.1
   have p2 := SlM.one1 hE2.2.1
   refine wl_storeW (cs := #[kv2, vv2]) 0 st rfl TF.t43 rfl rfl rfl rfl (by intro u hu; simp at hu; rcases hu with rfl | rfl <;> assumption) ?_
   intro w st
   refine wl_nil ?_
   refine block_go (then_go ?_)
   refine wc_region ?_
   refine wl_val (v_move' (by conv => (lhs; whnf))) rfl ?_
   refine wl_val (v_add' (c := ((i + 1 : Nat) : Int)) rfl rfl (by omega) (by omega) (by omega)) rfl ?_
   refine wl_val (v_assign' (by conv => (lhs; whnf))) rfl ?_
   refine wl_nil ?_
   refine then_go ?_
   refine ⟨q - 1, by simp; omega, i + 1, m2, kv2, vv2, E2, by omega, rfl, rfl, rfl, rfl, fun k o h => hg2.le k o (hg1.le k o (hmm k o h)), hE2, by rw [hK2]; exact doneS_rise hr, ?_, by omega, st⟩
   rw [hof, hdr, ofR, hbr, hK2]
 ·refine wc_exit (then_exit (then_exit (block_hit ?_)))
  refine then_go ?_
  refine wc_seq ?_
  refine wc_region ?_
  refine wl_val (v_load rfl (st.reads (v := .agg #[kv, vv]) 0 rfl TF.t43 (getV_all rfl))) rfl ?_
  have p1 := SlM.one1 hE.1
  have p2 := SlM.one1 hE.2.1
  refine wl_storeW (cs := #[kv, vv]) 1 st rfl TF.t43 rfl rfl rfl rfl (by intro u hu; simp at hu; rcases hu with rfl | rfl <;> assumption) ?_
  intro w st
  refine wl_val (v_assign' (by conv => (lhs; whnf))) rfl ?_
  refine wl_nil ?_
  refine then_go ?_
  refine wc_ret ?_
  have hiN : i = N.length := by omega
  subst hiN
  have hR0 : ofR [] (N.map (·.1)) = some (kvs E) := by rw [hof, List.drop_eq_nil_of_le (by rw [List.length_map]; exact Nat.le_refl _)]; rfl
  rw [hR0]
  exact ret2c (p := ⟨b2, 0, none⟩) (v := .agg #[kv, vv]) rfl (st.reads (off := 0) 1 rfl TF.t43 (getV_all rfl)) rfl ((st.keepOnly (l := []) (List.nil_sublist _)).out ⟨kv, vv, E, rfl, hE, rfl⟩)
end
end Go.Proofs.YtladpaehbolghaaGreat

namespace Go.Proofs.YtladpaehbolghaaGreat
open Go Go.RowKit K SH GC JR OS
end Go.Proofs.YtladpaehbolghaaGreat

namespace Go.Proofs.YtladpaehbolghaaGreat
open Go Go.RowKit K SH GC JR OS
open DK hiding By
end Go.Proofs.YtladpaehbolghaaGreat

namespace Go.Proofs.YtladpaehbolghaaGreat
open Go Go.RowKit K SH GC JR OS
open DK hiding By
section
variable {m : Mem} {wI : World}
theorem c_sameacts {av bv : Value} {A B : List AcT} (him : Im m wI) (hA : AcsM m av A) (hB : AcsM m bv B) (h : A.map (·.1) = B.map (·.1)) (hl : A.length ≤ 1000000000) :
  Ret Tryz.prog 14 #[av, bv] wI fun v w' => Tch wI w' [] [] ∧ v = .bool true := by
 have st := St.start him
 have hlen : A.length = B.length := by have := congrArg List.length h; simpa using this
 obtain ⟨la, lc, rfl⟩ := hA.1.sl
 obtain ⟨ka, kc, rfl⟩ := hB.1.sl
 refine ret_of Tryz.call14 Tryz.func14 rfl Tryz.ntmps14 Tryz.results14 rfl ?_
 refine wc_seq ?_
 refine wc_region ?_
 refine wl_val (v_assign' (by conv => (lhs; whnf))) rfl ?_
 refine wl_nil ?_
 refine then_go ?_
 refine wc_seq ?_
 refine wc_seq ?_
 refine wc_region ?_
 refine wl_val (v_move' (by conv => (lhs; whnf))) rfl ?_
 refine wl_val (v_len_s Tryz.underlying22 rfl) rfl ?_
 refine wl_val (v_move' (by conv => (lhs; whnf))) rfl ?_
 refine wl_val (v_len_s Tryz.underlying22 rfl) rfl ?_
 refine wl_val (v_neqF (a := (A.length : Int)) (b := (B.length : Int)) (by omega) rfl rfl) rfl ?_
 refine wl_nil ?_
 refine then_go ?_
 refine wc_false rfl ?_
 refine wc_skip ?_
 refine then_go ?_
 refine wc_seq ?_
 refine wc_seq ?_
 refine wc_region ?_
 refine wl_val (v_assign' (by conv => (lhs; whnf))) rfl ?_
 refine wl_nil ?_
 refine then_go ?_
 refine wc_block ?_
 refine wc_loop (S := Nat) (fun q r w' => ∃ (i : Nat), q + i = A.length ∧ r 0 = .slice la A.length lc ∧ r 1 = .slice ka B.length kc ∧ r 5 = .int .i64 i ∧ St m m [] wI w' []) id A.length ⟨0, by omega, rfl, rfl, rfl, st⟩ ?_
 clear st
 rintro q r w2 ⟨i, hqi, g0, g1, g5, st⟩
 refine wc_o 0 g0 (wc_o 1 g1 (wc_o 5 g5 ?_))
 refine wc_seq ?_
 refine wc_seq ?_
 refine wc_region ?_
 refine wl_val (v_move' (by conv => (lhs; whnf))) rfl ?_
 refine wl_val (v_move' (by conv => (lhs; whnf))) rfl ?_
 refine wl_val (v_len_s Tryz.underlying22 rfl) rfl ?_
 refine wl_val (v_lss rfl rfl) rfl ?_
 refine wl_nil ?_
 refine then_go ?_
 refine wc_if rfl (fun h14 => ?_) (fun h14 => ?_)
 ·refine wc_skip ?_
  refine then_go ?_
  refine wc_seq ?_
  refine wc_block ?_
  refine wc_seq ?_
  have hi : i < A.length := by omega
  have hj : i < B.length := by omega
  obtain ⟨lb, lo, da, dc, hla, hd, _, hrk, hrs, hrd⟩ := hA.at hi
  obtain ⟨ub, uo, ea, ec, hua, he, _, hsk, hss, hsd⟩ := hB.at hj
  subst hla hua
  have hokA := (hA.2 _ (List.getElem_mem hi)).data
  have hokB := (hB.2 _ (List.getElem_mem hj)).data
  have heq : A[i].1 = B[i].1 := by
   have h1 : (A.map (·.1))[i]'(by simpa using hi) = (B.map (·.1))[i]'(by simpa using hj) := by simp [h]
   simpa using h1
  refine wc_draw TF.mixed ?_
  have st := st.pure (touch_drew _)
  refine fl_val 0 rfl (fun _ => (v_move' (by conv => (lhs; whnf)))) rfl (by kernel_rfl) ?_
  refine fl_val 1 rfl (fun _ => (v_move' (by conv => (lhs; whnf)))) rfl (by kernel_rfl) ?_
  refine fl_val 2 rfl (fun _ => (v_ias i Tryz.underlying22 TF.t57 rfl rfl (by first | rfl | omega) (by first | omega | (dsimp only at *; omega)))) rfl (by kernel_rfl) ?_
  refine fl_val 3 rfl (fun _ => (v_fa TF.f57_0 rfl)) rfl (by kernel_rfl) ?_
  refine fl_ld 4 rfl (v_load rfl (hrk st.im)) (by kernel_rfl) ?_
  refine fl_val 5 rfl (fun _ => (v_move' (by conv => (lhs; whnf)))) rfl (by kernel_rfl) ?_
  refine fl_val 6 rfl (fun _ => (v_move' (by conv => (lhs; whnf)))) rfl (by kernel_rfl) ?_
  refine fl_val 7 rfl (fun _ => (v_ias i Tryz.underlying22 TF.t57 rfl rfl (by first | rfl | omega) (by first | omega | (dsimp only at *; omega)))) rfl (by kernel_rfl) ?_
  refine fl_val 8 rfl (fun _ => (v_fa TF.f57_0 rfl)) rfl (by kernel_rfl) ?_
  refine fl_ld 9 rfl (v_load rfl (hsk st.im)) (by kernel_rfl) ?_
  refine fl_val 10 rfl (fun _ => (wl_valD (v_nesJ rfl rfl) (q := false) (by rw [heq]; simp))) rfl (by kernel_rfl) ?_
  refine fl_val 11 rfl (fun _ => (v_move' (by conv => (lhs; whnf)))) rfl (by kernel_rfl) ?_
  refine fl_on 12 rfl rfl rfl rfl (fun _ => (v_move' (by conv => (lhs; whnf)))) rfl (by kernel_rfl) ?_
  refine fl_on 13 rfl rfl rfl rfl (fun _ => (v_move' (by conv => (lhs; whnf)))) rfl (by kernel_rfl) ?_
  refine fl_on 14 rfl rfl rfl rfl (fun _ => (v_ias i Tryz.underlying22 TF.t57 rfl rfl (by first | rfl | omega) (by first | omega | (dsimp only at *; omega)))) rfl (by kernel_rfl) ?_
  refine fl_on 15 rfl rfl rfl rfl (fun _ => (v_fa TF.f57_1 rfl)) rfl (by kernel_rfl) ?_
  refine fl_ond 16 rfl rfl rfl rfl (v_load rfl (hrs st.im)) rfl (by kernel_rfl) ?_
  refine fl_on 17 rfl rfl rfl rfl (fun _ => (v_move' (by conv => (lhs; whnf)))) rfl (by kernel_rfl) ?_
  refine fl_on 18 rfl rfl rfl rfl (fun _ => (v_move' (by conv => (lhs; whnf)))) rfl (by kernel_rfl) ?_
  refine fl_on 19 rfl rfl rfl rfl (fun _ => (v_ias i Tryz.underlying22 TF.t57 rfl rfl (by first | rfl | omega) (by first | omega | (dsimp only at *; omega)))) rfl (by kernel_rfl) ?_
  refine fl_on 20 rfl rfl rfl rfl (fun _ => (v_fa TF.f57_1 rfl)) rfl (by kernel_rfl) ?_
  refine fl_ond 21 rfl rfl rfl rfl (v_load rfl (hss st.im)) rfl (by kernel_rfl) ?_
  refine fl_on 22 rfl rfl rfl rfl (fun _ => (wl_valD (v_neb Tryz.underlying4 rfl rfl) (q := false) (by rw [heq]; simp))) rfl (by kernel_rfl) ?_
  refine fl_val 23 rfl (fun _ => (v_pick rfl)) rfl (by kernel_rfl) ?_
  refine fl_val 24 rfl (fun _ => (v_move' (by conv => (lhs; whnf)))) rfl (by kernel_rfl) ?_
  refine fl_on 25 rfl rfl rfl rfl (fun _ => (v_move' (by conv => (lhs; whnf)))) rfl (by kernel_rfl) ?_
  refine fl_on 26 rfl rfl rfl rfl (fun _ => (v_move' (by conv => (lhs; whnf)))) rfl (by kernel_rfl) ?_
  refine fl_on 27 rfl rfl rfl rfl (fun _ => (v_ias i Tryz.underlying22 TF.t57 rfl rfl (by first | rfl | omega) (by first | omega | (dsimp only at *; omega)))) rfl (by kernel_rfl) ?_
  refine fl_on 28 rfl rfl rfl rfl (fun _ => (v_fa TF.f57_2 rfl)) rfl (by kernel_rfl) ?_
  refine fl_ond 29 rfl rfl rfl rfl (v_load rfl (hrd st.im)) rfl (by kernel_rfl) ?_
  refine fl_on 30 rfl rfl rfl rfl (fun _ => (v_move' (by conv => (lhs; whnf)))) rfl (by kernel_rfl) ?_
  refine fl_on 31 rfl rfl rfl rfl (fun _ => (v_move' (by conv => (lhs; whnf)))) rfl (by kernel_rfl) ?_
  refine fl_on 32 rfl rfl rfl rfl (fun _ => (v_ias i Tryz.underlying22 TF.t57 rfl rfl (by first | rfl | omega) (by first | omega | (dsimp only at *; omega)))) rfl (by kernel_rfl) ?_
  refine fl_on 33 rfl rfl rfl rfl (fun _ => (v_fa TF.f57_2 rfl)) rfl (by kernel_rfl) ?_
  refine fl_ond 34 rfl rfl rfl rfl (v_load rfl (hsd st.im)) rfl (by kernel_rfl) ?_
  refine fl_eff1 35 [33, 32, 31, 30, 28, 27, 26, 25, 23, 22, 20, 19, 18, 17, 15, 14, 13, 12, 11, 10, 8, 7, 6, 5, 3, 2, 1, 0] [21, 16, 9, 4] (by kernel_rfl) ⟨obl_on rfl rfl rfl rfl rfl (v_load rfl (hsd st.im)), obl_on rfl rfl rfl rfl rfl (v_load rfl (hrd st.im)), obl_on rfl rfl rfl rfl rfl (v_load rfl (hss st.im)), obl_on rfl rfl rfl rfl rfl (v_load rfl (hrs st.im)), obl_ld rfl rfl rfl (v_load rfl (hsk st.im)), obl_ld rfl rfl rfl (v_load rfl (hrk st.im)), trivial⟩ rfl ?_
  refine wl_on rfl rfl ?_
  refine wl_call rfl (c_same17 st.im hokA hokB) rfl ?_
  rintro v52 w ⟨t52, rfl⟩
  have st := st.pure t52
  rw [decide_eq_true (by rw [heq])]
  refine wl_nil ⟨rfl, ?_⟩
  refine fl_on 36 rfl rfl rfl rfl (fun _ => (v_not rfl)) rfl (by kernel_rfl) ?_
  refine fl_val 37 rfl (fun _ => (v_pick rfl)) rfl (by kernel_rfl) ?_
  refine fl_nil (by kernel_rfl) ⟨obl_on rfl rfl rfl rfl rfl (v_load rfl (hss st.im)), obl_on rfl rfl rfl rfl rfl (v_load rfl (hrs st.im)), obl_ld rfl rfl rfl (v_load rfl (hsk st.im)), obl_ld rfl rfl rfl (v_load rfl (hrk st.im)), trivial⟩ ?_
  refine then_go ?_
  refine wc_false rfl ?_
  refine wc_skip ?_
  refine block_go (then_go ?_)
  refine wc_region ?_
  refine wl_val (v_move' (by conv => (lhs; whnf))) rfl ?_
  refine wl_val (v_add' (c := ((i + 1 : Nat) : Int)) rfl rfl (by omega) (by omega) (by omega)) rfl ?_
  refine wl_val (v_assign' (by conv => (lhs; whnf))) rfl ?_
  refine wl_nil ?_
  refine then_go ?_
  exact ⟨q - 1, by simp; omega, i + 1, by omega, rfl, rfl, rfl, st⟩
 ·refine wc_exit (then_exit (then_exit (block_hit ?_)))
  refine then_go ?_
  refine wc_seq ?_
  refine wc_region ?_
  refine wl_val (v_assign' (by conv => (lhs; whnf))) rfl ?_
  refine wl_nil ?_
  refine then_go ?_
  refine wc_ret ?_
  exact ret1 rfl ⟨st.touch, rfl⟩
theorem c_samekeys {kv vv ku vu : Value} {E G : List (By × DV)} (him : Im m wI) (hE : KyM m kv vv E) (hG : KyM m ku vu G) (h : kvs E = kvs G) (hl : E.length ≤ 1000000) :
  Ret Tryz.prog 58 #[.agg #[kv, vv], .agg #[ku, vu]] wI fun v w' => Out m wI w' fun _ => v = .bool true := by
 have st := St.start him
 have q1 := SlM.one1 hE.1
 have q2 := SlM.one1 hE.2.1
 have q3 := SlM.one1 hG.1
 have q4 := SlM.one1 hG.2.1
 have hGl : G.length ≤ 1000000 := by have := congrArg List.length h; rw [length_kvs, length_kvs] at this; omega
 refine ret_of Tryz.call58 Tryz.func58 rfl Tryz.ntmps58 Tryz.results58 rfl ?_
 refine wc_seq ?_
 refine wc_region ?_
 refine wl_box (v := .agg #[kv, vv]) rfl st rfl ?_
 intro b2 w st
 refine wl_box (v := .agg #[ku, vu]) rfl st rfl ?_
 intro b3 w st
 refine wl_val (v_assign' (by conv => (lhs; whnf))) rfl ?_
 refine wl_nil ?_
 refine then_go ?_
 refine wc_seq ?_
 refine wc_draw TF.mixed ?_
 have st := st.pure (touch_drew _)
 refine fl_ld 0 rfl (v_load rfl (st.reads (v := .agg #[kv, vv]) 1 rfl TF.t43 (getV_all rfl))) (by kernel_rfl) ?_
 refine fl_ld 2 rfl (v_load rfl (st.reads (v := .agg #[ku, vu]) 0 rfl TF.t43 (getV_all rfl))) (by kernel_rfl) ?_
 refine fl_eff1 1 [] [2] (by kernel_rfl) ⟨obl_ld rfl rfl rfl (v_load rfl (st.reads (v := .agg #[ku, vu]) 0 rfl TF.t43 (getV_all rfl))), obl_ld rfl rfl rfl (v_load rfl (st.reads (v := .agg #[kv, vv]) 1 rfl TF.t43 (getV_all rfl))), trivial⟩ rfl ?_
 refine wl_call rfl (c_rwhole st.im hE hl) rfl ?_
 rintro v6 w ⟨t6, m1, hg1, hi1, A, hA, hAE⟩
 have st := st.grown hg1 t6 hi1
 refine wl_nil ⟨rfl, ?_⟩
 refine fl_eff1 3 [] [] (by kernel_rfl) ⟨obl_ld rfl rfl rfl (v_load rfl (st.reads (v := .agg #[ku, vu]) 0 rfl TF.t43 (getV_all rfl))), trivial⟩ rfl ?_
 refine wl_call rfl (c_rwhole st.im (hG.mono hg1.le) hGl) rfl ?_
 rintro v8 w ⟨t8, m2, hg2, hi2, B, hB, hBG⟩
 have st := st.grown hg2 t8 hi2
 refine wl_nil ⟨rfl, ?_⟩
 refine fl_eff1 4 [] [] (by kernel_rfl) trivial rfl ?_
 have hAl : A.length = E.length := by have := congrArg List.length hAE; simpa [actsOf] using this
 refine wl_call rfl (c_sameacts st.im (hA.mono hg2.le) hB (by rw [hAE, hBG, h]) (by omega)) rfl ?_
 rintro v9 w ⟨t9, rfl⟩
 have st := st.pure t9
 refine wl_nil ⟨rfl, ?_⟩
 refine fl_eff1 5 [] [] (by kernel_rfl) trivial rfl ?_
 refine wl_val (v_assign' (by conv => (lhs; whnf))) rfl ?_
 refine wl_nil ⟨rfl, ?_⟩
 refine fl_nil (by kernel_rfl) trivial ?_
 refine then_go ?_
 refine wc_ret ?_
 exact ret1 rfl ((st.keepOnly (l := []) (List.nil_sublist _)).out rfl)
end
end Go.Proofs.YtladpaehbolghaaGreat

namespace Go.Proofs.YtladpaehbolghaaGreat
open Go Go.RowKit K SH GC JR OS
open DK hiding By
namespace OS
def BatsM (m : Mem) (v : Value) (L : List (List AcT × Value)) : Prop := SlM m v 1 L.length (L.map (·.2)) ∧ ∀ x ∈ L, AcsM m x.2 x.1
theorem BatsM.mono {m m' : Mem} {v : Value} {L : List (List AcT × Value)} (h : BatsM m v L) (hm : ∀ k o, m k = some o → m' k = some o) : BatsM m' v L := ⟨h.1.mono hm, fun x hx => (h.2 x hx).mono hm⟩
end OS
section
variable {m0 m : Mem} {wI w0 w : World} {Es : List Ent}
theorem OS.BatsM.at {v : Value} {L : List (List AcT × Value)} (h : BatsM m v L) {i : Nat} (hi : i < L.length) : ∃ b o c, v = .slice (some ⟨b, o, none⟩) L.length c ∧ ∀ {w : World} (_ : Im m w), Reads Tryz.prog w 22 ⟨b, o + i * 1, none⟩ L[i].2 := by
 obtain ⟨b, o, c, hv, _, hr⟩ := h.1.elem Tryz.prog (i := i) hi (by omega)
 refine ⟨b, o, c, hv, fun {w} him => ?_⟩
 have := hr him (off := 0) (v' := L[i].2) TF.t22 (by
  have e : cellsAt (L.map (·.2)) 1 i = [L[i].2] := by simp [cellsAt, List.drop_eq_getElem_cons, hi]
  rw [e]
  rfl)
 simpa using this
end
end Go.Proofs.YtladpaehbolghaaGreat

namespace Go.Proofs.YtladpaehbolghaaGreat
open Go Go.RowKit K SH DK JR
def actR (W : List By) (o : OpV) (n : Nat) : Nat := if o.ag = true then resR (o.M.map (·.1)) n else appR W o.B n
section
variable {m0 m : Mem} {w0 w : World} {Es : List Ent}
theorem JR.LogOk.few {n : Nat} {S : By} {s : LG} {L : List By} (h : LogOk n S s L) : L.length ≤ 8192 ∧ ∀ x ∈ L, x.length ≤ 1048576 := by
 have h1 := sizeL_ge (l := L)
 have h2 := h.fit
 have h3 := h.nle
 exact ⟨by omega, fun x hx => (h.okr x hx).2⟩
end
end Go.Proofs.YtladpaehbolghaaGreat

namespace Go.Proofs.YtladpaehbolghaaGreat
open Go Go.RowKit K SH GC JR OS
open DK hiding By
section
variable {m0 m : Mem} {w0 w : World} {Es : List Ent}
abbrev wkA (b : Nat) : List AcT := [(⟨[97], true, [120]⟩, .slice (some ⟨b, 0, none⟩) 1 1), (⟨[98], false, []⟩, .slice none 0 0)]
abbrev wkL : List Ac := [⟨[97], true, [120]⟩, ⟨[98], false, []⟩]
theorem wk_chk : chkL wkL = 0 := by
 unfold chkL
 rw [if_pos]
 refine ⟨by decide, ?_, by decide⟩
 intro a ha
 rcases List.mem_cons.1 ha with rfl | ha
 ·exact ⟨by decide, by decide, .inl rfl, by decide⟩
 ·rw [List.mem_singleton.1 ha]; exact ⟨by decide, by decide, .inr rfl, by decide⟩
theorem wk_done : doneS [] wkL = [([97], [120])] := by decide
theorem wk_app : applyR [] [] wkL 8 = ([([97], [120])], [batB wkL], 0) := by
 have h1 : (batB wkL).length ≤ 73 := by
  unfold batB
  rw [List.length_append]
  have h := flat_lenA (L := wkL) (by decide)
  have h2 : bulkA wkL + 30 * wkL.length = 63 := by decide
  have h3 := numB_len10 (n := wkL.length) (by decide)
  omega
 have h0 : 1 ≤ (batB wkL).length := by
  unfold batB
  rw [List.length_append]
  have := numB_pos (n := wkL.length)
  omega
 have h2 : appR [] (batB wkL) 8 = 0 := by
  unfold appR
  have hc : checkE (batB wkL) = 0 := by unfold checkE; rw [if_pos ⟨h0, by omega⟩]
  rw [if_neg (by rw [hc]; decide), if_pos]
  unfold sizeL recL
  simp
  omega
 unfold applyR
 rw [if_neg (by rintro (h | h); exact h wk_chk; cases h), if_pos h2, wk_done]
 rfl
theorem c_works15 (st : St m0 m [] w0 w Es) : Ret Tryz.prog 9 #[] w fun v w' => (∃ m', (∀ k o, m k = some o → m' k = some o) ∧ St m0 m' [] w0 w' Es) ∧ v = .bool true := by
 refine ret_of Tryz.call9 Tryz.func9 rfl Tryz.ntmps9 Tryz.results9 rfl ?_
 refine wc_seq ?_
 refine wc_region ?_
 refine wl_val (v_assign' (by conv => (lhs; whnf))) rfl ?_
 refine wl_nil ?_
 refine then_go ?_
 refine wc_seq ?_
 refine wc_region ?_
 refine wl_call rfl (c_new 8 st.im) rfl ?_
 intro v9 w h9
 rw [if_neg (by decide)] at h9
 obtain ⟨p, ⟨b, s, wv, rfl, t9, hE⟩, rfl⟩ := h9
 have st := st.new t9 hE
 obtain ⟨S1, s1, ho, hlog, hgen⟩ := open_new (n := 8) (by decide) (by decide)
 have st : St m0 m [] w0 w (diskO b s 8 wv (calm (List.replicate (64 * 8) 0)) :: Es) := st
 refine wl_val (v_move' (by conv => (lhs; whnf))) rfl ?_
 refine wl_val (v_extract rfl rfl) rfl ?_
 refine wl_val (v_extract rfl rfl) rfl ?_
 refine wl_val (v_assign' (by conv => (lhs; whnf))) rfl ?_
 refine wl_val (v_assign' (by conv => (lhs; whnf))) rfl ?_
 refine wl_nil ?_
 refine then_go ?_
 refine wc_seq ?_
 refine wc_seq ?_
 refine wc_region ?_
 refine wl_val (v_move' (by conv => (lhs; whnf))) rfl ?_
 refine wl_val (wl_valD (v_neq rfl rfl) (q := false) rfl) rfl ?_
 refine wl_val (v_move' (by conv => (lhs; whnf))) rfl ?_
 refine wl_on rfl rfl ?_
 refine wl_val (v_move' (by conv => (lhs; whnf))) rfl ?_
 refine wl_on rfl rfl ?_
 refine wl_val (v_eq_nil (p := some ⟨b, 0, none⟩) Tryz.underlying35 rfl rfl) rfl ?_
 refine wl_val (v_pick rfl) rfl ?_
 refine wl_nil ?_
 refine then_go ?_
 refine wc_false rfl ?_
 refine wc_skip ?_
 refine then_go ?_
 refine wc_seq ?_
 refine wc_region ?_
 refine wl_val (v_move' (by conv => (lhs; whnf))) rfl ?_
 refine wl_call rfl (c_sopen st List.length_replicate (by decide) (by decide) ho hlog) rfl ?_
 rintro v20 w ⟨g, sb, mb, m1, wv1, lv, N', L', rfl, hmm1, _, hN, _, _, hpL, st⟩
 have hN0 : N' = [] := List.map_eq_nil_iff.1 hN
 subst hN0
 have hL0 : L' = [] := List.map_eq_nil_iff.1 (List.nil_perm.1 hpL)
 subst hL0
 refine wl_val (v_move' (by conv => (lhs; whnf))) rfl ?_
 refine wl_val (v_extract rfl rfl) rfl ?_
 refine wl_val (v_extract rfl rfl) rfl ?_
 refine wl_val (v_assign' (by conv => (lhs; whnf))) rfl ?_
 refine wl_val (v_assign' (by conv => (lhs; whnf))) rfl ?_
 refine wl_nil ?_
 refine then_go ?_
 refine wc_seq ?_
 refine wc_seq ?_
 refine wc_region ?_
 refine wl_val (v_move' (by conv => (lhs; whnf))) rfl ?_
 refine wl_val (wl_valD (v_neq rfl rfl) (q := false) rfl) rfl ?_
 refine wl_val (v_move' (by conv => (lhs; whnf))) rfl ?_
 refine wl_on rfl rfl ?_
 refine wl_val (v_move' (by conv => (lhs; whnf))) rfl ?_
 refine wl_on rfl rfl ?_
 refine wl_val (v_eq_nil (p := some ⟨sb, 0, none⟩) Tryz.underlying36 rfl rfl) rfl ?_
 refine wl_val (v_pick rfl) rfl ?_
 refine wl_val (v_move' (by conv => (lhs; whnf))) rfl ?_
 refine wl_on rfl rfl ?_
 refine wl_val (v_move' (by conv => (lhs; whnf))) rfl ?_
 refine wl_on rfl rfl ?_
 refine wl_byte1 120 Tryz.underlying23 TF.t5 TF.z5 rfl st rfl ?_
 intro b31 w st
 refine wl_on rfl rfl ?_
 refine wl_constB Tryz.underlying23 Tryz.underlying5 rfl st (by simp) rfl ?_
 intro m2 w hmm2 hm2 st
 have hb31 : SlM m2 (.slice (some ⟨b31, 0, none⟩) 1 1) 1 [(120 : UInt8)].length (bs [120]) := by
  exact SlM.ofBlock (o := 0) (cap := 1) (l := [120]) (pre := []) (post := []) hm2 rfl rfl (Nat.le_refl _)
 refine wl_on rfl rfl ?_
 refine wl_val (v_build (c' := (acC ⟨[97], true, [120]⟩ (.slice (some ⟨b31, 0, none⟩) 1 1)).toArray) [(0, .string (strB [97])), (1, .bool true), (2, .slice (some ⟨b31, 0, none⟩) 1 1)] TF.z57 TF.p57 rfl (fill_one [] [.string ⟨#[]⟩] [.bool false, .slice none 0 0] rfl rfl rfl (fill_one [.string (strB [97])] [.bool false] [.slice none 0 0] rfl rfl rfl (fill_one [.string (strB [97]), .bool true] [.slice none 0 0] [] rfl rfl rfl rfl)))) rfl ?_
 refine wl_on rfl rfl ?_
 refine wl_val (v_build (c' := (acC ⟨[98], false, []⟩ (.slice none 0 0)).toArray) [(0, .string (strB [98]))] TF.z57 TF.p57 rfl (fill_one [] [.string ⟨#[]⟩] [.bool false, .slice none 0 0] rfl rfl rfl rfl)) rfl ?_
 refine wl_on rfl rfl ?_
 refine wl_lsTwo (acC ⟨[97], true, [120]⟩ (.slice (some ⟨b31, 0, none⟩) 1 1)) (acC ⟨[98], false, []⟩ (.slice none 0 0)) Tryz.underlying22 TF.t57 TF.z57 (by decide) (by decide) rfl rfl rfl rfl st rfl ?_
 intro b35 w st
 have st : St m0 m2 [] w0 w (acE (.slice (some ⟨b35, 0, none⟩) 2 2) (wkA b31) :: lgE g b s 8 s1 lv wv1 S1 [] (stE sb g mb [] Es)) := st.rowShut 0 (b := b35) (k := 2) (cap := 2) (size := 3) rfl (by decide) rfl (by decide) rfl
 obtain ⟨m3, hg3, hls, st⟩ := st.keepLs (i := 0) rfl (fun _ _ => rfl)
 have hA : AcsM m3 (.slice (some ⟨b35, 0, none⟩) 2 2) (wkA b31) := ⟨hls, fun a ha => by
  rcases List.mem_cons.1 ha with rfl | ha
  ·exact ⟨by show 1 ≤ 9223372036854775807; omega, hb31.mono hg3.le⟩
  ·rw [List.mem_singleton.1 ha]; exact ⟨by show 1 ≤ 9223372036854775807; omega, SlM.nil⟩⟩
 have st : St m0 m3 [] w0 w (lgE g b s 8 s1 lv wv1 S1 [] (stE sb g mb [] Es)) := st
 have hmm3 : ∀ k o, m k = some o → m3 k = some o := fun k o h => hg3.le k o (hmm2 k o (hmm1 k o h))
 refine wl_on rfl rfl ?_
 refine wl_call rfl (c_sapply (N := []) (L := []) (M := []) st hlog (by rw [hgen]; decide) (by intro x hx; cases hx) (by intro x hx; cases hx) (by simp [Risen]) (List.Perm.refl _) hA (by simp) (by decide) (by simp [bulkK, bulkA])) rfl ?_
 rintro v36 w ⟨m4, wv4, lv4, N4, S4, sl4, L4, hmm4, rfl, _, _, _, _, _, hL4, _, hp4, st⟩
 have hap : applyR [] (([] : List (By × Value)).map (·.1)) ((wkA b31).map (·.1)) 8 = ([([97], [120])], [batB wkL], 0) := wk_app
 rw [hap] at hp4 ⊢
 refine wl_on rfl rfl ?_
 refine wl_val (wl_valD (v_neq rfl rfl) (q := false) rfl) rfl ?_
 refine wl_val (v_pick rfl) rfl ?_
 refine wl_nil ?_
 refine then_go ?_
 refine wc_false rfl ?_
 refine wc_skip ?_
 refine then_go ?_
 refine wc_seq ?_
 refine wc_region ?_
 refine wl_val (v_move' (by conv => (lhs; whnf))) rfl ?_
 refine wl_call rfl (c_sget (k := [97]) st hL4 (by simp [Risen]) hp4 (by simp)) rfl ?_
 rintro v41 w ⟨u, hv41, st⟩
 have e41 : getKV ([97] : By) ([([97], [120])] : Kys) = some [120] := by decide
 rw [e41] at hv41 st
 subst hv41
 obtain ⟨m5, hg5, hm5, st5⟩ := st.freezeR (i := 0) rfl (by simp)
 have hu : SlM m5 u 1 [(120 : UInt8)].length (bs [120]) := row_SlM (m := m5) (st.at (i := 0) rfl) hm5
 have st : St m0 m5 [] w0 w (lgE g b s 8 sl4 lv4 wv4 S4 N4 (stE sb g mb L4 Es)) := st5
 have hL5 := hL4.mono hg5.le
 refine wl_val (v_move' (by conv => (lhs; whnf))) rfl ?_
 refine wl_val (v_extract rfl rfl) rfl ?_
 refine wl_val (v_extract rfl rfl) rfl ?_
 refine wl_val (v_assign' (by conv => (lhs; whnf))) rfl ?_
 refine wl_val (v_assign' (by conv => (lhs; whnf))) rfl ?_
 refine wl_nil ?_
 refine then_go ?_
 refine wc_seq ?_
 refine wc_region ?_
 refine wl_val (v_move' (by conv => (lhs; whnf))) rfl ?_
 refine wl_call rfl (c_sget (k := [98]) st hL5 (by simp [Risen]) hp4 (by simp)) rfl ?_
 rintro v46 w ⟨u2, hv46, st⟩
 have e46 : getKV ([98] : By) ([([97], [120])] : Kys) = none := by decide
 rw [e46] at hv46 st
 subst hv46
 have st : St m0 m5 [] w0 w (lgE g b s 8 sl4 lv4 wv4 S4 N4 (stE sb g mb L4 Es)) := st.drop 0
 refine wl_val (v_move' (by conv => (lhs; whnf))) rfl ?_
 refine wl_val (v_extract rfl rfl) rfl ?_
 refine wl_val (v_extract rfl rfl) rfl ?_
 refine wl_val (v_assign' (by conv => (lhs; whnf))) rfl ?_
 refine wl_val (v_assign' (by conv => (lhs; whnf))) rfl ?_
 refine wl_nil ?_
 refine then_go ?_
 refine wc_seq ?_
 refine wc_region ?_
 refine wl_val (v_move' (by conv => (lhs; whnf))) rfl ?_
 refine wl_val (v_move' (by conv => (lhs; whnf))) rfl ?_
 refine wl_on rfl rfl ?_
 refine wl_val (v_move' (by conv => (lhs; whnf))) rfl ?_
 refine wl_on rfl rfl ?_
 refine wl_val (v_b2s Tryz.underlying23 Tryz.underlying5 Tryz.underlying9 st.im hu rfl) rfl ?_
 refine wl_on rfl rfl ?_
 refine wl_val (wl_valD (v_eqs (a := [120]) (b := [120]) rfl rfl) (q := true) rfl) rfl ?_
 refine wl_val (v_pick rfl) rfl ?_
 refine wl_val (v_move' (by conv => (lhs; whnf))) rfl ?_
 refine wl_on rfl rfl ?_
 refine wl_val (v_move' (by conv => (lhs; whnf))) rfl ?_
 refine wl_on rfl rfl ?_
 refine wl_val (v_not rfl) rfl ?_
 refine wl_val (v_pick rfl) rfl ?_
 refine wl_val (v_move' (by conv => (lhs; whnf))) rfl ?_
 refine wl_on rfl rfl ?_
 refine wl_val (v_move' (by conv => (lhs; whnf))) rfl ?_
 refine wl_on rfl rfl ?_
 refine wl_call rfl (c_slen st) rfl ?_
 rintro v61 w ⟨t61, rfl⟩
 have st := st.pure t61
 have hl4 : L4.length = 1 := by have := hp4.length_eq; rw [length_kvs] at this; exact this.symm
 refine wl_on rfl rfl ?_
 refine wl_val (v_eqlT (by rw [hl4]; rfl) rfl rfl) rfl ?_
 refine wl_val (v_pick rfl) rfl ?_
 refine wl_val (v_assign' (by conv => (lhs; whnf))) rfl ?_
 refine wl_nil ?_
 refine then_go ?_
 refine wc_ret ?_
 exact ret1 rfl ⟨⟨m5, fun k o h => hg5.le k o (hmm4 k o (hmm3 k o h)), ((((st.drop 0).drop 0).drop 0).drop 0).drop 0⟩, rfl⟩
end
end Go.Proofs.YtladpaehbolghaaGreat

namespace Go.Proofs.YtladpaehbolghaaGreat
open Go Go.RowKit K SH GC JR OS
open DK hiding By
end Go.Proofs.YtladpaehbolghaaGreat

namespace Go.Proofs.YtladpaehbolghaaGreat
open Go Go.RowKit Go.ChangeShapes Go.WideShapes K SH GC JR OS
open DK hiding By
section
variable {H : Type} {enc : TypeId × Value → H} {w : World} {sp : Nat → Bool} {held : Bool} {fuel : Nat} {x : DataW H × List MemPlace} {v : Value} {cs : List Value}
theorem trod_strB (h : DataW.trod enc Tryz.prog w 0 sp held fuel 9 cs = some x) : ∃ s : By, cs = [.string (strB s)] ∧ s.length ≤ 9223372036854775807 ∧ s.length ≤ Rows.uptoBulk x.1 := by
 obtain ⟨s, q, hd, hs⟩ := DataW.trod_string Tryz.underlying9 h
 refine ⟨s.data.toList, by rw [q]; rfl, by unfold maxLen at hs; simpa using hs, ?_⟩
 rw [hd]
 simp [Rows.uptoBulk]
set_option maxRecDepth 100000 in
theorem open_str {W : World} {r : Reach} {base : Nat} {d : DataW H} {p : List MemPlace} (hv : Value.okWide Tryz.prog W r base 9 v) (h : DataW.Trod enc Tryz.prog w 0 sp held 9 v d p) : ∃ s : By, v = .string (strB s) ∧ s.length ≤ 9223372036854775807 := by
 obtain ⟨s, rfl⟩ := okWide_string Tryz.underlying9 hv
 obtain ⟨fu, hf⟩ := h
 obtain ⟨l, q, hl, _⟩ := trod_strB hf
 exact ⟨l, by simpa [Value.cells] using q, hl⟩
end
end Go.Proofs.YtladpaehbolghaaGreat

namespace Go.Proofs.YtladpaehbolghaaGreat
open Go Go.RowKit K SH GC JR OS
open DK hiding By
theorem v_eq_nilfunc {P : Program} {r : Fr} {w : World} {ty : TypeId} {T U : TypeId} {x y : Operand} {ps rs : Array TypeId} {vd : Bool} {f : Fn} {a b : Array Value} (hT : P.underlying T = some (.func ps rs vd)) (hx : ev r x = .func f a b) (hy : ev r y = .nilFunc) : Val P (.binOp .eql T x y U) ty r w (.bool false) w := by
 intro _ _ _ _
 have h : (Op.equal T (.func f a b) .nilFunc).run P w = .ok false w := by
  unfold Op.equal
  rw [show Op.maxDepth = 9999 + 1 from rfl, Op.equalIn]
  simp only [Sem.run_bind, run_underlying hT, Result.andThen_ok]
  rfl
 simp [execOp, eqGuard, binOp, hx, hy, h]
section
variable {m0 m : Mem} {F : List Nat} {w0 w : World} {Es Xs : List Ent}
theorem c_slenX {sb mb g : Nat} {L : List (By × DV)} (i : Nat) (st : St m0 m F w0 w Xs) (hi : Xs[i]? = some (K.blk sb #[.pointer (some ⟨g, 0, none⟩), .map (some mb)] 95)) (hj : Xs[i + 1]? = some (kmE mb L)) :
  Ret Tryz.prog 34 #[.pointer (some ⟨sb, 0, none⟩)] w fun v w' => Tch w w' [] [] ∧ v = .int .i64 L.length := by
 refine ret_of Tryz.call34 Tryz.func34 rfl Tryz.ntmps34 Tryz.results34 rfl ?_
 refine wc_seq ?_
 refine wc_region ?_
 refine wl_val (v_assign' (by conv => (lhs; whnf))) rfl ?_
 refine wl_nil ?_
 refine then_go ?_
 refine wc_seq ?_
 refine wc_region ?_
 refine wl_val (v_move' (by conv => (lhs; whnf))) rfl ?_
 refine wl_val (v_nil rfl) rfl ?_
 refine wl_val (v_fa TF.f95_1 rfl) rfl ?_
 refine wl_val (v_load rfl (st.reads (v := .map (some mb)) i hi TF.t93 rfl)) rfl ?_
 refine wl_val (v_mapLen (i + 1) st hj Tryz.underlying93 rfl) rfl ?_
 refine wl_val (v_assign' (by conv => (lhs; whnf))) rfl ?_
 refine wl_nil ?_
 refine then_go ?_
 refine wc_ret ?_
 exact ret1 rfl ⟨Tch.refl _ _, rfl⟩
abbrev alE (kv vv : Value) (E : List (By × DV)) (T : List Ent → List Ent) (Es : List Ent) : List Ent := ksE kv E :: vsE vv E :: T (rowsE (E.map (·.2)) ++ Es)
theorem kvs_app {A B : List (By × DV)} : kvs (A ++ B) = kvs A ++ kvs B := List.map_append ..
theorem c_sallK {sb mb g b s n : Nat} {sl : LG} {lv wv : Value} {S : By} {N : List (By × Value)} {L : List (By × DV)} {M : Kys}
  (st : St m0 m [] w0 w (lgE g b s n sl lv wv S N (stE sb g mb L Es))) (hL : KvOk m L) (hM : Risen M) (hp : M.Perm (kvs L)) (hl : L.length ≤ 1000000) :
  Ret Tryz.prog 28 #[.pointer (some ⟨sb, 0, none⟩)] w fun v w' => ∃ kv vv E m', v = .tuple #[.agg #[kv, vv], .bool true] ∧ kvs E = M ∧ (∀ k o, m k = some o → m' k = some o) ∧ St m0 m' [] w0 w' (alE kv vv E (fun X => lgE g b s n sl lv wv S N (stE sb g mb L X)) Es) := by
 have hMl : M.length = L.length := by have := hp.length_eq; rw [length_kvs] at this; exact this
 refine ret_ofX Tryz.call28 Tryz.func28 rfl Tryz.ntmps28 Tryz.results28 rfl ?_
 refine wx_seqc ?_
 refine wc_region ?_
 refine wl_box (v := .pointer (some ⟨sb, 0, none⟩)) rfl st rfl ?_
 intro b1 w st
 refine wl_alloc TF.z43 st rfl ?_
 intro b2 w st
 refine wl_alloc TF.z4 st rfl ?_
 intro b3 w st
 refine wl_nil ?_
 refine then_go ?_
 refine wx_seqc ?_
 refine wc_region ?_
 refine wl_val (v_build (c' := #[.slice none 0 0, .slice none 0 0]) [] TF.z43 TF.p43 rfl rfl) rfl ?_
 refine wl_alloc TF.z43 st rfl ?_
 intro b4 w st
 refine wl_storeW (cs := #[.slice none 0 0, .slice none 0 0]) 0 st rfl TF.t43 rfl rfl rfl rfl (by simp [Value.oneCell']) ?_
 intro w st
 refine wl_nil ?_
 refine then_go ?_
 refine wx_seqc ?_
 refine wc_region ?_
 refine wl_val (v_load rfl (st.reads (v := .pointer (some ⟨sb, 0, none⟩)) 3 rfl TF.t36 rfl)) rfl ?_
 have st : St m0 m [] w0 w ([K.blk b4 #[.slice none 0 0, .slice none 0 0] 43, K.blk b3 #[.bool false] 4, K.blk b2 #[.slice none 0 0, .slice none 0 0] 43, K.blk b1 #[.pointer (some ⟨sb, 0, none⟩)] 36] ++ (lgE g b s n sl lv wv S N (stE sb g mb L []) ++ Es)) := st
 have st := st.perm (show List.Perm _ (lgE g b s n sl lv wv S N (stE sb g mb L []) ++ ([K.blk b4 #[.slice none 0 0, .slice none 0 0] 43, K.blk b3 #[.bool false] 4, K.blk b2 #[.slice none 0 0, .slice none 0 0] 43, K.blk b1 #[.pointer (some ⟨sb, 0, none⟩)] 36] ++ Es)) by rw [← List.append_assoc, ← List.append_assoc]; exact List.perm_append_comm.append_right _)
 refine wl_call rfl (c_sall st hL hM hp (by omega)) rfl ?_
 rintro v10 w ⟨ba, m1, av, A, rfl, hmm1, hA, hAM, hba, st⟩
 have st : St m0 m1 [] w0 w (lgE g b s n sl lv wv S N (stE sb g mb L []) ++ ([K.blk b4 #[.slice none 0 0, .slice none 0 0] 43, K.blk b3 #[.bool false] 4, K.blk b2 #[.slice none 0 0, .slice none 0 0] 43, K.blk b1 #[.pointer (some ⟨sb, 0, none⟩)] 36] ++ Es)) := st
 have st := st.perm (show List.Perm _ ([K.blk b4 #[.slice none 0 0, .slice none 0 0] 43, K.blk b3 #[.bool false] 4, K.blk b2 #[.slice none 0 0, .slice none 0 0] 43, K.blk b1 #[.pointer (some ⟨sb, 0, none⟩)] 36] ++ (lgE g b s n sl lv wv S N (stE sb g mb L []) ++ Es)) by rw [← List.append_assoc, ← List.append_assoc]; exact List.perm_append_comm.append_right _)
 have st := nilRow st 23 1
 have st := nilRow st 9 1
 have hAl : A.length = M.length := by have := congrArg List.length hAM; simpa [actsOf] using this
 have hAe : ∀ i (h : i < A.length), A[i].1 = ⟨(M[i]'(by omega)).1, true, (M[i]'(by omega)).2⟩ := fun i h => by
  have h1 : (A.map (·.1))[i]'(by simpa using h) = (actsOf M)[i]'(by simp [actsOf]; omega) := by simp [hAM]
  simpa [actsOf] using h1
 have hAd : ∀ a ∈ A, a.1.data.length ≤ 1048576 := fun a ha => by
  have h1 : a.1 ∈ actsOf M := by rw [← hAM]; exact List.mem_map.2 ⟨a, ha, rfl⟩
  obtain ⟨z, hz, e⟩ := List.mem_map.1 h1
  obtain ⟨y, hy, e2⟩ := List.mem_map.1 (hp.mem_iff.1 hz)
  rw [← e, ← e2]
  exact (hL y hy).2.1
 obtain ⟨T, hT⟩ : ∃ T : List Ent → List Ent, T = fun X => lgE g b s n sl lv wv S N (stE sb g mb L X) := ⟨_, rfl⟩
 have st : St m0 m1 [] w0 w (ksE (.slice none 0 0) [] :: vsE (.slice none 0 0) [] :: K.blk b4 #[.slice none 0 0, .slice none 0 0] 43 :: K.blk b3 #[.bool false] 4 :: K.blk b2 #[.slice none 0 0, .slice none 0 0] 43 :: K.blk b1 #[.pointer (some ⟨sb, 0, none⟩)] 36 :: lgE g b s n sl lv wv S N (stE sb g mb L (rowsE (([] : List (By × DV)).map (·.2)) ++ Es))) := st
 refine wl_val (v_assign' (by conv => (lhs; whnf))) rfl ?_
 refine wl_nil ?_
 refine then_go ?_
 refine wx_seqc ?_
 refine wc_seq ?_
 refine wc_region ?_
 refine wl_val (v_move' (by conv => (lhs; whnf))) rfl ?_
 refine wl_val (v_eq_nilfunc Tryz.underlying64 rfl rfl) rfl ?_
 refine wl_nil ?_
 refine then_go ?_
 refine wc_false rfl ?_
 refine wc_skip ?_
 refine then_go ?_
 refine wx_cut (fun ds r w' => ∃ (D l : Nat) (o : Obj) (kv vv : Value) (E : List (By × DV)), ds = [K.mark D] ∧ r 2 = .pointer (some ⟨b2, 0, none⟩) ∧ r 3 = .pointer (some ⟨b3, 0, none⟩) ∧ r 4 = .pointer (some ⟨b4, 0, none⟩) ∧ kvs E = M ∧ kv.oneCell' = true ∧ vv.oneCell' = true ∧ St m0 m1 [] w0 w' (objE l o :: objE D (.deferred (some [])) :: ksE kv E :: vsE vv E :: K.blk b4 #[kv, vv] 43 :: K.blk b3 #[.bool false] 4 :: K.blk b2 #[.slice none 0 0, .slice none 0 0] 43 :: K.blk b1 #[.pointer (some ⟨sb, 0, none⟩)] 36 :: lgE g b s n sl lv wv S N (stE sb g mb L (rowsE (E.map (·.2)) ++ Es)))) ?_ ?_
 ·refine wx_seqc ?_
  refine wc_region ?_
  refine wl_val (v_move' (by conv => (lhs; whnf))) rfl ?_
  refine wl_nil ?_
  refine then_go ?_
  refine wx_block ?_
  refine wx_range (lb := [.pointer (some ⟨ba, 0, none⟩)]) rfl Tryz.call64 st ?_
  intro l D fn tmps rec w1 hrec htm hval st
  refine Calls.mono (c_sall1 (l := l) (mA := m1)
   (J := fun i W => ∃ (kv vv : Value) (E : List (By × DV)), kvs E = M.take i ∧ kv.oneCell' = true ∧ vv.oneCell' = true ∧ St m0 m1 [] w0 W (objE l (.loop (rec .ready none)) :: objE D (.deferred (some [])) :: ksE kv E :: vsE vv E :: K.blk b4 #[kv, vv] 43 :: K.blk b3 #[.bool false] 4 :: K.blk b2 #[.slice none 0 0, .slice none 0 0] 43 :: K.blk b1 #[.pointer (some ⟨sb, 0, none⟩)] 36 :: lgE g b s n sl lv wv S N (stE sb g mb L (rowsE (E.map (·.2)) ++ Es))))
   (Jx := fun _ => False) (fun _ _ ⟨_, _, _, _, _, _, h⟩ => h.im) ?_ hA (by omega) hAd ⟨_, _, [], rfl, rfl, rfl, st⟩ (st.readm hba TF.t22 (by first | rfl | exact getV_all rfl))).2 ?_
  rintro i W W2 u hi ⟨kv, vv, E, hE, o1, o2, st⟩ sN
  have hiM : i < M.length := by omega
  rw [hAe i hi] at sN ⊢
  have st := st.newOf sN
  have st := st.perm (List.perm_middle (l₁ := [_, _, _, _, _, _, _, _, _, _, _, _, _])).symm
  have hE' : kvs (E ++ [(M[i].1, M[i].2, u)]) = M.take (i + 1) := by rw [kvs_app, hE, List.take_succ_eq_append_getElem hiM]; rfl
  have hEl : E.length = i := by have := congrArg List.length hE; rw [length_kvs, List.length_take] at this; omega
  have hrows : byE u M[i].2 :: (rowsE (E.map (·.2)) ++ Es) = rowsE ((E ++ [(M[i].1, M[i].2, u)]).map (·.2)) ++ Es := by simp [rowsE]
  have st : St m0 m1 [] w0 W2 (objE l (.loop (rec .ready none)) :: objE D (.deferred (some [])) :: ksE kv E :: vsE vv E :: K.blk b4 #[kv, vv] 43 :: K.blk b3 #[.bool false] 4 :: K.blk b2 #[.slice none 0 0, .slice none 0 0] 43 :: K.blk b1 #[.pointer (some ⟨sb, 0, none⟩)] 36 :: lgE g b s n sl lv wv S N (stE sb g mb L (rowsE ((E ++ [(M[i].1, M[i].2, u)]).map (·.2)) ++ Es))) := by rw [← hrows]; exact st
  have hu1 : u.oneCell' = true := byE_one sN 0 rfl
  obtain ⟨ka, kc, hkv⟩ := row_sl (st.at (i := 2) rfl)
  subst hkv
  refine yield_round hrec (st.at (i := 0) rfl) rfl htm hval rfl ?_
  ·refine wi_seq ?_
   refine wi_region (by kernel_rfl) (fun _ _ h => h) ?_
   refine wl_val (v_assign' (by conv => (lhs; whnf))) rfl ?_
   refine wl_nil ?_
   refine then_go ?_
   refine wi_region (by kernel_rfl) (fun _ _ h => h) ?_
   refine wl_val (v_assign' (by conv => (lhs; whnf))) rfl ?_
   refine wl_nil ?_
   refine then_go ⟨st.at (i := 0) rfl, ?_⟩
   have st := st.putObj 0 (.loop (rec .busy none)) rfl
   refine wi_block ?_
   refine wi_seq ?_
   refine wi_seq ?_
   refine wi_draw TF.mixed (by kernel_rfl) (fun _ _ h => h) ?_
   have st := st.pure (touch_drew _)
   refine fl_val 0 rfl (fun _ => (v_fa TF.f43_0 rfl)) rfl (by kernel_rfl) ?_
   refine fl_ld 1 rfl (v_load rfl (st.reads (v := .slice ka E.length kc) 4 rfl TF.t40 rfl)) (by kernel_rfl) ?_
   refine fl_val 2 rfl (fun _ => (v_len_s Tryz.underlying40 rfl)) rfl (by kernel_rfl) ?_
   refine fl_ld 3 rfl (v_load rfl (st.reads (v := .pointer (some ⟨sb, 0, none⟩)) 7 rfl TF.t36 rfl)) (by kernel_rfl) ?_
   refine fl_eff1 4 [2, 0] [1] (by kernel_rfl) ⟨obl_ld rfl rfl rfl (v_load rfl (st.reads (v := .pointer (some ⟨sb, 0, none⟩)) 7 rfl TF.t36 rfl)), obl_ld rfl rfl rfl (v_load rfl (st.reads (v := .slice ka E.length kc) 4 rfl TF.t40 rfl)), trivial⟩ rfl ?_
   refine wl_call rfl (c_slenX 11 st rfl rfl) rfl ?_
   rintro v21 w ⟨t21, rfl⟩
   have st := st.pure t21
   refine wl_nil ⟨rfl, ?_⟩
   refine fl_val 5 rfl (fun _ => (wl_valD (v_gtr (a := (E.length : Int)) (b := (L.length : Int)) rfl rfl) (q := false) (decide_eq_false (by omega)))) rfl (by kernel_rfl) ?_
   refine fl_nil (by kernel_rfl) ⟨obl_ld rfl rfl rfl (v_load rfl (st.reads (v := .slice ka E.length kc) 4 rfl TF.t40 rfl)), trivial⟩ ?_
   refine then_go ?_
   refine wi_false rfl ?_
   refine wi_skip ?_
   refine then_go ?_
   refine wi_seq ?_
   refine wi_region (by kernel_rfl) (fun _ _ h => h) ?_
   refine wl_val (v_fa TF.f43_0 rfl) rfl ?_
   refine wl_val (v_load rfl (st.reads (v := .slice ka E.length kc) 4 rfl TF.t40 rfl)) rfl ?_
   refine wl_val (v_move' (by conv => (lhs; whnf))) rfl ?_
   refine wl_rwOne (v := .string (strB M[i].1)) Tryz.underlying40 TF.t9 TF.z9 rfl rfl rfl st rfl ?_
   intro b27 w st
   refine wl_rwPut (fun x : By × DV => .string (strB x.1)) 2 (e := (M[i].1, M[i].2, u)) st rfl Tryz.underlying40 TF.t9 TF.z9 rfl rfl rfl rfl (by omega) (by omega) rfl ?_
   intro v28 w st o28
   refine wl_val (v_fa TF.f43_0 rfl) rfl ?_
   refine wl_store1 (v := v28) 4 st rfl TF.t40 rfl rfl o28 (lt_ok rfl) ?_
   intro w st
   refine wl_nil ?_
   refine then_go ?_
   refine wi_region (by kernel_rfl) (fun _ _ h => h) ?_
   refine wl_val (v_fa TF.f43_1 rfl) rfl ?_
   refine wl_val (v_load rfl (st.reads (v := vv) 4 rfl TF.t41 rfl)) rfl ?_
   refine wl_val (v_move' (by conv => (lhs; whnf))) rfl ?_
   refine wl_rwOne (v := u) Tryz.underlying41 TF.t23 TF.z23 rfl hu1 rfl st rfl ?_
   intro b33 w st
   refine wl_rwPut (fun x : By × DV => x.2.2) 3 (e := (M[i].1, M[i].2, u)) st rfl Tryz.underlying41 TF.t23 TF.z23 rfl hu1 rfl rfl (by omega) (by omega) rfl ?_
   intro v34 w st o34
   refine wl_val (v_fa TF.f43_1 rfl) rfl ?_
   refine wl_store1 (v := v34) 4 st rfl TF.t41 rfl rfl o34 (lt_ok rfl) ?_
   intro w st
   refine wl_nil ?_
   refine block_go ?_
   exact ⟨st.at (i := 0) rfl, .inl ⟨rfl, v28, v34, _, hE', o28, o34, st.putObj 0 _ rfl⟩⟩
  rintro e W ⟨v, rfl, ⟨kv, vv, E, hE, o1, o2, st⟩ | hF⟩
  ·have st2 := st.putObj 0 (.loop (rec .exhausted none)) rfl
   rw [List.take_of_length_le (by omega)] at hE
   exact ⟨v, rfl, .ready, none, by simp, st.at (i := 0) rfl, D, l, _, kv, vv, E, rfl, rfl, rfl, rfl, hE, o1, o2, st2⟩
  ·exact hF.elim
 ·clear st
  rintro ds r w ⟨D, l, o, kv, vv, E, rfl, h2, h3, h4, hE, o1, o2, st⟩
  refine wx_of_wc (wc_o 2 h2 (wc_o 3 h3 (wc_o 4 h4 ?_)))
  refine wc_seq ?_
  refine wc_region ?_
  refine wl_val (v_load rfl (st.reads (v := .agg #[kv, vv]) 4 rfl TF.t43 (getV_all rfl))) rfl ?_
  refine wl_storeW (cs := #[kv, vv]) 6 st rfl TF.t43 rfl rfl rfl rfl (by intro u hu; simp at hu; rcases hu with rfl | rfl <;> assumption) ?_
  intro w st
  refine wl_store1 (v := .bool true) 5 st rfl TF.t4 rfl rfl rfl (lt_ok rfl) ?_
  intro w st
  refine wl_nil ?_
  refine then_go ?_
  refine wc_ret ?_
  have hD' := st.at (i := 1) rfl
  have st7 := st.putObj 1 (.deferred none) rfl
  exact retX1 hD' (ret2cc (v := .agg #[kv, vv]) (v' := .bool true) rfl (st7.reads 6 rfl TF.t43 (getV_all rfl)) rfl (st7.reads 5 rfl TF.t4 rfl) ⟨kv, vv, E, m1, rfl, hE, hmm1, ((((((st7.drop 0).drop 0).drop 2).drop 2).drop 2).drop 2)⟩)
end
end Go.Proofs.YtladpaehbolghaaGreat

namespace Go.Proofs.YtladpaehbolghaaGreat
open Go Go.RowKit K SH GC JR OS
open DK hiding By
section
variable {m0 m : Mem} {w0 w : World} {Es : List Ent}
theorem all_keep {kv vv : Value} {E : List (By × DV)} {T : List Ent} (st : St m0 m [] w0 w (ksE kv E :: vsE vv E :: (T ++ (rowsE (E.map (·.2)) ++ Es)))) (h : ∀ x ∈ E, x.1.length ≤ 64 ∧ x.2.1.length ≤ 1048576) :
  ∃ m', (∀ k o, m k = some o → m' k = some o) ∧ KyM m' kv vv E ∧ St m0 m' [] w0 w (T ++ Es) := by
 obtain ⟨m1, hg1, hm1, st1⟩ := st.freezeR (i := 0) rfl (by simp)
 have hk := row_SlM (m := m1) (st.at (i := 0) rfl) hm1
 obtain ⟨m2, hg2, hm2, st2⟩ := st1.freezeR (i := 0) rfl (by simp)
 have hv := row_SlM (m := m2) (st1.at (i := 0) rfl) hm2
 have st3 : St m0 m2 [] w0 w (T ++ (rowsE (E.map (·.2)) ++ Es)) := st2
 have st4 := st3.perm (show List.Perm _ (rowsE (E.map (·.2)) ++ (T ++ Es)) by rw [← List.append_assoc, ← List.append_assoc]; exact List.perm_append_comm.append_right _)
 obtain ⟨m3, hmm3, hP, st5⟩ := rows_freeze (A := E.map (·.2)) st4
 exact ⟨m3, fun k o h => hmm3 k o (hg2.le k o (hg1.le k o h)), ⟨hk.mono fun k o h => hmm3 k o (hg2.le k o h), hv.mono hmm3, fun x hx => ⟨(h x hx).1, (h x hx).2, hP _ (List.mem_map.2 ⟨x, hx, rfl⟩)⟩⟩, st5⟩
theorem kvok_len {L E : List (By × DV)} {M : Kys} (hL : KvOk m L) (hp : M.Perm (kvs L)) (hE : kvs E = M) : ∀ x ∈ E, x.1.length ≤ 64 ∧ x.2.1.length ≤ 1048576 := fun x hx => by
 have h1 : (x.1, x.2.1) ∈ M := by rw [← hE]; exact List.mem_map.2 ⟨x, hx, rfl⟩
 obtain ⟨y, hy, e⟩ := List.mem_map.1 (hp.mem_iff.1 h1)
 have h2 := hL y hy
 have e : (y.1, y.2.1) = (x.1, x.2.1) := e
 rw [Prod.mk.injEq] at e
 rw [← e.1, ← e.2]
 exact ⟨h2.1, h2.2.1⟩
theorem c_like {sb mb g b s n : Nat} {sl : LG} {lv wv kv vv : Value} {S key : By} {N : List (By × Value)} {L G : List (By × DV)}
  (st : St m0 m [] w0 w (lgE g b s n sl lv wv S N (stE sb g mb L Es))) (hL : KvOk m L) (hM : Risen (kvs G)) (hp : (kvs G).Perm (kvs L)) (hl : L.length ≤ 1000000) (hG : KyM m kv vv G) (hk : key.length ≤ 9223372036854775807) :
  Ret Tryz.prog 25 #[.pointer (some ⟨sb, 0, none⟩), .agg #[kv, vv], .string (strB key)] w fun v w' => v = .bool true ∧ ∃ m', (∀ k o, m k = some o → m' k = some o) ∧ St m0 m' [] w0 w' (lgE g b s n sl lv wv S N (stE sb g mb L Es)) := by
 have hGl : G.length = L.length := by have := hp.length_eq; rw [length_kvs, length_kvs] at this; exact this
 have q1 := SlM.one1 hG.1
 have q2 := SlM.one1 hG.2.1
 obtain ⟨ka, kc, va, vc, rfl, rfl, hkc, hvc⟩ := hG.sl
 refine ret_of Tryz.call25 Tryz.func25 rfl Tryz.ntmps25 Tryz.results25 rfl ?_
 refine wc_seq ?_
 refine wc_region ?_
 refine wl_box (v := .agg #[.slice ka G.length kc, .slice va G.length vc]) rfl st rfl ?_
 intro b4 w st
 have st := st.perm (List.perm_middle (l₁ := [_, _, _, _, _])).symm
 have st : St m0 m [] w0 w (lgE g b s n sl lv wv S N (stE sb g mb L (K.blk b4 #[.slice ka G.length kc, .slice va G.length vc] 43 :: Es))) := st
 refine wl_val (v_assign' (by conv => (lhs; whnf))) rfl ?_
 refine wl_nil ?_
 refine then_go ?_
 refine wc_seq ?_
 refine wc_region ?_
 refine wl_val (v_move' (by conv => (lhs; whnf))) rfl ?_
 refine wl_call rfl (c_sallK st hL hM hp hl) rfl ?_
 rintro v15 w ⟨kv2, vv2, E2, m1, rfl, hE2, hmm1, st⟩
 have st : St m0 m1 [] w0 w (ksE kv2 E2 :: vsE vv2 E2 :: (lgE g b s n sl lv wv S N (stE sb g mb L []) ++ (rowsE (E2.map (·.2)) ++ (K.blk b4 #[.slice ka G.length kc, .slice va G.length vc] 43 :: Es)))) := st
 obtain ⟨m2, hmm2, hK2, st⟩ := all_keep st (kvok_len hL hp hE2)
 have p1 := SlM.one1 hK2.1
 have p2 := SlM.one1 hK2.2.1
 have st : St m0 m2 [] w0 w (lgE g b s n sl lv wv S N (stE sb g mb L (K.blk b4 #[.slice ka G.length kc, .slice va G.length vc] 43 :: Es))) := st
 have hmm2 : ∀ k o, m k = some o → m2 k = some o := fun k o h => hmm2 k o (hmm1 k o h)
 refine wl_val (v_move' (by conv => (lhs; whnf))) rfl ?_
 refine wl_val (v_extract rfl rfl) rfl ?_
 refine wl_val (v_extract rfl rfl) rfl ?_
 refine wl_alloc TF.z43 st rfl ?_
 intro b7 w st
 refine wl_storeW (cs := #[kv2, vv2]) 0 st rfl TF.t43 rfl rfl rfl rfl (by intro u hu; simp at hu; rcases hu with rfl | rfl <;> assumption) ?_
 intro w st
 have st := st.perm (List.perm_middle (l₁ := [_, _, _, _, _])).symm
 have st : St m0 m2 [] w0 w (lgE g b s n sl lv wv S N (stE sb g mb L (K.blk b7 #[kv2, vv2] 43 :: K.blk b4 #[.slice ka G.length kc, .slice va G.length vc] 43 :: Es))) := st
 refine wl_val (v_assign' (by conv => (lhs; whnf))) rfl ?_
 refine wl_nil ?_
 refine then_go ?_
 refine wc_seq ?_
 refine wc_region ?_
 refine wl_val (v_move' (by conv => (lhs; whnf))) rfl ?_
 refine wl_val (v_move' (by conv => (lhs; whnf))) rfl ?_
 refine wl_call rfl (c_sget (k := key) st (hL.mono hmm2) hM hp hk) rfl ?_
 rintro v21 w ⟨u, rfl, st⟩
 obtain ⟨m3, hg3, hm3, st3⟩ := st.freezeR (i := 0) rfl (by simp)
 have hu := row_SlM (m := m3) (st.at (i := 0) rfl) hm3
 have st : St m0 m3 [] w0 w (lgE g b s n sl lv wv S N (stE sb g mb L (K.blk b7 #[kv2, vv2] 43 :: K.blk b4 #[.slice ka G.length kc, .slice va G.length vc] 43 :: Es))) := st3
 have hmm3 : ∀ k o, m k = some o → m3 k = some o := fun k o h => hg3.le k o (hmm2 k o h)
 refine wl_val (v_move' (by conv => (lhs; whnf))) rfl ?_
 refine wl_val (v_extract rfl rfl) rfl ?_
 refine wl_val (v_extract rfl rfl) rfl ?_
 refine wl_val (v_assign' (by conv => (lhs; whnf))) rfl ?_
 refine wl_val (v_assign' (by conv => (lhs; whnf))) rfl ?_
 refine wl_nil ?_
 refine then_go ?_
 refine wc_seq ?_
 refine wc_region ?_
 refine wl_val (v_load rfl (st.reads (v := .agg #[.slice ka G.length kc, .slice va G.length vc]) 6 rfl TF.t43 (getV_all rfl))) rfl ?_
 refine wl_val (v_move' (by conv => (lhs; whnf))) rfl ?_
 refine wl_call rfl (c_rget (k := key) st.im (hG.mono hmm3) (by omega) hM) rfl ?_
 rintro v27 w ⟨t27, u2, rfl, hu2⟩
 have st := st.pure t27
 refine wl_val (v_move' (by conv => (lhs; whnf))) rfl ?_
 refine wl_val (v_extract rfl rfl) rfl ?_
 refine wl_val (v_extract rfl rfl) rfl ?_
 refine wl_val (v_assign' (by conv => (lhs; whnf))) rfl ?_
 refine wl_val (v_assign' (by conv => (lhs; whnf))) rfl ?_
 refine wl_nil ?_
 refine then_go ?_
 refine wc_seq ?_
 refine wc_draw TF.mixed ?_
 have st := st.pure (touch_drew _)
 refine fl_val 0 rfl (fun _ => (v_move' (by conv => (lhs; whnf)))) rfl (by kernel_rfl) ?_
 refine fl_val 1 rfl (fun _ => (v_move' (by conv => (lhs; whnf)))) rfl (by kernel_rfl) ?_
 refine fl_on 2 rfl rfl rfl rfl (fun _ => (v_move' (by conv => (lhs; whnf)))) rfl (by kernel_rfl) ?_
 refine fl_on 4 rfl rfl rfl rfl (fun _ => (v_fa TF.f43_0 rfl)) rfl (by kernel_rfl) ?_
 refine fl_ond 5 rfl rfl rfl rfl (v_load rfl (st.reads (v := .slice ka G.length kc) 6 rfl TF.t40 rfl)) rfl (by kernel_rfl) ?_
 refine fl_on 6 rfl rfl rfl rfl (fun _ => (v_len_s Tryz.underlying40 rfl)) rfl (by kernel_rfl) ?_
 refine fl_eff1 3 [6, 4, 0] [5] (by kernel_rfl) ⟨obl_on rfl rfl rfl rfl rfl (v_load rfl (st.reads (v := .slice ka G.length kc) 6 rfl TF.t40 rfl)), trivial⟩ rfl ?_
 refine wl_on rfl rfl ?_
 refine wl_call rfl (c_slen st) rfl ?_
 rintro v33 w ⟨t33, rfl⟩
 have st := st.pure t33
 refine wl_nil ⟨rfl, ?_⟩
 refine fl_on 7 rfl rfl rfl rfl (fun _ => (v_eqlT (a := (L.length : Int)) (b := (G.length : Int)) (by omega) rfl rfl)) rfl (by kernel_rfl) ?_
 refine fl_val 8 rfl (fun _ => (v_pick rfl)) rfl (by kernel_rfl) ?_
 refine fl_val 9 rfl (fun _ => (v_move' (by conv => (lhs; whnf)))) rfl (by kernel_rfl) ?_
 refine fl_ond 10 rfl rfl rfl rfl (v_load rfl (st.reads (v := .agg #[kv2, vv2]) 5 rfl TF.t43 (getV_all rfl))) rfl (by kernel_rfl) ?_
 refine fl_ond 11 rfl rfl rfl rfl (v_load rfl (st.reads (v := .agg #[.slice ka G.length kc, .slice va G.length vc]) 6 rfl TF.t43 (getV_all rfl))) rfl (by kernel_rfl) ?_
 refine fl_eff1 12 [8, 7, 6, 4, 0] [5] (by kernel_rfl) ⟨obl_on rfl rfl rfl rfl rfl (v_load rfl (st.reads (v := .agg #[.slice ka G.length kc, .slice va G.length vc]) 6 rfl TF.t43 (getV_all rfl))), obl_on rfl rfl rfl rfl rfl (v_load rfl (st.reads (v := .agg #[kv2, vv2]) 5 rfl TF.t43 (getV_all rfl))), obl_on rfl rfl rfl rfl rfl (v_load rfl (st.reads (v := .slice ka G.length kc) 6 rfl TF.t40 rfl)), trivial⟩ rfl ?_
 refine wl_on rfl rfl ?_
 refine wl_call rfl (c_samekeys st.im (hK2.mono hg3.le) (hG.mono hmm3) hE2 (by have := congrArg List.length hE2; rw [length_kvs, length_kvs] at this; omega)) rfl ?_
 rintro v42 w ⟨t42, m4, hg4, hi4, rfl⟩
 have st := st.grown hg4 t42 hi4
 refine wl_nil ⟨rfl, ?_⟩
 refine fl_val 13 rfl (fun _ => (v_pick rfl)) rfl (by kernel_rfl) ?_
 refine fl_val 14 rfl (fun _ => (v_move' (by conv => (lhs; whnf)))) rfl (by kernel_rfl) ?_
 refine fl_on 15 rfl rfl rfl rfl (fun _ => (v_move' (by conv => (lhs; whnf)))) rfl (by kernel_rfl) ?_
 refine fl_on 16 rfl rfl rfl rfl (fun _ => (v_move' (by conv => (lhs; whnf)))) rfl (by kernel_rfl) ?_
 refine fl_on 17 rfl rfl rfl rfl (fun _ => (wl_valD (v_eqb Tryz.underlying4 rfl rfl) (q := true) (by simp))) rfl (by kernel_rfl) ?_
 refine fl_val 18 rfl (fun _ => (v_pick rfl)) rfl (by kernel_rfl) ?_
 refine fl_val 19 rfl (fun _ => (v_move' (by conv => (lhs; whnf)))) rfl (by kernel_rfl) ?_
 refine fl_on 20 rfl rfl rfl rfl (fun _ => (v_move' (by conv => (lhs; whnf)))) rfl (by kernel_rfl) ?_
 refine fl_on 21 rfl rfl rfl rfl (fun _ => (v_move' (by conv => (lhs; whnf)))) rfl (by kernel_rfl) ?_
 refine fl_eff1 22 [18, 17, 16, 15, 14, 13, 8, 7, 6, 4, 0] [5] (by kernel_rfl) ⟨obl_on rfl rfl rfl rfl rfl (v_load rfl (st.reads (v := .slice ka G.length kc) 6 rfl TF.t40 rfl)), trivial⟩ rfl ?_
 refine wl_on rfl rfl ?_
 refine wl_call rfl (c_same17 st.im (hu.mono hg4.le) (hu2.mono hg4.le)) rfl ?_
 rintro v52 w ⟨t52, rfl⟩
 have st := st.pure t52
 rw [decide_eq_true rfl]
 refine wl_nil ⟨rfl, ?_⟩
 refine fl_val 23 rfl (fun _ => (v_pick rfl)) rfl (by kernel_rfl) ?_
 refine fl_eff1 24 [] [] (by kernel_rfl) ⟨obl_on rfl rfl rfl rfl rfl (v_load rfl (st.reads (v := .slice ka G.length kc) 6 rfl TF.t40 rfl)), trivial⟩ rfl ?_
 refine wl_val (v_assign' (by conv => (lhs; whnf))) rfl ?_
 refine wl_nil ⟨rfl, ?_⟩
 refine fl_nil (by kernel_rfl) trivial ?_
 refine then_go ?_
 refine wc_ret ?_
 exact ret1 rfl ⟨rfl, m4, fun k o h => hg4.le k o (hmm3 k o h), (st.drop 5).drop 5⟩
end
end Go.Proofs.YtladpaehbolghaaGreat

namespace Go.Proofs.YtladpaehbolghaaGreat
open Go Go.RowKit K SH DK JR
end Go.Proofs.YtladpaehbolghaaGreat

namespace Go.Proofs.YtladpaehbolghaaGreat
open Go Go.RowKit K SH GC JR OS
open DK hiding By
theorem open_recs {n : Nat} {S : By} (hl : S.length = 64 * n) (hn : 8 ≤ n) : (openD n S).2.2.1 = (readF S).2.1 ∧ (∀ x ∈ (openD n S).2.2.1, x.length ≤ S.length) ∧ (openD n S).2.2.1.length * 64 ≤ S.length := by
 obtain ⟨H, hH⟩ : ∃ H, H = n / 2 * 64 := ⟨_, rfl⟩
 have hrd : readF S = if (pickF S H).2 = 0 then (0, [], 0) else ((pickF S H).2, JR.recs (pickF S H).2 (halfB S H (pickF S H).1), 0) := by
  unfold readF
  rw [hl, hlf_eq, ← hH, if_neg (by omega)]
 have hop : (openD n S).2.2.1 = if (pickF S H).2 = 0 then [] else JR.recs (pickF S H).2 (halfB S H (pickF S H).1) := by
  unfold openD
  rw [← hH]
  split
  ·rfl
  ·split <;> rfl
 have hq : (halfB S H (pickF S H).1).length ≤ S.length := by
  unfold halfB
  rw [List.length_take, List.length_drop]
  omega
 refine ⟨by rw [hop, hrd]; split <;> rfl, ?_⟩
 rw [hop]
 split
 ·simp
 ·have h := recs_there (g := (pickF S H).2) (f := (halfB S H (pickF S H).1).length) (k := 0) (b := (halfB S H (pickF S H).1).drop 64) (by simp)
  have h1 := sizeL_ge (l := recsF (pickF S H).2 (halfB S H (pickF S H).1).length 0 ((halfB S H (pickF S H).1).drop 64))
  have h2 : ((halfB S H (pickF S H).1).drop 64).length ≤ S.length := by rw [List.length_drop]; omega
  unfold JR.recs
  exact ⟨fun x hx => by have := (h.2.2.2 x hx).2; omega, by have := h.1; omega⟩
theorem ofR_len : ∀ {R : List By} {M M' : Kys}, ofR M R = some M' → M'.length ≤ M.length + R.length * 4096
 | [], M, M', e => by cases e; simp
 | x :: R, M, M', e => by
  rw [ofR] at e
  split at e
  ·cases e
  ·rename_i A h
   have h1 := ofR_len e
   have h2 := (bulk_done (M := M) (A := A)).2
   have h3 := (batR_eq h).2.1
   rw [List.length_cons]
   omega
section
variable {m : Mem} {wI : World}
theorem c_storeOpens {bv : Value} {b key : By} (him : Im m wI) (hb : SlM m bv 1 b.length (bs b)) (hk : key.length ≤ 9223372036854775807) :
    Ret Tryz.prog 7 #[bv, .string (strB key)] wI fun v w' => Tch wI w' [] [] ∧ v = .bool true := by
  have st := St.start him
  have hb0 := hb
  obtain ⟨ba, bc, rfl, hbc⟩ := hb0.opn
  refine ret_of Tryz.call7 Tryz.func7 rfl Tryz.ntmps7 Tryz.results7 rfl ?_
  refine wc_seq ?_
  refine wc_region ?_
  refine wl_val (v_assign' (by conv => (lhs; whnf))) rfl ?_
  refine wl_nil ?_
  refine then_go ?_
  refine wc_seq ?_
  refine wc_seq ?_
  refine wc_region ?_
  refine wl_val (v_move' (by conv => (lhs; whnf))) rfl ?_
  refine wl_val (v_len_s Tryz.underlying23 rfl) rfl ?_
  refine wl_val (v_gtr rfl rfl) rfl ?_
  refine wl_nil ?_
  refine then_go ?_
  refine wc_cond rfl (fun h15 => ?_) (fun h15 => ?_)
  · refine wc_seq ?_
    refine wc_region ?_
    refine wl_call rfl (c_works15 st) rfl ?_
    rintro v15 w ⟨⟨m1, hmm1, st⟩, rfl⟩
    refine wl_val (v_assign' (by conv => (lhs; whnf))) rfl ?_
    refine wl_nil ?_
    refine then_go ?_
    refine wc_ret (then_ret ?_)
    exact ret1 rfl ⟨st.touch, rfl⟩
  · refine wc_skip ?_
    refine then_go ?_
    refine wc_seq ?_
    by_cases hle : loadE b ≠ 0
    · have hb64 : b.length ≤ 6400 := by have := of_decide_eq_false h15; omega
      refine wc_region ?_
      refine wl_val (v_move' (by conv => (lhs; whnf))) rfl ?_
      refine wl_call rfl (c_load st.im hb (by omega)) rfl ?_
      intro v19 w h19
      rw [if_pos hle] at h19
      obtain ⟨t19, rfl⟩ := h19
      have st := st.pure t19
      refine wl_val (v_move' (by conv => (lhs; whnf))) rfl ?_
      refine wl_val (v_extract rfl rfl) rfl ?_
      refine wl_val (v_extract rfl rfl) rfl ?_
      refine wl_val (v_assign' (by conv => (lhs; whnf))) rfl ?_
      refine wl_val (v_assign' (by conv => (lhs; whnf))) rfl ?_
      refine wl_nil ?_
      refine then_go ?_
      refine wc_seq ?_
      refine wc_seq ?_
      refine wc_region ?_
      refine wl_val (v_move' (by conv => (lhs; whnf))) rfl ?_
      refine wl_val (v_neq rfl rfl) rfl ?_
      refine wl_nil ?_
      refine then_go ?_
      refine wc_true (congrArg Value.bool (decide_eq_true hle)) ?_
      refine wc_seq ?_
      refine wc_region ?_
      refine wl_call rfl (c_works15 st) rfl ?_
      rintro v24 w ⟨⟨m1, hmm1, st⟩, rfl⟩
      refine wl_val (v_assign' (by conv => (lhs; whnf))) rfl ?_
      refine wl_nil ?_
      refine then_go ?_
      refine wc_ret (then_ret ?_)
      exact ret1 rfl ⟨st.touch, rfl⟩
    · have hb64 : b.length ≤ 6400 := by have := of_decide_eq_false h15; omega
      refine wc_region ?_
      refine wl_val (v_move' (by conv => (lhs; whnf))) rfl ?_
      refine wl_call rfl (c_load st.im hb (by omega)) rfl ?_
      intro v19 w h19
      rw [if_neg hle] at h19
      obtain ⟨p, ⟨db, ds, wv, rfl, t19, hE⟩, rfl⟩ := h19
      have st := st.new t19 hE
      obtain ⟨n, hn⟩ : ∃ n, n = b.length / 64 := ⟨_, rfl⟩
      have hle2 : b.length % 64 = 0 ∧ 1 ≤ n ∧ n ≤ 16384 := by
        unfold loadE at hle
        split at hle
        · exact (hle (by decide)).elim
        · split at hle
          · exact (hle (by decide)).elim
          · omega
      have hl64 : b.length = 64 * n := by omega
      rw [← hn] at st
      have st : St m m [] wI w [diskO db ds n wv (calm b)] := st
      refine wl_val (v_move' (by conv => (lhs; whnf))) rfl ?_
      refine wl_val (v_extract rfl rfl) rfl ?_
      refine wl_val (v_extract rfl rfl) rfl ?_
      refine wl_val (v_assign' (by conv => (lhs; whnf))) rfl ?_
      refine wl_val (v_assign' (by conv => (lhs; whnf))) rfl ?_
      refine wl_nil ?_
      refine then_go ?_
      refine wc_seq ?_
      refine wc_seq ?_
      refine wc_region ?_
      refine wl_val (v_move' (by conv => (lhs; whnf))) rfl ?_
      refine wl_val (v_neq rfl rfl) rfl ?_
      refine wl_nil ?_
      refine then_go ?_
      refine wc_false rfl ?_
      refine wc_skip ?_
      refine then_go ?_
      refine wc_seq ?_
      refine wc_region ?_
      refine wl_val (v_move' (by conv => (lhs; whnf))) rfl ?_
      refine wl_call rfl (c_rRead st.im hb (by omega)) rfl ?_
      rintro v27 w ⟨t27, m2, hg2, hi2, nv, N, hN, hNe, rfl⟩
      have st := st.grown hg2 t27 hi2
      refine wl_val (v_move' (by conv => (lhs; whnf))) rfl ?_
      refine wl_val (v_extract rfl rfl) rfl ?_
      refine wl_val (v_extract rfl rfl) rfl ?_
      refine wl_val (v_extract rfl rfl) rfl ?_
      refine wl_val (v_assign' (by conv => (lhs; whnf))) rfl ?_
      refine wl_val (v_assign' (by conv => (lhs; whnf))) rfl ?_
      refine wl_val (v_assign' (by conv => (lhs; whnf))) rfl ?_
      refine wl_nil ?_
      refine then_go ?_
      refine wc_seq ?_
      by_cases hn8 : n < 8
      · refine wc_region ?_
        refine wl_val (v_move' (by conv => (lhs; whnf))) rfl ?_
        refine wl_call rfl (c_sopenFew st (ok_calm hl64 (by omega) (by omega)) hn8) rfl ?_
        rintro v33 w ⟨st, rfl⟩
        have hr1 : (readF b).2.2 = 1 := by unfold readF; rw [if_pos (by omega)]
        refine wl_val (v_move' (by conv => (lhs; whnf))) rfl ?_
        refine wl_val (v_extract rfl rfl) rfl ?_
        refine wl_val (v_extract rfl rfl) rfl ?_
        refine wl_val (v_assign' (by conv => (lhs; whnf))) rfl ?_
        refine wl_val (v_assign' (by conv => (lhs; whnf))) rfl ?_
        refine wl_nil ?_
        refine then_go ?_
        refine wc_seq ?_
        refine wc_seq ?_
        refine wc_region ?_
        refine wl_val (v_move' (by conv => (lhs; whnf))) rfl ?_
        refine wl_val (v_neq rfl rfl) rfl ?_
        refine wl_nil ?_
        refine then_go ?_
        refine wc_true (congrArg Value.bool (decide_eq_true (by rw [hr1]; decide))) ?_
        refine wc_seq ?_
        refine wc_region ?_
        refine wl_val (v_move' (by conv => (lhs; whnf))) rfl ?_
        refine wl_val (v_move' (by conv => (lhs; whnf))) rfl ?_
        refine wl_val (v_eqlT (by rw [hr1]; rfl) rfl rfl) rfl ?_
        refine wl_val (v_move' (by conv => (lhs; whnf))) rfl ?_
        refine wl_on rfl rfl ?_
        refine wl_val (v_move' (by conv => (lhs; whnf))) rfl ?_
        refine wl_on rfl rfl ?_
        refine wl_val (v_eq_nil (p := none) Tryz.underlying36 rfl rfl) rfl ?_
        refine wl_val (v_pick rfl) rfl ?_
        refine wl_val (v_move' (by conv => (lhs; whnf))) rfl ?_
        refine wl_on rfl rfl ?_
        refine wl_call rfl (c_works15 st) rfl ?_
        rintro v46 w ⟨⟨m4, hmm4, st⟩, rfl⟩
        refine wl_val (v_pick rfl) rfl ?_
        refine wl_val (v_assign' (by conv => (lhs; whnf))) rfl ?_
        refine wl_nil ?_
        refine then_go ?_
        refine wc_ret (then_ret ?_)
        exact ret1 rfl ⟨st.touch, rfl⟩
      · refine wc_region ?_
        refine wl_val (v_move' (by conv => (lhs; whnf))) rfl ?_
        obtain ⟨hrc, hrl, hrn⟩ := open_recs hl64 (by omega : 8 ≤ n)
        obtain ⟨d', sl', R, hO, hRe⟩ : ∃ d' sl' R, openD n b = (d', sl', R, 0) ∧ R = (openD n b).2.2.1 := ⟨(openD n b).1, (openD n b).2.1, _, by rw [← open_zero hl64 (by omega : 8 ≤ n)], rfl⟩
        rw [← hRe] at hrc hrl hrn
        have hr1 : (readF b).2.2 = 0 := by unfold readF; rw [if_neg (by omega)]; split <;> rfl
        have hNR : N.map (·.1) = R := by rw [hNe, hrc]
        have hNl : ∀ x ∈ N, x.1.length ≤ 1048576 := fun x hx => by have := hrl x.1 (by rw [← hNR]; exact List.mem_map.2 ⟨x, hx, rfl⟩); omega
        have hNn : N.length ≤ 200 := by have := congrArg List.length hNR; rw [List.length_map] at this; omega
        refine wl_call rfl (c_sopenD st hl64 (by omega) (by omega) hO (fun x hx => by have := hrl x hx; omega) (by omega)) rfl ?_
        intro v33 w ho
        obtain ⟨pv, e, rfl, hoo⟩ : ∃ pv e, v33 = .tuple #[pv, .int .i64 e] ∧ ((ofR [] R = none ∧ pv = .pointer none ∧ e = 3 ∧ ∃ m' wv', (∀ k o, m2 k = some o → m' k = some o) ∧ St m m' [] wI w [diskO db ds n wv' d']) ∨ (∃ M g sb mb m' wv' lv' N' L', ofR [] R = some M ∧ pv = .pointer (some ⟨sb, 0, none⟩) ∧ e = 0 ∧ (∀ k o, m2 k = some o → m' k = some o) ∧ Risen M ∧ KvOk m' L' ∧ M.Perm (kvs L') ∧ St m m' [] wI w (lgD g db ds n sl' lv' wv' d' N' (stE sb g mb L' [])))) := by
          cases h : ofR [] R with
          | none =>
            rw [h] at ho
            obtain ⟨h1, m', wv', h2, h3⟩ := ho
            exact ⟨_, _, h1, .inl ⟨rfl, rfl, rfl, m', wv', h2, h3⟩⟩
          | some M =>
            rw [h] at ho
            obtain ⟨g, sb, mb, m', wv', lv', N', L', h1, h2, _, _, h5, h6, h7, h8⟩ := ho
            exact ⟨_, _, h1, .inr ⟨M, g, sb, mb, m', wv', lv', N', L', rfl, rfl, rfl, h2, h5, h6, h7, h8⟩⟩
        obtain ⟨m3, Y, hmm3, st⟩ : ∃ m3 Y, (∀ k o, m2 k = some o → m3 k = some o) ∧ St m m3 [] wI w Y := by
          rcases hoo with ⟨_, _, _, m', wv', h2, h3⟩ | ⟨M, g, sb, mb, m', wv', lv', N', L', _, _, _, h2, _, _, _, h8⟩
          · exact ⟨m', _, h2, h3⟩
          · exact ⟨m', _, h2, h8⟩
        refine wl_val (v_move' (by conv => (lhs; whnf))) rfl ?_
        refine wl_val (v_extract rfl rfl) rfl ?_
        refine wl_val (v_extract rfl rfl) rfl ?_
        refine wl_val (v_assign' (by conv => (lhs; whnf))) rfl ?_
        refine wl_val (v_assign' (by conv => (lhs; whnf))) rfl ?_
        refine wl_nil ?_
        refine then_go ?_
        refine wc_seq ?_
        refine wc_seq ?_
        refine wc_region ?_
        refine wl_val (v_move' (by conv => (lhs; whnf))) rfl ?_
        refine wl_val (v_neq rfl rfl) rfl ?_
        refine wl_nil ?_
        refine then_go ?_
        refine wc_false (congrArg Value.bool (decide_eq_false (by rw [hr1]; decide))) ?_
        refine wc_skip ?_
        refine then_go ?_
        refine wc_seq ?_
        refine wc_seq ?_
        refine wc_region ?_
        refine wl_val (v_move' (by conv => (lhs; whnf))) rfl ?_
        refine wl_val (v_gtr64 (q := 9223372036854775808) rfl rfl) rfl ?_
        refine wl_nil ?_
        refine then_go ?_
        refine wc_cond rfl (fun h49 => ?_) (fun h49 => ?_)
        · refine wc_seq ?_
          refine wc_region ?_
          refine wl_call rfl (c_works15 st) rfl ?_
          rintro v50 w ⟨⟨m4, hmm4, st⟩, rfl⟩
          refine wl_val (v_assign' (by conv => (lhs; whnf))) rfl ?_
          refine wl_nil ?_
          refine then_go ?_
          refine wc_ret (then_ret ?_)
          exact ret1 rfl ⟨st.touch, rfl⟩
        · refine wc_skip ?_
          refine then_go ?_
          refine wc_seq ?_
          rcases hoo with ⟨hof, rfl, rfl, m5, wv5, hmm5, st⟩ | ⟨M, g, sb, mb, m5, wv5, lv5, N5, L5, hof, rfl, rfl, hmm5, hM, hL5, hp5, st⟩
          · have hgb : (readF b).1.toNat ≤ 9223372036854775808 := by
              have := of_decide_eq_false h49
              have e : (9223372036854775808 : UInt64).toNat = 9223372036854775808 := rfl
              omega
            have hpg : (pickF b (n / 2 * 64)).2 = (readF b).1 := by
              unfold readF
              rw [hl64, hlf_eq, if_neg (by omega)]
              split
              · assumption
              · rfl
            obtain ⟨S', s', L0, ho', hlog, hL0, hgn, _⟩ := open_ok hl64 (by omega : 8 ≤ n) (by omega : n ≤ 16384) (by rw [hpg]; omega)
            have hd' : d' = calm S' := by rw [hO] at ho'; exact congrArg (·.1) ho'
            subst hd'
            refine wc_region ?_
            refine wl_val (v_move' (by conv => (lhs; whnf))) rfl ?_
            refine wl_call rfl (c_rof st.im ((PcsM.mono hN hmm5)) hNl hNn) rfl ?_
            rintro v53 w ⟨t53, m6, hg6, hi6, hro⟩
            have st := st.grown hg6 t53 hi6
            rw [hNR, hof] at hro
            obtain ⟨kv, vv, okb, rfl, hok⟩ : ∃ kv vv okb, v53 = .tuple #[.agg #[kv, vv], .bool okb] ∧ kv.oneCell' = true ∧ vv.oneCell' = true ∧ (ofR [] R = none → okb = false) ∧ ∀ M, ofR [] R = some M → okb = true ∧ ∃ E, KyM m6 kv vv E ∧ kvs E = M := by
              rw [hof]
              first
              | exact ⟨_, _, false, hro, rfl, rfl, (fun _ => rfl), (fun _ h => by cases h)⟩
              | (obtain ⟨kv, vv, E, h1, h2, h3⟩ := hro
                 exact ⟨kv, vv, true, h1, SlM.one1 h2.1, SlM.one1 h2.2.1, (fun h => by cases h), (fun M' h => by cases h; exact ⟨rfl, E, h2, h3⟩)⟩)
            obtain ⟨o1, o2, hn1, hn2⟩ := hok
            refine wl_val (v_move' (by conv => (lhs; whnf))) rfl ?_
            refine wl_val (v_extract rfl rfl) rfl ?_
            refine wl_val (v_extract rfl rfl) rfl ?_
            refine wl_alloc TF.z43 st rfl ?_
            intro b11 w st
            refine wl_storeW (cs := #[kv, vv]) 0 st rfl TF.t43 rfl rfl rfl rfl (by intro u hu; simp at hu; rcases hu with rfl | rfl <;> assumption) ?_
            intro w st
            refine wl_val (v_assign' (by conv => (lhs; whnf))) rfl ?_
            refine wl_nil ?_
            refine then_go ?_
            refine wc_seq ?_
            refine wc_seq ?_
            have h0 := hn1 hof
            subst h0
            refine wc_region ?_
            refine wl_val (v_move' (by conv => (lhs; whnf))) rfl ?_
            refine wl_val (v_not rfl) rfl ?_
            refine wl_nil ?_
            refine then_go ?_
            refine wc_true rfl ?_
            refine wc_seq ?_
            refine wc_region ?_
            refine wl_val (v_move' (by conv => (lhs; whnf))) rfl ?_
            refine wl_val (v_eql rfl rfl) rfl ?_
            refine wl_val (v_move' (by conv => (lhs; whnf))) rfl ?_
            refine wl_on rfl rfl ?_
            refine wl_val (v_move' (by conv => (lhs; whnf))) rfl ?_
            refine wl_on rfl rfl ?_
            refine wl_val (v_eq_nil (p := none) Tryz.underlying36 rfl rfl) rfl ?_
            refine wl_val (v_pick rfl) rfl ?_
            refine wl_val (v_move' (by conv => (lhs; whnf))) rfl ?_
            refine wl_on rfl rfl ?_
            refine wl_call rfl (c_works15 st) rfl ?_
            rintro v65 w ⟨⟨m7, hmm7, st⟩, rfl⟩
            refine wl_val (v_pick rfl) rfl ?_
            refine wl_val (v_assign' (by conv => (lhs; whnf))) rfl ?_
            refine wl_nil ?_
            refine then_go ?_
            refine wc_ret (then_ret ?_)
            exact ret1 rfl ⟨st.touch, rfl⟩
          · have hgb : (readF b).1.toNat ≤ 9223372036854775808 := by
              have := of_decide_eq_false h49
              have e : (9223372036854775808 : UInt64).toNat = 9223372036854775808 := rfl
              omega
            have hpg : (pickF b (n / 2 * 64)).2 = (readF b).1 := by
              unfold readF
              rw [hl64, hlf_eq, if_neg (by omega)]
              split
              · assumption
              · rfl
            obtain ⟨S', s', L0, ho', hlog, hL0, hgn, _⟩ := open_ok hl64 (by omega : 8 ≤ n) (by omega : n ≤ 16384) (by rw [hpg]; omega)
            have hd' : d' = calm S' := by rw [hO] at ho'; exact congrArg (·.1) ho'
            subst hd'
            refine wc_region ?_
            refine wl_val (v_move' (by conv => (lhs; whnf))) rfl ?_
            refine wl_call rfl (c_rof st.im ((PcsM.mono hN hmm5)) hNl hNn) rfl ?_
            rintro v53 w ⟨t53, m6, hg6, hi6, hro⟩
            have st := st.grown hg6 t53 hi6
            rw [hNR, hof] at hro
            obtain ⟨kv, vv, okb, rfl, hok⟩ : ∃ kv vv okb, v53 = .tuple #[.agg #[kv, vv], .bool okb] ∧ kv.oneCell' = true ∧ vv.oneCell' = true ∧ (ofR [] R = none → okb = false) ∧ ∀ M, ofR [] R = some M → okb = true ∧ ∃ E, KyM m6 kv vv E ∧ kvs E = M := by
              rw [hof]
              first
              | exact ⟨_, _, false, hro, rfl, rfl, (fun _ => rfl), (fun _ h => by cases h)⟩
              | (obtain ⟨kv, vv, E, h1, h2, h3⟩ := hro
                 exact ⟨kv, vv, true, h1, SlM.one1 h2.1, SlM.one1 h2.2.1, (fun h => by cases h), (fun M' h => by cases h; exact ⟨rfl, E, h2, h3⟩)⟩)
            obtain ⟨o1, o2, hn1, hn2⟩ := hok
            refine wl_val (v_move' (by conv => (lhs; whnf))) rfl ?_
            refine wl_val (v_extract rfl rfl) rfl ?_
            refine wl_val (v_extract rfl rfl) rfl ?_
            refine wl_alloc TF.z43 st rfl ?_
            intro b11 w st
            refine wl_storeW (cs := #[kv, vv]) 0 st rfl TF.t43 rfl rfl rfl rfl (by intro u hu; simp at hu; rcases hu with rfl | rfl <;> assumption) ?_
            intro w st
            refine wl_val (v_assign' (by conv => (lhs; whnf))) rfl ?_
            refine wl_nil ?_
            refine then_go ?_
            refine wc_seq ?_
            refine wc_seq ?_
            obtain ⟨h0, E, hE, hEM⟩ := hn2 _ hof
            subst h0
            subst hEM
            have hLl : L5.length ≤ 1000000 := by
              have h1 := hp5.length_eq
              rw [length_kvs, length_kvs] at h1
              have h2 := ofR_len hof
              rw [length_kvs, List.length_nil] at h2
              have h3 : R.length ≤ 100 := by omega
              have h4 : R.length * 4096 ≤ 100 * 4096 := Nat.mul_le_mul_right _ h3
              omega
            refine wc_region ?_
            refine wl_val (v_move' (by conv => (lhs; whnf))) rfl ?_
            refine wl_val (v_not rfl) rfl ?_
            refine wl_nil ?_
            refine then_go ?_
            refine wc_false rfl ?_
            refine wc_skip ?_
            refine then_go ?_
            refine wc_seq ?_
            refine wc_region ?_
            refine wl_val (v_move' (by conv => (lhs; whnf))) rfl ?_
            refine wl_val (v_eql rfl rfl) rfl ?_
            refine wl_val (v_move' (by conv => (lhs; whnf))) rfl ?_
            refine wl_on rfl rfl ?_
            refine wl_val (v_move' (by conv => (lhs; whnf))) rfl ?_
            refine wl_on rfl rfl ?_
            refine wl_val (v_ne_nil (p := some ⟨sb, 0, none⟩) Tryz.underlying36 rfl rfl) rfl ?_
            refine wl_val (v_pick rfl) rfl ?_
            refine wl_val (v_move' (by conv => (lhs; whnf))) rfl ?_
            refine wl_on rfl rfl ?_
            refine wl_val (v_move' (by conv => (lhs; whnf))) rfl ?_
            refine wl_on rfl rfl ?_
            refine wl_val (v_load rfl (st.reads (v := .agg #[kv, vv]) 0 rfl TF.t43 (getV_all rfl))) rfl ?_
            refine wl_on rfl rfl ?_
            refine wl_val (v_move' (by conv => (lhs; whnf))) rfl ?_
            refine wl_on rfl rfl ?_
            have st := st.drop 0
            refine wl_call rfl (c_like (key := key) st (hL5.mono hg6.le) hM hp5 hLl hE hk) rfl ?_
            rintro v77 w ⟨rfl, m7, hmm7, st⟩
            refine wl_val (v_pick rfl) rfl ?_
            refine wl_val (v_move' (by conv => (lhs; whnf))) rfl ?_
            refine wl_on rfl rfl ?_
            refine wl_call rfl (c_works15 st) rfl ?_
            rintro v80 w ⟨⟨m8, hmm8, st⟩, rfl⟩
            refine wl_val (v_pick rfl) rfl ?_
            refine wl_val (v_assign' (by conv => (lhs; whnf))) rfl ?_
            refine wl_nil ?_
            refine then_go ?_
            refine wc_ret ?_
            exact ret1 rfl ⟨(st.keepOnly (l := []) (List.nil_sublist _)).touch, rfl⟩
end
end Go.Proofs.YtladpaehbolghaaGreat

namespace Go.Proofs.YtladpaehbolghaaGreat
open Go Go.ChangeShapes Go.WideShapes Go.ChangeAt Go.RowKit K SH GC JR OS
theorem Try.ownob : ownKnob Tryz.prog.godebug = none := by kernel_rfl
theorem Try.laidOutob : laidOutB Tryz.prog = true := by kernel_rfl
theorem Try.trodAllob {H : Type} {enc : TypeId × Value → H} {w : World} {held : Bool} {P : Program} {base : Nat} {spare : Nat → Bool} {t0 t1 : TypeId} {args : Array Value} {ds : List (DataW H)} {ps : List MemPlace} (h : DataW.TrodAll enc P w base spare held [t0, t1] args.toList ds ps) :
  ∃ v0 v1 d0 d1 p0 p1, args = #[v0, v1] ∧ ds = [d0, d1] ∧ ps = p0 ++ p1 ∧ DataW.Trod enc P w base spare held t0 v0 d0 p0 ∧ DataW.Trod enc P w base spare held t1 v1 d1 p1 := by
 obtain ⟨v0, vs0, d0, ds0, p0, q0, hargs, rfl, rfl, hd0, h⟩ := trodAll_cons h
 obtain ⟨v1, vs1, d1, ds1, p1, q1, rfl, rfl, rfl, hd1, h⟩ := trodAll_cons h
 obtain ⟨rfl, rfl, rfl⟩ := trodAll_nil h
 exact ⟨v0, v1, d0, d1, p0, p1, by cases args; simp_all, rfl, by simp, hd0, hd1⟩
set_option maxRecDepth 100000 in
theorem storeOpens_lifted (os : Os) (started : os.Started) (H : Type) (enc : TypeId × Value → H) :
  ReturnsInHanded {} Tryz.checked os 7 .any (Rows.storeOpensSpec.pre6 enc Tryz.prog Tryz.f7 Rows.storeOpensRow.domain false) (Rows.storeOpensSpec.post enc Tryz.prog Tryz.f7 false true false false) := by
 refine returnsInHanded_of_change (C := Tryz.checked) Try.ownob started (by kernel_rfl) Tryz.func7
  (ChangeSpec.witness6 (enc := enc) (C := Tryz.checked) false ⟨#[], #[.slice none 0 0, .string ⟨#[]⟩], []⟩ 12 (by kernel_rfl) (by kernel_rfl) (by kernel_rfl) (by kernel_rfl)) ?_
 intro W base args ds gs before hval0 hW hcnd _
 have hval : ∀ (j : Nat) t v, Tryz.f7.params[j]? = some t → args[j]? = some v → Value.okWide Tryz.prog W .any base t v := hval0
 have hW' := hW
 obtain ⟨p, q, hA0, hV, rfl, hfz, hnd⟩ := hW
 have hA : DataW.TrodAll enc Tryz.prog W 0 (fun _ => true) true Tryz.f7.params.toList args.toList ds p := hA0
 rw [Tryz.params7] at hA hval
 obtain ⟨v0, v1, d0, d1, p0, p1, rfl, rfl, rfl, h0, h1⟩ := Try.trodAllob hA
 obtain ⟨fu0, hf0⟩ := h0
 obtain ⟨sa0, sl0, sc0, rfl⟩ := okWide_slice Tryz.underlying23 (hval 0 23 v0 rfl rfl)
 obtain ⟨l0, hl0, hn0⟩ := open_bytes hf0
 obtain ⟨l1, rfl, hl1⟩ := open_str (hval 1 9 v1 rfl rfl) h1
 refine Calls.mono (P := Tryz.prog) (c_storeOpens (im_heapM W) hl0 hl1).2 fun e W1 ⟨v, he, t, hv⟩ => ?_
 subst hv
 subst he
 exact ⟨_, rfl, post_true Try.laidOutob (by kernel_rfl) rfl hW' t rfl rfl Tryz.underlying4⟩
theorem storeOpens_holds : Rows.StoreOpensSaid :=
 OpenClaim.holds_of_wide 7 Tryz.f7 rfl rfl rfl rfl rfl rfl rfl ⟨rfl, rfl, rfl, rfl, rfl⟩ rfl rfl rfl rfl rfl (by kernel_rfl) Tryz.func7 (by kernel_rfl)
  (of_decide_eq_true (by kernel_rfl)) (by unfold Func.isWrapper; first | (rw [if_pos (by decide +kernel)]; kernel_rfl) | (rw [if_neg (by decide +kernel)]; exact ⟨rfl, rfl⟩))
  (fun os started H enc _ => storeOpens_lifted os started H enc)
end Go.Proofs.YtladpaehbolghaaGreat
