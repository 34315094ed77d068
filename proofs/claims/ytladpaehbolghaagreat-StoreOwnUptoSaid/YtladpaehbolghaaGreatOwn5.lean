/-
  Proved here: for every input of bulk at most 1048576 the law StoreOwn returns true, and what it was handed reads behind the call as before. No condition.
-/
import Derived.Test.YtladpaehbolghaaGreatRows
import Derived.JoinedCond
import Derived.Test.YtladpaehbolghaaGreatOwn4

namespace Go.Proofs.YtladpaehbolghaaGreat
open Go Go.RowKit K SH GC JR OS
def BatOut (m : Mem) (v : Value) : Option (List Ac) → Prop
 | none => v = .tuple #[.slice none 0 0, .int .i64 (3 : Nat)]
 | some M => ∃ lv L, v = .tuple #[lv, .int .i64 (0 : Nat)] ∧ AcsM m lv L ∧ L.map (·.1) = M
section
open OS
variable {m0 m : Mem} {w0 w : World} {Es : List Ent}
theorem c_readB {bv : Value} {b : List UInt8} (st : St m0 m [] w0 w Es) (hb : SlM m bv 1 b.length (bs b)) (hl : b.length ≤ 1099511627776) :
  Ret Tryz.prog 11 #[bv] w fun v w' => ∃ m', (∀ k o, m k = some o → m' k = some o) ∧ BatOut m' v (batR b) ∧ St m0 m' [] w0 w' Es := by
 refine ret_of Tryz.call11 Tryz.func11 rfl Tryz.ntmps11 Tryz.results11 rfl ?_
 refine wc_seq ?_
 refine wc_region ?_
 refine wl_val (v_assign' (by conv => (lhs; whnf))) rfl ?_
 refine wl_val (v_assign' (by conv => (lhs; whnf))) rfl ?_
 refine wl_nil ?_
 refine then_go ?_
 refine wc_seq ?_
 refine wc_region ?_
 refine wl_alloc TF.z22 st rfl ?_
 intro b4 w st
 refine wl_nil ?_
 refine then_go ?_
 refine wc_seq ?_
 refine wc_region ?_
 refine wl_val (v_move' (by conv => (lhs; whnf))) rfl ?_
 refine wl_val (v_mkfunc rfl rfl) rfl ?_
 have st : St m0 m [] w0 w (gaE b4 (.slice none 0 0) :: Es) := st
 refine wl_call rfl (c_cread (cap := [.pointer (some ⟨b4, 0, none⟩)]) st hb fun rb eb w1 st1 => c_readB1 st1 hb hl) rfl ?_
 intro v8 w h8
 refine wl_val (v_assign' (by conv => (lhs; whnf))) rfl ?_
 refine wl_nil ?_
 refine then_go ?_
 refine wc_seq ?_
 refine wc_seq ?_
 rcases h8 with ⟨m2, j, Es2, ⟨lv, L, n, r, hmm, rfl, hj, hLo, hc, ha, hok⟩, rfl, st⟩ | ⟨m2, Es2, ⟨hn, hmm, rfl⟩, rfl, st⟩
 ·have hbat : batR b = if j = b.length then some (L.map (·.1)) else none := by
   unfold batR
   rw [hc]
   simp only [ha]
   by_cases hjl : j = b.length
   ·rw [if_pos hjl, if_pos ⟨by rw [hjl]; simp, hok⟩]
   ·rw [if_neg hjl, if_neg (fun h => by have := congrArg List.length h.1; rw [List.length_drop, List.length_nil] at this; omega)]
  refine wc_region ?_
  refine wl_val (v_move' (by conv => (lhs; whnf))) rfl ?_
  refine wl_val (wl_valD (v_neq rfl rfl) (q := decide (¬ j = b.length)) (by by_cases h : j = b.length <;> simp [h])) rfl ?_
  refine wl_nil ?_
  refine then_go ?_
  refine wc_cond rfl (fun h10 => ?_) (fun h10 => ?_)
  ·refine wc_seq ?_
   refine wc_region ?_
   refine wl_val (v_move' (by conv => (lhs; whnf))) rfl ?_
   refine wl_val (v_assign' (by conv => (lhs; whnf))) rfl ?_
   refine wl_val (v_assign' (by conv => (lhs; whnf))) rfl ?_
   refine wl_nil ?_
   refine then_go ?_
   refine wc_ret (then_ret ?_)
   have hjl : ¬ j = b.length := of_decide_eq_true h10
   rw [hbat, if_neg hjl]
   rw [if_neg hjl]
   exact ret2 rfl rfl ⟨m2, hmm, rfl, (st.drop 0).drop 0⟩
  ·refine wc_skip ?_
   refine then_go ?_
   refine wc_seq ?_
   refine wc_region ?_
   refine wl_val (v_load rfl (st.reads (v := lv) 0 rfl TF.t22 rfl)) rfl ?_
   refine wl_val (v_assign' (by conv => (lhs; whnf))) rfl ?_
   refine wl_val (v_assign' (by conv => (lhs; whnf))) rfl ?_
   refine wl_nil ?_
   refine then_go ?_
   refine wc_ret ?_
   have hjl : j = b.length := Decidable.not_not.1 (of_decide_eq_false h10)
   rw [hbat, if_pos hjl]
   obtain ⟨m3, hg3, hls, st⟩ := st.keepLs (i := 1) rfl (fun x _ => rfl)
   exact ret2 rfl rfl ⟨m3, fun k o h => hg3.le k o (hmm k o h), ⟨lv, L, rfl, ⟨hls, fun p hp => (hLo p hp).mono hg3.le⟩, rfl⟩, st.drop 0⟩
 ·refine wc_region ?_
  refine wl_val (v_move' (by conv => (lhs; whnf))) rfl ?_
  refine wl_val (wl_valD (v_neq rfl rfl) (q := true) rfl) rfl ?_
  refine wl_nil ?_
  refine then_go ?_
  refine wc_true rfl ?_
  refine wc_seq ?_
  refine wc_region ?_
  refine wl_val (v_move' (by conv => (lhs; whnf))) rfl ?_
  refine wl_val (v_assign' (by conv => (lhs; whnf))) rfl ?_
  refine wl_val (v_assign' (by conv => (lhs; whnf))) rfl ?_
  refine wl_nil ?_
  refine then_go ?_
  refine wc_ret (then_ret ?_)
  rw [hn]
  exact ret2 rfl rfl ⟨m2, hmm, rfl, st⟩
end
end Go.Proofs.YtladpaehbolghaaGreat

namespace Go.Proofs.YtladpaehbolghaaGreat
open Go Go.RowKit K SH GC JR OS
open DK hiding By
namespace OS
def ofR : Kys → List By → Option Kys
 | M, [] => some M
 | M, x :: R => match batR x with
  | none => none
  | some A => ofR (doneS M A) R
end OS
section
variable {m0 m : Mem} {w0 w : World} {Es : List Ent}
abbrev lgD (g b s n : Nat) (sl : LG) (lv wv : Value) (d : DS) (N : List (By × Value)) (Es : List Ent) : List Ent := logB g b sl lv :: lrE lv N :: diskO b s n wv d :: Es
def SoOutD (m0 m : Mem) (w0 w' : World) (Es : List Ent) (b s n : Nat) (d' : DS) (sl' : LG) (R : List By) (v : Value) : Option Kys → Prop
 | none => v = .tuple #[.pointer none, .int .i64 3] ∧ ∃ m' wv', (∀ k o, m k = some o → m' k = some o) ∧ St m0 m' [] w0 w' (diskO b s n wv' d' :: Es)
 | some M => ∃ g sb mb m' wv' lv' N' L', v = .tuple #[.pointer (some ⟨sb, 0, none⟩), .int .i64 0] ∧ (∀ k o, m k = some o → m' k = some o) ∧ Pcs m' N' ∧ N'.map (·.1) = R ∧ Risen M ∧ KvOk m' L' ∧ M.Perm (kvs L') ∧ St m0 m' [] w0 w' (lgD g b s n sl' lv' wv' d' N' (stE sb g mb L' Es))
theorem c_sopenD {b s n : Nat} {wv : Value} {S : By} {d' : DS} {sl' : LG} {R : List By} (st : St m0 m [] w0 w (diskO b s n wv (calm S) :: Es)) (hl : S.length = 64 * n) (hn : 8 ≤ n) (hn2 : n ≤ 16384) (hO : openD n S = (d', sl', R, 0)) (hRl : ∀ x ∈ R, x.length ≤ 1048576) (hRn : R.length ≤ 1048576) :
  Ret Tryz.prog 27 #[.pointer (some ⟨b, 0, none⟩)] w fun v w' => SoOutD m0 m w0 w' Es b s n d' sl' R v (ofR [] R) := by
 refine ret_of Tryz.call27 Tryz.func27 rfl Tryz.ntmps27 Tryz.results27 rfl ?_
 refine wc_seq ?_
 refine wc_region ?_
 refine wl_val (v_assign' (by conv => (lhs; whnf))) rfl ?_
 refine wl_val (v_assign' (by conv => (lhs; whnf))) rfl ?_
 refine wl_nil ?_
 refine then_go ?_
 refine wc_seq ?_
 refine wc_region ?_
 refine wl_val (v_move' (by conv => (lhs; whnf))) rfl ?_
 refine wl_call rfl (c_open st hl hn hn2 (by rw [hO])) rfl ?_
 rintro v13 w ⟨m1, wv1, g, lv1, N1, hmm1, rfl, hP1, hN1, st⟩
 rw [hO] at st hN1 ⊢
 have hN1 : N1.map (·.1) = R := hN1
 have st : St m0 m1 [] w0 w (logB g b sl' lv1 :: lrE lv1 N1 :: diskO b s n wv1 d' :: Es) := st
 have hNl : ∀ x ∈ N1, x.1.length ≤ 1048576 := fun x hx => hRl x.1 (by rw [← hN1]; exact List.mem_map.2 ⟨x, hx, rfl⟩)
 have hNn : N1.length ≤ 1048576 := by
  have h3 : R.length = N1.length := by rw [← hN1, List.length_map]
  omega
 refine wl_val (v_move' (by conv => (lhs; whnf))) rfl ?_
 refine wl_val (v_extract rfl rfl) rfl ?_
 refine wl_val (v_extract rfl rfl) rfl ?_
 refine wl_val (v_assign' (by conv => (lhs; whnf))) rfl ?_
 refine wl_val (v_assign' (by conv => (lhs; whnf))) rfl ?_
 refine wl_nil ?_
 refine then_go ?_
 refine wc_seq ?_
 refine wc_seq ?_
 refine wc_region ?_
 refine wl_val (v_move' (by conv => (lhs; whnf))) rfl ?_
 refine wl_val (v_neq rfl rfl) rfl ?_
 refine wl_nil ?_
 refine then_go ?_
 refine wc_false rfl ?_
 refine wc_skip ?_
 refine then_go ?_
 refine wc_seq ?_
 refine wc_region ?_
 refine wl_val (v_move' (by conv => (lhs; whnf))) rfl ?_
 refine wl_makeMap strV (fun x : DV => x.2) st rfl ?_
 intro mb w _ st
 refine wl_val (v_build (c' := #[.pointer (some ⟨g, 0, none⟩), .map (some mb)]) [(0, .pointer (some ⟨g, 0, none⟩)), (1, .map (some mb))] TF.z95 TF.p95 rfl (fill_one [] [.pointer none] [.map none] rfl rfl rfl (fill_one [.pointer (some ⟨g, 0, none⟩)] [.map none] [] rfl rfl rfl rfl))) rfl ?_
 refine wl_box (v := .agg #[.pointer (some ⟨g, 0, none⟩), .map (some mb)]) rfl st rfl ?_
 intro sb w st
 have st : St m0 m1 [] w0 w (K.blk sb #[.pointer (some ⟨g, 0, none⟩), .map (some mb)] 95 :: kmE mb [] :: logB g b sl' lv1 :: lrE lv1 N1 :: diskO b s n wv1 d' :: Es) := st
 have st : St m0 m1 [] w0 w (lgD g b s n sl' lv1 wv1 d' N1 (stE sb g mb [] Es)) := st.perm ((List.perm_append_comm (l₁ := [_, _]) (l₂ := [_, _, _])).append_right Es)
 refine wl_val (v_assign' (by conv => (lhs; whnf))) rfl ?_
 refine wl_nil ?_
 refine then_go ?_
 refine wc_seq ?_
 refine wc_seq ?_
 refine wc_region ?_
 refine wl_val (v_move' (by conv => (lhs; whnf))) rfl ?_
 refine wl_call rfl (c_logAll st hP1 hNl hNn) rfl ?_
 rintro v24 w ⟨A, hA, st1⟩
 obtain ⟨m2, hg2, hm2, st2⟩ := st1.freezeR (i := 0) rfl (by simp)
 have hs2 : SlM m2 v24 1 A.length (A.map (·.2)) := row_SlM (m := m2) (st1.at (i := 0) rfl) hm2
 obtain ⟨m3, hmm23, hP3, st⟩ := rows_freeze (A := A) st2
 have st : St m0 m3 [] w0 w (lgD g b s n sl' lv1 wv1 d' N1 (stE sb g mb [] Es)) := st
 have hmm3 : ∀ k o, m1 k = some o → m3 k = some o := fun k o h => hmm23 k o (hg2.le k o h)
 have hPM : PcsM m3 v24 A := ⟨hs2.mono hmm23, hP3⟩
 have hAR : A.map (·.1) = R := hA.trans hN1
 have hAl : A.length = N1.length := by have := congrArg List.length hA; simpa using this
 obtain ⟨va, vc, rfl⟩ : ∃ a c, v24 = .slice a A.length c := by obtain ⟨⟨_, a, c, h, _⟩, _⟩ := hPM; exact ⟨a, c, h⟩
 refine wl_val (v_len_s Tryz.underlying41 rfl) rfl ?_
 refine wl_val (v_move' (by conv => (lhs; whnf))) rfl ?_
 refine wl_nil ?_
 refine then_go ?_
 refine wc_block ?_
 refine wc_loop (S := Nat) (fun q r w' => ∃ (i : Nat) (m' : Mem) (M : Kys) (L : List (By × DV)), q + i = A.length ∧ r 4 = .pointer (some ⟨g, 0, none⟩) ∧ r 6 = .pointer (some ⟨sb, 0, none⟩) ∧ r 24 = .slice va A.length vc ∧ r 25 = .int .i64 A.length ∧ r 26 = .int .i64 i ∧ (∀ k o, m3 k = some o → m' k = some o) ∧ ofR [] R = ofR M (R.drop i) ∧ Risen M ∧ KvOk m' L ∧ M.Perm (kvs L) ∧ St m0 m' [] w0 w' (lgD g b s n sl' lv1 wv1 d' N1 (stE sb g mb L Es))) id A.length ⟨0, m3, [], [], by omega, rfl, rfl, rfl, rfl, rfl, fun _ _ h => h, rfl, by simp [Risen], (by intro x hx; cases hx), List.Perm.refl _, st⟩ ?_
 clear st
 rintro q r w2 ⟨i, m', M, L, hqi, g4, g6, g24, g25, g26, hmm, hof, hM, hL, hp, st⟩
 refine wc_o 4 g4 (wc_o 6 g6 (wc_o 24 g24 (wc_o 25 g25 (wc_o 26 g26 ?_))))
 refine wc_seq ?_
 refine wc_region ?_
 refine wl_val (v_lss rfl rfl) rfl ?_
 refine wl_nil ?_
 refine then_go ?_
 refine wc_seq ?_
 refine wc_if rfl (fun h27 => ?_) (fun h27 => ?_)
 ·refine wc_skip ?_
  refine then_go ?_
  refine wc_seq ?_
  refine wc_block ?_
  refine wc_seq ?_
  have hi : i < A.length := by omega
  obtain ⟨nb, no, _, hnv, hsk, hrk⟩ := hPM.elem hi
  cases hnv
  have hsk := hsk.mono hmm
  have hdr : R.drop i = A[i].1 :: R.drop (i + 1) := by
   have hlt : i < R.length := by rw [← hAR, List.length_map]; exact hi
   rw [List.drop_eq_getElem_cons hlt]
   congr 1
   simp [← hAR]
  have hxl : A[i].1.length ≤ 1048576 := hRl A[i].1 (by rw [← hAR]; exact List.mem_map.2 ⟨_, List.getElem_mem hi, rfl⟩)
  refine wc_region ?_
  refine wl_val (v_ias i Tryz.underlying41 TF.t23 rfl rfl (by first | rfl | omega) (by first | omega | (dsimp only at *; omega))) rfl ?_
  refine wl_val (v_load rfl (hrk (fun k o h => st.im k o (hmm k o h)))) rfl ?_
  refine wl_val (v_assign' (by conv => (lhs; whnf))) rfl ?_
  refine wl_nil ?_
  refine then_go ?_
  refine wc_seq ?_
  refine wc_region ?_
  refine wl_val (v_move' (by conv => (lhs; whnf))) rfl ?_
  refine wl_call rfl (c_readB st hsk (by omega)) rfl ?_
  rintro v32 w ⟨m4, hmm4, hro, st⟩
  obtain ⟨lv, e, rfl, he⟩ : ∃ lv e, v32 = .tuple #[lv, .int .i64 (e : Nat)] ∧ ((batR A[i].1 = none ∧ e = 3) ∨ (∃ X, batR A[i].1 = some (X.map (·.1)) ∧ e = 0 ∧ AcsM m4 lv X)) := by
   rcases hbr : batR A[i].1 with _ | X
   ·rw [hbr] at hro
    exact ⟨_, 3, hro, .inl ⟨rfl, rfl⟩⟩
   ·rw [hbr] at hro
    obtain ⟨lv, X', h1, h2, h3⟩ := hro
    exact ⟨lv, 0, h1, .inr ⟨X', by rw [h3], rfl, h2⟩⟩
  refine wl_val (v_move' (by conv => (lhs; whnf))) rfl ?_
  refine wl_val (v_extract rfl rfl) rfl ?_
  refine wl_val (v_extract rfl rfl) rfl ?_
  refine wl_val (v_assign' (by conv => (lhs; whnf))) rfl ?_
  refine wl_val (v_assign' (by conv => (lhs; whnf))) rfl ?_
  refine wl_nil ?_
  refine then_go ?_
  refine wc_seq ?_
  refine wc_seq ?_
  rcases he with ⟨hbr, rfl⟩ | ⟨X, hbr, rfl, hX⟩
  ·refine wc_region ?_
   refine wl_val (v_move' (by conv => (lhs; whnf))) rfl ?_
   refine wl_val (v_neq rfl rfl) rfl ?_
   refine wl_nil ?_
   refine then_go ?_
   refine wc_true rfl ?_
   refine wc_seq ?_
   refine wc_region ?_
   refine wl_val (v_move' (by conv => (lhs; whnf))) rfl ?_
   refine wl_val (v_assign' (by conv => (lhs; whnf))) rfl ?_
   refine wl_val (v_assign' (by conv => (lhs; whnf))) rfl ?_
   refine wl_nil ?_
   refine then_go ?_
   refine wc_ret (then_ret (block_ret (then_ret (then_ret (block_ret (then_ret ?_))))))
   have hR0 : ofR [] R = none := by rw [hof, hdr, ofR, hbr]
   rw [hR0]
   exact ret2 rfl rfl ⟨rfl, m4, wv1, fun k o h => hmm4 k o (hmm k o (hmm3 k o (hmm1 k o h))), ((((st.drop 0).drop 0).drop 1).drop 1)⟩
  ·refine wc_region ?_
   refine wl_val (v_move' (by conv => (lhs; whnf))) rfl ?_
   refine wl_val (v_neq rfl rfl) rfl ?_
   refine wl_nil ?_
   refine then_go ?_
   refine wc_false rfl ?_
   refine wc_skip ?_
   refine then_go ?_
   refine wc_region ?_
   refine wl_val (v_move' (by conv => (lhs; whnf))) rfl ?_
   refine wl_val (v_nil rfl) rfl ?_
   refine wl_val (v_fa TF.f95_1 rfl) rfl ?_
   refine wl_val (v_load rfl (st.reads (v := .map (some mb)) 3 rfl TF.t93 rfl)) rfl ?_
   refine wl_val (v_move' (by conv => (lhs; whnf))) rfl ?_
   have hokX : okL (X.map (·.1)) := (batR_eq hbr).2
   have hXl : X.length ≤ 4096 := by have := hokX.1; simpa using this
   have hnd : ((kvs L).map (·.1)).Nodup := (hp.map (·.1)).nodup hM.nodup
   have st := st.perm (List.perm_middle (l₁ := [_, _, _, _]))
   refine wl_call rfl (c_done st hX (fun a ha => hokX.2.1 _ (List.mem_map.2 ⟨a, ha, rfl⟩)) (hL.mono hmm4) (by omega)) rfl ?_
   rintro v43 w ⟨m5, L5, hmm5, hL5, _, hK5, st⟩
   have st : St m0 m5 [] w0 w (lgD g b s n sl' lv1 wv1 d' N1 (stE sb g mb L5 Es)) := st.perm (List.perm_middle (l₁ := [_, _, _, _])).symm
   refine wl_nil ?_
   refine block_go (then_go ?_)
   refine wc_region ?_
   refine wl_val (v_add' (c := ((i + 1 : Nat) : Int)) rfl rfl (by omega) (by omega) (by omega)) rfl ?_
   refine wl_val (v_move' (by conv => (lhs; whnf))) rfl ?_
   refine wl_nil ?_
   refine then_go ?_
   refine ⟨q - 1, by simp; omega, i + 1, m5, doneS M (X.map (·.1)), L5, by omega, rfl, rfl, rfl, rfl, rfl, fun k o h => hmm5 k o (hmm4 k o (hmm k o h)), ?_, doneS_rise hM, hL5, ?_, st⟩
   ·rw [hof, hdr, ofR, hbr]
   ·rw [hK5]
    exact doneS_perm hp hnd
 ·refine wc_exit (then_exit (then_exit (block_hit ?_)))
  refine then_go ?_
  refine wc_seq ?_
  refine wc_region ?_
  refine wl_val (v_move' (by conv => (lhs; whnf))) rfl ?_
  refine wl_val (v_assign' (by conv => (lhs; whnf))) rfl ?_
  refine wl_val (v_assign' (by conv => (lhs; whnf))) rfl ?_
  refine wl_nil ?_
  refine then_go ?_
  refine wc_ret ?_
  have hiA : i = A.length := by omega
  subst hiA
  have hR0 : ofR [] R = some M := by rw [hof, List.drop_eq_nil_of_le (by rw [← hAR, List.length_map]; exact Nat.le_refl _)]; rfl
  rw [hR0]
  have hmm4 : ∀ k o, m1 k = some o → m' k = some o := fun k o h => hmm k o (hmm3 k o h)
  exact ret2 rfl rfl ⟨g, sb, mb, m', wv1, lv1, N1, L, rfl, fun k o h => hmm4 k o (hmm1 k o h), hP1.mono hmm4, hN1, hM, hL, hp, st⟩
abbrev SoOut (m0 m : Mem) (w0 w' : World) (Es : List Ent) (b s n : Nat) (S' : By) (sl' : LG) (R : List By) (v : Value) (o : Option Kys) : Prop := SoOutD m0 m w0 w' Es b s n (calm S') sl' R v o
theorem c_sopen {b s n : Nat} {wv : Value} {S S' : By} {sl' : LG} {R : List By} (st : St m0 m [] w0 w (diskO b s n wv (calm S) :: Es)) (hl : S.length = 64 * n) (hn : 8 ≤ n) (hn2 : n ≤ 16384) (hO : openD n S = (calm S', sl', R, 0)) (ok : LogOk n S' sl' R) :
  Ret Tryz.prog 27 #[.pointer (some ⟨b, 0, none⟩)] w fun v w' => SoOut m0 m w0 w' Es b s n S' sl' R v (ofR [] R) :=
 c_sopenD st hl hn hn2 hO (fun x hx => (ok.okr x hx).2) (by
  have h1 := sizeL_ge (l := R)
  have h2 := ok.fit
  omega)
end
end Go.Proofs.YtladpaehbolghaaGreat

namespace Go.Proofs.YtladpaehbolghaaGreat
open Go Go.RowKit K SH GC JR OS
open DK hiding By
section
variable {m : Mem} {wI : World}
theorem c_rdone {kv vv lv : Value} {E : List (By × DV)} {A : List AcT} (him : Im m wI) (hE : KyM m kv vv E) (hr : Risen (kvs E)) (hA : AcsM m lv A) (hAo : ∀ a ∈ A, actOk a.1) (hl : E.length + A.length ≤ 1000000) :
  Ret Tryz.prog 47 #[.agg #[kv, vv], lv] wI fun v w' => Out m wI w' fun m' => ∃ kv' vv' E', v = .agg #[kv', vv'] ∧ KyM m' kv' vv' E' ∧ kvs E' = doneS (kvs E) (A.map (·.1)) ∧ E'.length ≤ E.length + A.length := by
 have st := St.start him
 have o1 := SlM.one1 hE.1
 have o2 := SlM.one1 hE.2.1
 have hc : (Value.agg #[kv, vv]).cells = #[kv, vv] := rfl
 obtain ⟨la, lc, rfl⟩ := hA.1.sl
 refine ret_of Tryz.call47 Tryz.func47 rfl Tryz.ntmps47 Tryz.results47 rfl ?_
 refine wc_seq ?_
 refine wc_region ?_
 refine wl_box (v := .agg #[kv, vv]) rfl st rfl ?_
 intro b2 w st
 refine wl_alloc TF.z43 st rfl ?_
 intro b4 w st
 refine wl_nil ?_
 refine then_go ?_
 refine wc_seq ?_
 refine wc_seq ?_
 refine wc_region ?_
 refine wl_val (v_assign' (by conv => (lhs; whnf))) rfl ?_
 refine wl_nil ?_
 refine then_go ?_
 refine wc_block ?_
 refine wc_loop (S := Nat) (fun q r w' => ∃ (i : Nat) (m' : Mem) (kv' vv' : Value) (E' : List (By × DV)), q + i = A.length ∧ r 1 = .slice la A.length lc ∧ r 2 = .pointer (some ⟨b2, 0, none⟩) ∧ r 4 = .pointer (some ⟨b4, 0, none⟩) ∧ r 5 = .int .i64 i ∧ (∀ k o, m k = some o → m' k = some o) ∧ KyM m' kv' vv' E' ∧ kvs E' = doneS (kvs E) ((A.take i).map (·.1)) ∧ E'.length ≤ E.length + i ∧ St m m' [] wI w' [K.blk b4 #[.slice none 0 0, .slice none 0 0] 43, K.blk b2 #[kv', vv'] 43]) id A.length ⟨0, m, kv, vv, E, by omega, rfl, rfl, rfl, rfl, fun _ _ h => h, hE, rfl, by omega, st⟩ ?_
 clear st
 rintro q r w2 ⟨i, m', kv', vv', E', hqi, g1, g2, g4, g5, hmm, hE', hK, hEl, st⟩
 refine wc_o 1 g1 (wc_o 2 g2 (wc_o 4 g4 (wc_o 5 g5 ?_)))
 have hA := hA.mono hmm
 refine wc_seq ?_
 refine wc_seq ?_
 refine wc_region ?_
 refine wl_val (v_move' (by conv => (lhs; whnf))) rfl ?_
 refine wl_val (v_move' (by conv => (lhs; whnf))) rfl ?_
 refine wl_val (v_len_s Tryz.underlying22 rfl) rfl ?_
 refine wl_val (v_lss rfl rfl) rfl ?_
 refine wl_nil ?_
 refine then_go ?_
 refine wc_if rfl (fun h9 => ?_) (fun h9 => ?_)
 ·refine wc_skip ?_
  refine then_go ?_
  refine wc_seq ?_
  refine wc_block ?_
  have hi : i < A.length := by omega
  obtain ⟨lb, lo, da, dc, hla, hd, hrL, _⟩ := hA.at hi
  subst hla
  have hok : AcOk m' A[i].1 A[i].2 := hA.2 _ (List.getElem_mem hi)
  have hao := hAo _ (List.getElem_mem hi)
  have htk : doneS (kvs E) ((A.take (i + 1)).map (·.1)) = oneS (doneS (kvs E) ((A.take i).map (·.1))) A[i].1 := by
   unfold doneS
   rw [List.take_succ_eq_append_getElem hi, List.map_append, List.foldl_append]
   rfl
  have hri : Risen (kvs E') := by rw [hK]; exact doneS_rise hr
  refine wc_draw TF.mixed ?_
  have st := st.pure (touch_drew _)
  refine fl_ld 0 rfl (v_load rfl (st.reads (v := .agg #[kv', vv']) 1 rfl TF.t43 (getV_all rfl))) (by kernel_rfl) ?_
  refine fl_val 1 rfl (fun _ => (v_move' (by conv => (lhs; whnf)))) rfl (by kernel_rfl) ?_
  refine fl_val 2 rfl (fun _ => (v_move' (by conv => (lhs; whnf)))) rfl (by kernel_rfl) ?_
  refine fl_val 3 rfl (fun _ => (v_ias i Tryz.underlying22 TF.t57 rfl rfl (by first | rfl | omega) (by first | omega | (dsimp only at *; omega)))) rfl (by kernel_rfl) ?_
  refine fl_ld 4 rfl (v_load rfl (hrL st.im)) (by kernel_rfl) ?_
  refine fl_eff1 5 [3, 2, 1] [] (by kernel_rfl) ⟨obl_ld rfl rfl rfl (v_load rfl (hrL st.im)), obl_ld rfl rfl rfl (v_load rfl (st.reads (v := .agg #[kv', vv']) 1 rfl TF.t43 (getV_all rfl))), trivial⟩ rfl ?_
  refine wl_call rfl (c_rone st.im hE' (by omega) hok hao.2.1 hao.2.2.2) rfl ?_
  rintro v17 w ⟨t17, m1, hg1, hi1, kv2, vv2, rfl, hE2⟩
  have st := st.grown hg1 t17 hi1
  have p1 := SlM.one1 hE2.1
  have p2 := SlM.one1 hE2.2.1
  refine wl_nil ⟨rfl, ?_⟩
  refine fl_eff1 6 [] [] (by kernel_rfl) trivial rfl ?_
  refine wl_storeW (cs := #[kv2, vv2]) 1 st rfl TF.t43 rfl rfl rfl rfl (by intro u hu; simp at hu; rcases hu with rfl | rfl <;> assumption) ?_
  intro w st
  refine wl_nil ⟨rfl, ?_⟩
  refine fl_nil (by kernel_rfl) trivial ?_
  refine block_go (then_go ?_)
  refine wc_region ?_
  refine wl_val (v_move' (by conv => (lhs; whnf))) rfl ?_
  refine wl_val (v_add' (c := ((i + 1 : Nat) : Int)) rfl rfl (by omega) (by omega) (by omega)) rfl ?_
  refine wl_val (v_assign' (by conv => (lhs; whnf))) rfl ?_
  refine wl_nil ?_
  refine then_go ?_
  refine ⟨q - 1, by simp; omega, i + 1, m1, kv2, vv2, _, by omega, rfl, rfl, rfl, rfl, fun k o h => hg1.le k o (hmm k o h), hE2, ?_, ?_, st⟩
  ·rw [kvs_one hri, hK, ← htk]
  ·have h1 := (bulkOne (M := kvs E') (a := A[i].1)).2
   rw [← kvs_one (dv := A[i].2) hri, length_kvs, length_kvs] at h1
   omega
 ·refine wc_exit (then_exit (then_exit (block_hit ?_)))
  refine then_go ?_
  refine wc_seq ?_
  refine wc_region ?_
  refine wl_val (v_load rfl (st.reads (v := .agg #[kv', vv']) 1 rfl TF.t43 (getV_all rfl))) rfl ?_
  have p1 := SlM.one1 hE'.1
  have p2 := SlM.one1 hE'.2.1
  refine wl_storeW (cs := #[kv', vv']) 0 st rfl TF.t43 rfl rfl rfl rfl (by intro u hu; simp at hu; rcases hu with rfl | rfl <;> assumption) ?_
  intro w st
  refine wl_nil ?_
  refine then_go ?_
  refine wc_ret ?_
  have hiA : i = A.length := by omega
  subst hiA
  rw [List.take_length] at hK
  exact ret1c (p := ⟨b4, 0, none⟩) (v := .agg #[kv', vv']) rfl (st.reads (off := 0) 0 rfl TF.t43 (getV_all rfl)) ((st.keepOnly (l := []) (List.nil_sublist _)).out ⟨kv', vv', E', rfl, hE', hK, hEl⟩)
theorem c_rwhole {kv vv : Value} {E : List (By × DV)} (him : Im m wI) (hE : KyM m kv vv E) (hl : E.length ≤ 1000000) :
  Ret Tryz.prog 49 #[.agg #[kv, vv]] wI fun v w' => Out m wI w' fun m' => ∃ A, AcsM m' v A ∧ A.map (·.1) = actsOf (kvs E) := by
 have st := St.start him
 obtain ⟨ka, kc, va, vc, rfl, rfl, hkc, hvc⟩ := hE.sl
 refine ret_of Tryz.call49 Tryz.func49 rfl Tryz.ntmps49 Tryz.results49 rfl ?_
 refine wc_seq ?_
 refine wc_region ?_
 refine wl_box (v := .agg #[.slice ka E.length kc, .slice va E.length vc]) rfl st rfl ?_
 intro b1 w st
 refine wl_val (v_assign' (by conv => (lhs; whnf))) rfl ?_
 refine wl_nil ?_
 refine then_go ?_
 refine wc_seq ?_
 refine wc_region ?_
 refine wl_val (v_assign' (by conv => (lhs; whnf))) rfl ?_
 refine wl_nil ?_
 refine then_go ?_
 refine wc_seq ?_
 refine wc_seq ?_
 refine wc_region ?_
 refine wl_val (v_assign' (by conv => (lhs; whnf))) rfl ?_
 refine wl_nil ?_
 refine then_go ?_
 refine wc_block ?_
 have st : St m m [] wI w [acE (.slice none 0 0) [], K.blk b1 #[.slice ka E.length kc, .slice va E.length vc] 43] := nilRow st 57 3
 refine wc_loop (S := Nat) (fun q r w' => ∃ (i : Nat) (v : Value), q + i = E.length ∧ r 1 = .pointer (some ⟨b1, 0, none⟩) ∧ r 3 = v ∧ r 4 = .int .i64 i ∧ St m m [] wI w' [acE v ((E.take i).map toAct), K.blk b1 #[.slice ka E.length kc, .slice va E.length vc] 43]) id E.length ⟨0, _, by omega, rfl, rfl, rfl, st⟩ ?_
 clear st
 rintro q r w2 ⟨i, v, hqi, g1, g3, g4, st⟩
 refine wc_o 1 g1 (wc_o 3 g3 (wc_o 4 g4 ?_))
 refine wc_seq ?_
 refine wc_seq ?_
 refine wc_region ?_
 refine wl_val (v_move' (by conv => (lhs; whnf))) rfl ?_
 refine wl_val (v_fa TF.f43_0 rfl) rfl ?_
 refine wl_val (v_load rfl (st.reads (v := .slice ka E.length kc) 1 rfl TF.t40 rfl)) rfl ?_
 refine wl_val (v_len_s Tryz.underlying40 rfl) rfl ?_
 refine wl_val (v_lss rfl rfl) rfl ?_
 refine wl_nil ?_
 refine then_go ?_
 refine wc_if rfl (fun h9 => ?_) (fun h9 => ?_)
 ·refine wc_skip ?_
  refine then_go ?_
  refine wc_seq ?_
  refine wc_block ?_
  have hi : i < E.length := by omega
  obtain ⟨lb, lo, _, hla, hrk⟩ := hE.str hi
  cases hla
  obtain ⟨ub, uo, _, hua, hrv⟩ := hE.val hi
  cases hua
  obtain ⟨hk64, hd20, hsl⟩ := hE.2.2 _ (List.getElem_mem hi)
  have hone := cells_one (SlM.one1 hsl)
  have hao : AcOk m (toAct E[i]).1 (toAct E[i]).2 := ⟨by show E[i].1.length ≤ _; omega, hsl⟩
  have htk : (E.take (i + 1)).map toAct = (E.take i).map toAct ++ [toAct E[i]] := by rw [List.take_succ_eq_append_getElem hi, List.map_append]; rfl
  have hln : ((E.take i).map toAct).length = i := by rw [List.length_map, List.length_take]; omega
  refine wc_draw TF.mixed ?_
  have st := st.pure (touch_drew _)
  refine fl_val 0 rfl (fun _ => (v_move' (by conv => (lhs; whnf)))) rfl (by kernel_rfl) ?_
  refine fl_val 1 rfl (fun _ => (v_fa TF.f43_0 rfl)) rfl (by kernel_rfl) ?_
  refine fl_ld 2 rfl (v_load rfl (by first | exact st.reads (v := .slice (some ⟨lb, lo, none⟩) E.length kc) 1 rfl TF.t40 rfl | exact st.reads (v := .slice (some ⟨lb, lo, none⟩) E.length kc) 2 rfl TF.t40 rfl)) (by kernel_rfl) ?_
  refine fl_val 3 rfl (fun _ => (v_move' (by conv => (lhs; whnf)))) rfl (by kernel_rfl) ?_
  refine fl_val 4 rfl (fun _ => (v_ias i Tryz.underlying40 TF.t9 rfl rfl (by first | rfl | omega) (by first | omega | (dsimp only at *; omega)))) rfl (by kernel_rfl) ?_
  refine fl_ld 5 rfl (v_load rfl (hrk st.im)) (by kernel_rfl) ?_
  refine fl_val 6 rfl (fun _ => (v_fa TF.f43_1 rfl)) rfl (by kernel_rfl) ?_
  refine fl_ld 7 rfl (v_load rfl (by first | exact st.reads (v := .slice (some ⟨ub, uo, none⟩) E.length vc) 1 rfl TF.t41 rfl | exact st.reads (v := .slice (some ⟨ub, uo, none⟩) E.length vc) 2 rfl TF.t41 rfl)) (by kernel_rfl) ?_
  refine fl_val 8 rfl (fun _ => (v_move' (by conv => (lhs; whnf)))) rfl (by kernel_rfl) ?_
  refine fl_val 9 rfl (fun _ => (v_ias i Tryz.underlying41 TF.t23 rfl rfl (by first | rfl | omega) (by first | omega | (dsimp only at *; omega)))) rfl (by kernel_rfl) ?_
  refine fl_ld 10 rfl (v_load rfl (hrv st.im)) (by kernel_rfl) ?_
  refine fl_val 11 rfl (fun _ => (v_build (c' := (acC ⟨E[i].1, true, E[i].2.1⟩ E[i].2.2).toArray) [(0, .string (strB E[i].1)), (1, .bool true), (2, E[i].2.2)] TF.z57 TF.p57 rfl (fill_one [] [.string ⟨#[]⟩] [.bool false, .slice none 0 0] rfl rfl rfl (fill_one [.string (strB E[i].1)] [.bool false] [.slice none 0 0] rfl rfl rfl (fill_one [.string (strB E[i].1), .bool true] [.slice none 0 0] [] rfl rfl (by rw [hone]; rfl) (by rw [hone]; rfl)))))) rfl (by kernel_rfl) ?_
  refine fl_eff1 12 [9, 8, 6, 4, 3, 1, 0] [10, 7, 5, 2] (by kernel_rfl) ⟨obl_ld rfl rfl rfl (v_load rfl (hrv st.im)), obl_ld rfl rfl rfl (v_load rfl (by first | exact st.reads (v := .slice (some ⟨ub, uo, none⟩) E.length vc) 1 rfl TF.t41 rfl | exact st.reads (v := .slice (some ⟨ub, uo, none⟩) E.length vc) 2 rfl TF.t41 rfl)), obl_ld rfl rfl rfl (v_load rfl (hrk st.im)), obl_ld rfl rfl rfl (v_load rfl (by first | exact st.reads (v := .slice (some ⟨lb, lo, none⟩) E.length kc) 1 rfl TF.t40 rfl | exact st.reads (v := .slice (some ⟨lb, lo, none⟩) E.length kc) 2 rfl TF.t40 rfl)), trivial⟩ rfl ?_
  refine wl_lsOne (acC ⟨E[i].1, true, E[i].2.1⟩ E[i].2.2) Tryz.underlying22 TF.t57 TF.z57 (by decide) (by decide) (Ac.len hao) rfl st rfl ?_
  intro b24 w st
  refine wl_nil ⟨rfl, ?_⟩
  refine fl_eff1 13 [9, 8, 6, 4, 3, 1] [10, 7, 5, 2] (by kernel_rfl) ⟨obl_ld rfl rfl rfl (v_load rfl (hrv st.im)), obl_ld rfl rfl rfl (v_load rfl (by first | exact st.reads (v := .slice (some ⟨ub, uo, none⟩) E.length vc) 1 rfl TF.t41 rfl | exact st.reads (v := .slice (some ⟨ub, uo, none⟩) E.length vc) 2 rfl TF.t41 rfl)), obl_ld rfl rfl rfl (v_load rfl (hrk st.im)), obl_ld rfl rfl rfl (v_load rfl (by first | exact st.reads (v := .slice (some ⟨lb, lo, none⟩) E.length kc) 1 rfl TF.t40 rfl | exact st.reads (v := .slice (some ⟨lb, lo, none⟩) E.length kc) 2 rfl TF.t40 rfl)), trivial⟩ rfl ?_
  refine wl_lsApp (c := acP) (e := toAct E[i]) 0 st rfl Tryz.underlying22 TF.t57 TF.z57 rfl rfl (Ac.one hao) rfl rfl (by omega) (by omega) rfl ?_
  intro v25 w st hv25
  refine wl_nil ⟨rfl, ?_⟩
  refine fl_eff1 14 [] [] (by kernel_rfl) ⟨obl_ld rfl rfl rfl (v_load rfl (hrv st.im)), obl_ld rfl rfl rfl (v_load rfl (by first | exact st.reads (v := .slice (some ⟨ub, uo, none⟩) E.length vc) 1 rfl TF.t41 rfl | exact st.reads (v := .slice (some ⟨ub, uo, none⟩) E.length vc) 2 rfl TF.t41 rfl)), obl_ld rfl rfl rfl (v_load rfl (hrk st.im)), obl_ld rfl rfl rfl (v_load rfl (by first | exact st.reads (v := .slice (some ⟨lb, lo, none⟩) E.length kc) 1 rfl TF.t40 rfl | exact st.reads (v := .slice (some ⟨lb, lo, none⟩) E.length kc) 2 rfl TF.t40 rfl)), trivial⟩ rfl ?_
  refine wl_val (v_assign' (by conv => (lhs; whnf))) rfl ?_
  refine wl_nil ⟨rfl, ?_⟩
  refine fl_nil (by kernel_rfl) trivial ?_
  refine block_go (then_go ?_)
  refine wc_region ?_
  refine wl_val (v_move' (by conv => (lhs; whnf))) rfl ?_
  refine wl_val (v_add' (c := ((i + 1 : Nat) : Int)) rfl rfl (by omega) (by omega) (by omega)) rfl ?_
  refine wl_val (v_assign' (by conv => (lhs; whnf))) rfl ?_
  refine wl_nil ?_
  refine then_go ?_
  refine ⟨q - 1, by simp; omega, i + 1, v25, by omega, rfl, rfl, rfl, ?_⟩
  rw [htk]
  exact st
 ·refine wc_exit (then_exit (then_exit (block_hit ?_)))
  refine then_go ?_
  refine wc_seq ?_
  refine wc_region ?_
  refine wl_val (v_move' (by conv => (lhs; whnf))) rfl ?_
  refine wl_val (v_assign' (by conv => (lhs; whnf))) rfl ?_
  refine wl_nil ?_
  refine then_go ?_
  refine wc_ret ?_
  have hiE : i = E.length := by omega
  subst hiE
  rw [List.take_length] at st
  obtain ⟨m1, hg1, hls, st⟩ := st.keepLs (i := 0) rfl (fun _ _ => rfl)
  have hA : AcsM m1 v (E.map toAct) := ⟨hls, fun a ha => by
   obtain ⟨z, hz, rfl⟩ := List.mem_map.1 ha
   obtain ⟨h1, h2, h3⟩ := hE.2.2 z hz
   exact ⟨by show z.1.length ≤ _; omega, h3.mono hg1.le⟩⟩
  exact ret1 rfl ((st.keepOnly (l := []) (List.nil_sublist _)).out ⟨_, hA, by unfold actsOf kvs; rw [List.map_map, List.map_map]; rfl⟩)
end
end Go.Proofs.YtladpaehbolghaaGreat

namespace Go.Proofs.YtladpaehbolghaaGreat
open Go Go.RowKit K SH GC JR OS
open DK hiding By
end Go.Proofs.YtladpaehbolghaaGreat

namespace Go.Proofs.YtladpaehbolghaaGreat
open Go Go.RowKit K SH GC JR OS
section
open OS
variable {m : Mem} {wI : World}
theorem c_rtxt {tv : Value} {t : List UInt8} (him : Im m wI) (ht : SlM m tv 1 t.length (bs t)) (hl : t.length ≤ 1000000000) :
  Ret Tryz.prog 46 #[tv] wI fun v w' => Out m wI w' fun m' => SlM m' v 1 (txtB t).length (bs (txtB t)) := by
 have st := St.start him
 obtain ⟨ta, tc, rfl, _⟩ := ht.opn
 refine ret_of Tryz.call46 Tryz.func46 rfl Tryz.ntmps46 Tryz.results46 rfl ?_
 refine wc_seq ?_
 refine wc_region ?_
 refine wl_val (v_assign' (by conv => (lhs; whnf))) rfl ?_
 refine wl_nil ?_
 refine then_go ?_
 refine wc_seq ?_
 refine wc_region ?_
 refine wl_val (v_move' (by conv => (lhs; whnf))) rfl ?_
 refine wl_val (v_len_s Tryz.underlying23 rfl) rfl ?_
 refine wl_val (v_convi_64 Tryz.underlying3 Tryz.underlying47 rfl) rfl ?_
 refine wl_call rfl (c_rnum (n := UInt64.ofNat t.length) st) rfl ?_
 intro v6 w st
 rw [UInt64.toNat_ofNat', Nat.mod_eq_of_lt (by omega)] at st
 have st0 := st
 obtain ⟨m1, hg1, hm1, st⟩ := st.freezeR (i := 0) rfl (by simp)
 have st : St m m1 [] wI w [] := st
 have hn := row_SlM (m := m1) (st0.at (i := 0) rfl) hm1
 refine wl_val (v_move' (by conv => (lhs; whnf))) rfl ?_
 refine wl_pcs2 st rfl rfl hn (ht.mono hg1.le) rfl ?_
 intro m2 v8 w hg2 st hp
 have hp : PcsM m2 v8 [(numB t.length, v6), (t, .slice ta t.length tc)] := hp
 have hjb : joinB [(numB t.length, v6), (t, .slice ta t.length tc)] = txtB t := by simp [joinB, txtB]
 have htl := txtB_len (t := t) (by omega)
 refine wl_call rfl (c_join st.im hp (by rw [hjb]; omega) (by simp)) rfl ?_
 rintro v9 w ⟨t9, m3, hg3, hi3, h9⟩
 rw [hjb] at h9
 have st := st.grown hg3 t9 hi3
 refine wl_val (v_assign' (by conv => (lhs; whnf))) rfl ?_
 refine wl_nil ?_
 refine then_go ?_
 refine wc_ret ?_
 exact ret1 rfl (st.out h9)
theorem c_rbatch {v : Value} {L : List AcT} (him : Im m wI) (hL : AcsM m v L) (hLl : L.length ≤ 1000000000) (hb : bulkA (L.map (·.1)) ≤ 1000000000) :
  Ret Tryz.prog 17 #[v] wI fun v' w' => Out m wI w' fun m' => SlM m' v' 1 (batB (L.map (·.1))).length (bs (batB (L.map (·.1)))) := by
 have st := St.start him
 obtain ⟨la, lc, rfl⟩ := hL.1.sl
 obtain ⟨M, hM⟩ : ∃ M, M = L.map (·.1) := ⟨_, rfl⟩
 have hMl : M.length = L.length := by rw [hM, List.length_map]
 rw [← hM] at hb ⊢
 have h10 := numB_len10 (n := L.length) (by omega)
 refine ret_of Tryz.call17 Tryz.func17 rfl Tryz.ntmps17 Tryz.results17 rfl ?_
 refine wc_seq ?_
 refine wc_region ?_
 refine wl_val (v_assign' (by conv => (lhs; whnf))) rfl ?_
 refine wl_nil ?_
 refine then_go ?_
 refine wc_seq ?_
 refine wc_region ?_
 refine wl_val (v_move' (by conv => (lhs; whnf))) rfl ?_
 refine wl_val (v_len_s Tryz.underlying22 rfl) rfl ?_
 refine wl_val (v_convi_64 Tryz.underlying3 Tryz.underlying47 rfl) rfl ?_
 refine wl_call rfl (c_rnum (n := UInt64.ofNat L.length) st) rfl ?_
 intro v8 w st
 rw [UInt64.toNat_ofNat', Nat.mod_eq_of_lt (by omega)] at st
 refine wl_val (v_assign' (by conv => (lhs; whnf))) rfl ?_
 refine wl_nil ?_
 refine then_go ?_
 refine wc_seq ?_
 refine wc_seq ?_
 refine wc_region ?_
 refine wl_val (v_assign' (by conv => (lhs; whnf))) rfl ?_
 refine wl_nil ?_
 refine then_go ?_
 refine wc_block ?_
 refine wc_loop (S := Nat) (fun q r w' => ∃ i v m', q + i = L.length ∧ r 0 = .slice la L.length lc ∧ r 3 = v ∧ r 4 = .int .i64 i ∧ (∀ k o, m k = some o → m' k = some o) ∧ St m m' [] wI w' [byE v (numB L.length ++ (M.take i).flatMap actB)]) id L.length ⟨0, v8, m, by omega, rfl, rfl, rfl, fun _ _ h => h, by simpa using st⟩ ?_
 clear st
 rintro q r w2 ⟨i, v, m', hqi, g0, g3, g4, hmm, st⟩
 refine wc_o 0 g0 (wc_o 3 g3 (wc_o 4 g4 ?_))
 have hL := hL.mono hmm
 refine wc_seq ?_
 refine wc_seq ?_
 refine wc_region ?_
 refine wl_val (v_move' (by conv => (lhs; whnf))) rfl ?_
 refine wl_val (v_move' (by conv => (lhs; whnf))) rfl ?_
 refine wl_val (v_len_s Tryz.underlying22 rfl) rfl ?_
 refine wl_val (v_lss rfl rfl) rfl ?_
 refine wl_nil ?_
 refine then_go ?_
 refine wc_if rfl (fun h12 => ?_) (fun h12 => ?_)
 ·refine wc_skip ?_
  refine then_go ?_
  refine wc_seq ?_
  refine wc_block ?_
  refine wc_seq ?_
  have hi : i < L.length := by omega
  have hiM : i < M.length := by omega
  obtain ⟨lb, lo, da, dc, hla, hd, _, hrK, hrS, hrD⟩ := hL.at hi
  subst hla
  have hok : AcOk m' L[i].1 L[i].2 := hL.2 _ (List.getElem_mem hi)
  have hMi : M[i] = L[i].1 := by simp [hM]
  have hbi := bulk_mem (List.getElem_mem hiM)
  have hft := flat_lenA (L := M.take i) (Nat.le_trans (bulk_take i) (by omega))
  have hbt := bulk_take (L := M) i
  have hlt : (M.take i).length ≤ L.length := by simp; omega
  obtain ⟨x, hx⟩ : ∃ x, x = L[i].1 := ⟨_, rfl⟩
  rw [hMi] at hbi
  have htk : (M.take (i + 1)).flatMap actB = (M.take i).flatMap actB ++ actB x := by rw [List.take_succ_eq_append_getElem hiM, List.flatMap_append, hMi, ← hx]; simp
  rw [← hx] at hd hok hMi hbi hrK hrS
  rw [hd] at hok hrD
  have htl := txtB_len (t := x.key) (by omega)
  have htd := txtB_len (t := x.data) (by omega)
  obtain ⟨P0, hP0⟩ : ∃ P0, P0 = numB L.length ++ (M.take i).flatMap actB := ⟨_, rfl⟩
  have hP0l : P0.length ≤ 40000000000 := by rw [hP0, List.length_append]; omega
  rw [← hP0] at st
  refine wc_region ?_
  refine wl_val (v_move' (by conv => (lhs; whnf))) rfl ?_
  refine wl_val (v_move' (by conv => (lhs; whnf))) rfl ?_
  refine wl_val (v_move' (by conv => (lhs; whnf))) rfl ?_
  refine wl_val (v_ias i Tryz.underlying22 TF.t57 rfl rfl (by first | rfl | omega) (by first | omega | (dsimp only at *; omega))) rfl ?_
  refine wl_val (v_fa TF.f57_0 rfl) rfl ?_
  refine wl_val (v_load rfl (hrK st.im)) rfl ?_
  refine wl_s2b Tryz.underlying9 Tryz.underlying23 Tryz.underlying5 rfl st rfl ?_
  intro v21 m1 w hg1 hk1 _ st
  have hmm1 : ∀ k o, m' k = some o → m1 k = some o := hg1.le
  refine wl_call rfl (c_rtxt st.im hk1 (by omega)) rfl ?_
  rintro v22 w ⟨t22, m2, hg2, hi2, h22⟩
  have st := st.grown hg2 t22 hi2
  have hmm2 : ∀ k o, m' k = some o → m2 k = some o := fun k o h => hg2.le k o (hmm1 k o h)
  refine wl_appB (l2 := txtB x.key) st Tryz.underlying23 Tryz.underlying23 (.inr ⟨_, rfl⟩) TF.t5 TF.z5 rfl rfl (h22.src st.im (one_bs _)) (by omega) (by omega) rfl ?_
  intro v23 w st hv23
  have hL2 := hL.mono hmm2
  have hrS2 : ∀ {w' : World}, Im m2 w' → Reads Tryz.prog w' 4 ⟨lb, lo + i * 3 + 1, none⟩ (.bool x.set) := fun him => hrS (fun k o h => him k o (hmm2 k o h))
  refine wl_val (v_assign' (by conv => (lhs; whnf))) rfl ?_
  refine wl_nil ?_
  refine then_go ?_
  refine wc_seq ?_
  refine wc_region ?_
  refine wl_val (v_move' (by conv => (lhs; whnf))) rfl ?_
  refine wl_val (v_move' (by conv => (lhs; whnf))) rfl ?_
  refine wl_val (v_ias i Tryz.underlying22 TF.t57 rfl rfl (by first | rfl | omega) (by first | omega | (dsimp only at *; omega))) rfl ?_
  refine wl_val (v_fa TF.f57_1 rfl) rfl ?_
  refine wl_val (v_load rfl (hrS2 st.im)) rfl ?_
  refine wl_nil ?_
  refine then_go ?_
  refine wc_cond rfl (fun h28 => ?_) (fun h28 => ?_)
  ·refine wc_seq ?_
   refine wc_region ?_
   refine wl_val (v_move' (by conv => (lhs; whnf))) rfl ?_
   refine wl_byte1 1 Tryz.underlying23 TF.t5 TF.z5 rfl st rfl ?_
   intro b30 w st
   refine wl_app1 st Tryz.underlying23 TF.t5 TF.z5 rfl rfl (by rw [List.length_append]; omega) (by rw [List.length_append]; omega) rfl ?_
   intro v31 w st hv31
   refine wl_val (v_assign' (by conv => (lhs; whnf))) rfl ?_
   refine wl_nil ?_
   refine then_go ?_
   refine wc_region ?_
   refine wl_val (v_move' (by conv => (lhs; whnf))) rfl ?_
   refine wl_val (v_move' (by conv => (lhs; whnf))) rfl ?_
   refine wl_val (v_move' (by conv => (lhs; whnf))) rfl ?_
   refine wl_val (v_ias i Tryz.underlying22 TF.t57 rfl rfl (by first | rfl | omega) (by first | omega | (dsimp only at *; omega))) rfl ?_
   refine wl_val (v_fa TF.f57_2 rfl) rfl ?_
   refine wl_val (v_load rfl (hrD (fun k o h => st.im k o (hmm2 k o h)))) rfl ?_
   refine wl_call rfl (c_rtxt st.im (hok.data.mono hmm2) (by omega)) rfl ?_
   rintro v38 w ⟨t38, m3, hg3, hi3, h38⟩
   have st := st.grown hg3 t38 hi3
   refine wl_appB (l2 := txtB x.data) st Tryz.underlying23 Tryz.underlying23 (.inr ⟨_, rfl⟩) TF.t5 TF.z5 rfl rfl (h38.src st.im (one_bs _)) (by simp only [List.length_append, List.length_cons, List.length_nil]; omega) (by simp only [List.length_append, List.length_cons, List.length_nil]; omega) rfl ?_
   intro v39 w st hv39
   refine wl_val (v_assign' (by conv => (lhs; whnf))) rfl ?_
   refine wl_nil ?_
   refine block_go (then_go ?_)
   refine wc_region ?_
   refine wl_val (v_move' (by conv => (lhs; whnf))) rfl ?_
   refine wl_val (v_add' (c := ((i + 1 : Nat) : Int)) rfl rfl (by omega) (by omega) (by omega)) rfl ?_
   refine wl_val (v_assign' (by conv => (lhs; whnf))) rfl ?_
   refine wl_nil ?_
   refine then_go ?_
   refine ⟨q - 1, by simp; omega, i + 1, v39, m3, by omega, rfl, rfl, rfl, fun k o h => hg3.le k o (hmm2 k o (hmm k o h)), ?_⟩
   have e : numB L.length ++ (M.take (i + 1)).flatMap actB = P0 ++ txtB x.key ++ [1] ++ txtB x.data := by rw [htk, actB, h28, hP0]; simp
   rw [e]
   exact st
  ·refine wc_region ?_
   refine wl_val (v_move' (by conv => (lhs; whnf))) rfl ?_
   refine wl_byte1 0 Tryz.underlying23 TF.t5 TF.z5 rfl st rfl ?_
   intro b41 w st
   refine wl_app1 st Tryz.underlying23 TF.t5 TF.z5 rfl rfl (by rw [List.length_append]; omega) (by rw [List.length_append]; omega) rfl ?_
   intro v42 w st hv42
   refine wl_val (v_assign' (by conv => (lhs; whnf))) rfl ?_
   refine wl_nil ?_
   refine block_go (then_go ?_)
   refine wc_region ?_
   refine wl_val (v_move' (by conv => (lhs; whnf))) rfl ?_
   refine wl_val (v_add' (c := ((i + 1 : Nat) : Int)) rfl rfl (by omega) (by omega) (by omega)) rfl ?_
   refine wl_val (v_assign' (by conv => (lhs; whnf))) rfl ?_
   refine wl_nil ?_
   refine then_go ?_
   refine ⟨q - 1, by simp; omega, i + 1, v42, m2, by omega, rfl, rfl, rfl, fun k o h => hmm2 k o (hmm k o h), ?_⟩
   have e : numB L.length ++ (M.take (i + 1)).flatMap actB = P0 ++ txtB x.key ++ [0] := by rw [htk, actB, h28, hP0]; simp
   rw [e]
   exact st
 ·refine wc_exit (then_exit (then_exit (block_hit ?_)))
  refine then_go ?_
  refine wc_seq ?_
  refine wc_region ?_
  refine wl_val (v_move' (by conv => (lhs; whnf))) rfl ?_
  refine wl_val (v_assign' (by conv => (lhs; whnf))) rfl ?_
  refine wl_nil ?_
  refine then_go ?_
  refine wc_ret ?_
  have hiL : i = M.length := by omega
  subst hiL
  rw [List.take_length] at st
  exact ret1 rfl (by unfold batB; rw [hMl]; exact st.bytesOut)
end
end Go.Proofs.YtladpaehbolghaaGreat

namespace Go.Proofs.YtladpaehbolghaaGreat
open Go Go.RowKit K SH GC JR OS
open DK hiding By
theorem ret3c {P : Program} {R : Value → World → Prop} {r : Fr} {w : World} {t T u s : Nat} {p : Addr} {v v' v'' : Value} (ht : r t = .pointer (some p)) (hr : Reads P w T p v) (hu : r u = v') (hs : r s = v'') (h : R (.tuple #[v, v', v'']) w) : bodyQ P [.cell t T, .tmp u, .tmp s] R .ret r w :=
 ⟨[v, v', v''], ⟨⟨p, ht, hr⟩, hu, hs, trivial⟩, h⟩
section
variable {m : Mem} {wI : World}
def RapOut (m' : Mem) (v : Value) (E : List (By × DV)) (N : List (By × Value)) (A : List AcT) (n : Nat) : Prop :=
 ∃ kv vv E' nv N' a, v = .tuple #[.agg #[kv, vv], nv, .int .i64 (a : Nat)] ∧ KyM m' kv vv E' ∧ PcsM m' nv N' ∧ applyR (kvs E) (N.map (·.1)) (A.map (·.1)) n = (kvs E', N'.map (·.1), a) ∧ E'.length ≤ E.length + A.length ∧ N'.length ≤ N.length + 1 ∧ (∀ y ∈ N', y.1.length ≤ 1048576)
theorem appR_ok {R : List By} {x : By} {n : Nat} (h : appR R x n = 0) : x.length ≤ 1048576 := by
 unfold appR at h
 split at h
 ·cases h
 ·rename_i hc; exact (checkE_len hc).2
theorem resR_ok {R : List By} {n : Nat} (h : resR R n = 0) : ∀ x ∈ R, x.length ≤ 1048576 := fun x hx => by
 unfold resR at h
 split at h
 ·cases h
 ·rename_i hc; exact (checkE_len fun h => hc ⟨x, hx, h⟩).2
theorem c_rapply {kv vv nv lv : Value} {E : List (By × DV)} {N : List (By × Value)} {A : List AcT} {n : Nat} (him : Im m wI) (hE : KyM m kv vv E) (hr : Risen (kvs E)) (hN : PcsM m nv N) (hNl : ∀ y ∈ N, y.1.length ≤ 1048576) (hNn : N.length ≤ 100000) (hA : AcsM m lv A) (hAl : A.length ≤ 100000) (hEl : E.length ≤ 100000) (hb : bulkK (kvs E) + bulkA (A.map (·.1)) ≤ 1000000000) (hn : n ≤ 1000000) (hn2 : 2 ≤ n) :
  Ret Tryz.prog 20 #[.agg #[kv, vv], nv, lv, .int .i64 n] wI fun v w' => Out m wI w' fun m' => RapOut m' v E N A n := by
 have st := St.start him
 have q1 := SlM.one1 hE.1
 have q2 := SlM.one1 hE.2.1
 obtain ⟨la, lc, rfl⟩ := hA.1.sl
 have hmm0 : ∀ k o, m k = some o → m k = some o := fun _ _ h => h
 refine ret_of Tryz.call20 Tryz.func20 rfl Tryz.ntmps20 Tryz.results20 rfl ?_
 refine wc_seq ?_
 refine wc_region ?_
 refine wl_box (v := .agg #[kv, vv]) rfl st rfl ?_
 intro b4 w st
 refine wl_alloc TF.z43 st rfl ?_
 intro b8 w st
 refine wl_val (v_assign' (by conv => (lhs; whnf))) rfl ?_
 refine wl_val (v_assign' (by conv => (lhs; whnf))) rfl ?_
 refine wl_nil ?_
 refine then_go ?_
 refine wc_seq ?_
 refine wc_region ?_
 refine wl_val (v_move' (by conv => (lhs; whnf))) rfl ?_
 refine wl_call rfl (c_rchk st.im hA (by omega)) rfl ?_
 rintro v18 w ⟨t18, rfl⟩
 have st := st.pure t18
 refine wl_val (v_assign' (by conv => (lhs; whnf))) rfl ?_
 refine wl_nil ?_
 refine then_go ?_
 refine wc_seq ?_
 refine wc_seq ?_
 refine wc_region ?_
 refine wl_val (v_move' (by conv => (lhs; whnf))) rfl ?_
 refine wl_val (v_neq rfl rfl) rfl ?_
 refine wl_val (v_move' (by conv => (lhs; whnf))) rfl ?_
 refine wl_valg rfl rfl (fun e => (v_move' (by conv => (lhs; whnf)))) rfl ?_
 refine wl_valg rfl rfl (fun e => (v_len_s Tryz.underlying22 (by first | rfl | exact gx e rfl))) rfl ?_
 refine wl_valg rfl rfl (fun e => (v_eql (by first | rfl | exact gx e rfl) (by first | rfl | exact gx e rfl))) rfl ?_
 refine wl_val (v_pickO rfl rfl rfl) rfl ?_
 refine wl_nil ?_
 refine then_go ?_
 refine wc_cond rfl (fun h25 => ?_) (fun h25 => ?_)
 ·refine wc_seq ?_
  refine wc_region ?_
  refine wl_val (v_load rfl (st.reads (v := .agg #[kv, vv]) 1 rfl TF.t43 (getV_all rfl))) rfl ?_
  refine wl_val (v_move' (by conv => (lhs; whnf))) rfl ?_
  refine wl_val (v_move' (by conv => (lhs; whnf))) rfl ?_
  refine wl_storeW (cs := #[kv, vv]) 0 st rfl TF.t43 rfl rfl rfl rfl (by intro u hu; simp at hu; rcases hu with rfl | rfl <;> assumption) ?_
  intro w st
  refine wl_val (v_assign' (by conv => (lhs; whnf))) rfl ?_
  refine wl_val (v_assign' (by conv => (lhs; whnf))) rfl ?_
  refine wl_nil ?_
  refine then_go ?_
  refine wc_ret (then_ret ?_)
  have h : chkL (A.map (·.1)) ≠ 0 ∨ A.map (·.1) = [] := by
   rcases (Bool.or_eq_true _ _).mp h25 with h | h
   ·have := of_decide_eq_true h; exact .inl (by omega)
   ·have := of_decide_eq_true h; exact .inr (by rw [List.eq_nil_of_length_eq_zero (l := A) (by omega)]; rfl)
  have hfin : applyR (kvs E) (N.map (·.1)) (A.map (·.1)) n = (kvs E, N.map (·.1), chkL (A.map (·.1))) := by unfold applyR; rw [if_pos h]
  exact ret3c (p := ⟨b8, 0, none⟩) (v := .agg #[kv, vv]) rfl (st.reads (off := 0) 0 rfl TF.t43 (getV_all rfl)) rfl rfl ((st.keepOnly (l := []) (List.nil_sublist _)).out ⟨kv, vv, E, nv, N, _, rfl, hE, hN, hfin, by omega, by omega, hNl⟩)
 ·refine wc_skip ?_
  refine then_go ?_
  refine wc_seq ?_
  have h2 := (Bool.or_eq_false_iff.mp h25)
  have hc0 : chkL (A.map (·.1)) = 0 := by have := of_decide_eq_false h2.1; omega
  have hok : okL (A.map (·.1)) := by
   unfold chkL at hc0
   split at hc0
   ·assumption
   ·cases hc0
  have hA0 : ¬ (chkL (A.map (·.1)) ≠ 0 ∨ A.map (·.1) = []) := by
   rintro (h | h)
   ·exact h hc0
   ·exact of_decide_eq_false h2.2 (by rw [List.map_eq_nil_iff.1 h]; rfl)
  obtain ⟨M1, hM1⟩ : ∃ M1, M1 = doneS (kvs E) (A.map (·.1)) := ⟨_, rfl⟩
  obtain ⟨hb1, hl1⟩ := bulk_done (M := kvs E) (A := A.map (·.1))
  rw [← hM1, length_kvs, List.length_map] at hl1
  rw [← hM1] at hb1
  have hfin := applyR.eq_1 (kvs E) (N.map (·.1)) (A.map (·.1)) n
  rw [if_neg hA0, ← hM1] at hfin
  refine wc_region ?_
  refine wl_val (v_load rfl (st.reads (v := .agg #[kv, vv]) 1 rfl TF.t43 (getV_all rfl))) rfl ?_
  refine wl_val (v_move' (by conv => (lhs; whnf))) rfl ?_
  refine wl_call rfl (c_rdone st.im hE hr hA (fun a ha => hok.2.1 _ (List.mem_map.2 ⟨a, ha, rfl⟩)) (by omega)) rfl ?_
  rintro v31 w ⟨t31, m1, hg1, hi1, kv2, vv2, E2, rfl, hE2, hK2, hl2⟩
  have st := st.grown hg1 t31 hi1
  rw [← hM1] at hK2
  have p1 := SlM.one1 hE2.1
  have p2 := SlM.one1 hE2.2.1
  refine wl_alloc TF.z43 st rfl ?_
  intro b12 w st
  refine wl_storeW (cs := #[kv2, vv2]) 0 st rfl TF.t43 rfl rfl rfl rfl (by intro u hu; simp at hu; rcases hu with rfl | rfl <;> assumption) ?_
  intro w st
  have st : St m m1 [] wI w [K.blk b12 #[kv2, vv2] 43, K.blk b8 #[.slice none 0 0, .slice none 0 0] 43, K.blk b4 #[kv, vv] 43] := st
  refine wl_nil ?_
  refine then_go ?_
  refine wc_seq ?_
  refine wc_region ?_
  refine wl_val (v_move' (by conv => (lhs; whnf))) rfl ?_
  refine wl_val (v_move' (by conv => (lhs; whnf))) rfl ?_
  refine wl_call rfl (c_rbatch st.im (hA.mono hg1.le) (by omega) (by omega)) rfl ?_
  rintro v35 w ⟨t35, m2, hg2, hi2, hx⟩
  have st := st.grown hg2 t35 hi2
  have hmm2 : ∀ k o, m k = some o → m2 k = some o := fun k o h => hg2.le k o (hg1.le k o h)
  refine wl_val (v_move' (by conv => (lhs; whnf))) rfl ?_
  refine wl_call rfl (c_rappend st.im (PcsM.mono hN hmm2) hNl hNn hx hn hn2) rfl ?_
  rintro v37 w ⟨t37, m3, hg3, hi3, mv, rfl, hP3, _, _⟩
  have st := st.grown hg3 t37 hi3
  have hmm3 : ∀ k o, m k = some o → m3 k = some o := fun k o h => hg3.le k o (hmm2 k o h)
  have hE3 : KyM m3 kv2 vv2 E2 := hE2.mono fun k o h => hg3.le k o (hg2.le k o h)
  have hNm : PcsM m3 nv N := PcsM.mono hN hmm3
  refine wl_val (v_move' (by conv => (lhs; whnf))) rfl ?_
  refine wl_val (v_extract rfl rfl) rfl ?_
  refine wl_val (v_extract rfl rfl) rfl ?_
  refine wl_val (v_assign' (by conv => (lhs; whnf))) rfl ?_
  refine wl_val (v_assign' (by conv => (lhs; whnf))) rfl ?_
  refine wl_nil ?_
  refine then_go ?_
  refine wc_seq ?_
  refine wc_seq ?_
  refine wc_region ?_
  refine wl_val (v_move' (by conv => (lhs; whnf))) rfl ?_
  refine wl_val (v_eql rfl rfl) rfl ?_
  refine wl_nil ?_
  refine then_go ?_
  refine wc_cond rfl (fun h41 => ?_) (fun h41 => ?_)
  ·refine wc_seq ?_
   refine wc_region ?_
   refine wl_val (v_load rfl (st.reads (v := .agg #[kv2, vv2]) 0 rfl TF.t43 (getV_all rfl))) rfl ?_
   refine wl_val (v_move' (by conv => (lhs; whnf))) rfl ?_
   refine wl_storeW (cs := #[kv2, vv2]) 1 st rfl TF.t43 rfl rfl rfl rfl (by intro u hu; simp at hu; rcases hu with rfl | rfl <;> assumption) ?_
   intro w st
   refine wl_val (v_assign' (by conv => (lhs; whnf))) rfl ?_
   refine wl_val (v_assign' (by conv => (lhs; whnf))) rfl ?_
   refine wl_nil ?_
   refine then_go ?_
   refine wc_ret (then_ret ?_)
   have h0 : appR (N.map (·.1)) (batB (A.map (·.1))) n = 0 := by
    have h : ((appR (N.map (·.1)) (batB (A.map (·.1))) n : Nat) : Int) = 0 := of_decide_eq_true h41
    omega
   rw [if_pos h0] at hP3 hfin
   refine ret3c (p := ⟨b8, 0, none⟩) (v := .agg #[kv2, vv2]) rfl (st.reads (off := 0) 1 rfl TF.t43 (getV_all rfl)) rfl rfl ((st.keepOnly (l := []) (List.nil_sublist _)).out ⟨kv2, vv2, E2, mv, _, 0, rfl, hE3, hP3, by rw [hfin, hK2, List.map_append]; rfl, by omega, by simp, fun y hy => ?_⟩)
   rcases List.mem_append.1 hy with hy | hy
   ·exact hNl y hy
   ·rw [List.mem_singleton.1 hy]; exact appR_ok h0
  ·refine wc_skip ?_
   refine then_go ?_
   refine wc_seq ?_
   have hn0 : ¬ appR (N.map (·.1)) (batB (A.map (·.1))) n = 0 := by
    have h : ¬ ((appR (N.map (·.1)) (batB (A.map (·.1))) n : Nat) : Int) = 0 := of_decide_eq_false h41
    omega
   rw [if_neg hn0] at hfin
   have bad : overN M1 n = 13 → applyR (kvs E) (N.map (·.1)) (A.map (·.1)) n = (kvs E, N.map (·.1), 13) := fun h => by
    unfold overN at h
    rw [hfin]
    split at h
    ·rename_i hc; rw [if_pos hc]
    ·cases h
   refine wc_region ?_
   refine wl_val (v_load rfl (st.reads (v := .agg #[kv2, vv2]) 0 rfl TF.t43 (getV_all rfl))) rfl ?_
   refine wl_call rfl (c_rwhole st.im hE3 (by omega)) rfl ?_
   rintro v45 w ⟨t45, m4, hg4, hi4, W, hW, hWM⟩
   have st := st.grown hg4 t45 hi4
   rw [hK2] at hWM
   have hWl : W.length = M1.length := by have := congrArg List.length hWM; simpa [actsOf] using this
   have hmm4 : ∀ k o, m k = some o → m4 k = some o := fun k o h => hg4.le k o (hmm3 k o h)
   obtain ⟨wa, wc, rfl⟩ := hW.1.sl
   have st : St m m4 [] wI w [K.blk b12 #[kv2, vv2] 43, K.blk b8 #[.slice none 0 0, .slice none 0 0] 43, K.blk b4 #[kv, vv] 43] := st
   refine wl_val (v_assign' (by conv => (lhs; whnf))) rfl ?_
   refine wl_nil ?_
   refine then_go ?_
   refine wc_seq ?_
   refine wc_region ?_
   refine wl_val (v_assign' (by conv => (lhs; whnf))) rfl ?_
   refine wl_nil ?_
   refine then_go ?_
   refine wc_seq ?_
   refine wc_seq ?_
   refine wc_region ?_
   refine wl_val (v_move' (by conv => (lhs; whnf))) rfl ?_
   refine wl_val (v_len_s Tryz.underlying22 rfl) rfl ?_
   refine wl_val (v_gtr rfl rfl) rfl ?_
   refine wl_nil ?_
   refine then_go ?_
   refine wc_mid (fun r w' => ∃ (m5 : Mem) (xv : Value) (X : List (By × Value)), r 1 = nv ∧ r 3 = .int .i64 n ∧ r 4 = .pointer (some ⟨b4, 0, none⟩) ∧ r 8 = .pointer (some ⟨b8, 0, none⟩) ∧ r 12 = .pointer (some ⟨b12, 0, none⟩) ∧ r 15 = .slice wa W.length wc ∧ r 16 = xv ∧ (∀ k o, m4 k = some o → m5 k = some o) ∧ PcsM m5 xv X ∧ X.map (·.1) = anewOf M1 ∧ St m m5 [] wI w' [K.blk b12 #[kv2, vv2] 43, K.blk b8 #[.slice none 0 0, .slice none 0 0] 43, K.blk b4 #[kv, vv] 43]) ?_ ?_
   ·refine wc_cond rfl (fun h48 => ?_) (fun h48 => ?_)
    ·refine wc_region ?_
     refine wl_val (v_move' (by conv => (lhs; whnf))) rfl ?_
     refine wl_val (v_move' (by conv => (lhs; whnf))) rfl ?_
     refine wl_call rfl (c_rbatch st.im hW (by omega) (by rw [hWM, bulk_acts]; omega)) rfl ?_
     rintro v51 w ⟨t51, m5, hg5, hi5, hx5⟩
     have st := st.grown hg5 t51 hi5
     rw [hWM] at hx5
     have st := nilRow st 23 1
     refine wl_svOne (v := v51) Tryz.underlying41 TF.t23 TF.z23 (SlM.one1 hx5) rfl st rfl ?_
     intro b52 w st
     refine wl_lrApp (x := batB (actsOf M1)) (N := []) 0 st rfl (SlM.one1 hx5) rfl rfl (by simp) rfl ?_
     intro v53 w st
     refine wl_val (v_assign' (by conv => (lhs; whnf))) rfl ?_
     refine wl_nil ?_
     refine then_go ?_
     have hM0 : M1 ≠ [] := fun e => by have := of_decide_eq_true h48; rw [e] at hWl; simp [hWl] at this
     have st : St m m5 [] wI w [lrE v53 [(batB (actsOf M1), v51)], K.blk b12 #[kv2, vv2] 43, K.blk b8 #[.slice none 0 0, .slice none 0 0] 43, K.blk b4 #[kv, vv] 43] := st
     obtain ⟨m6, hg6, hm6, st2⟩ := st.freezeR (i := 0) rfl (by simp)
     have hrow := row_SlM (m := m6) (st.at (i := 0) rfl) hm6
     exact ⟨m6, v53, _, rfl, rfl, rfl, rfl, rfl, rfl, rfl, fun k o h => hg6.le k o (hg5.le k o h), ⟨hrow, fun y hy => by rw [List.mem_singleton.1 hy]; exact hx5.mono hg6.le⟩, by unfold anewOf; rw [if_neg hM0]; rfl, st2⟩
    ·refine wc_skip ?_
     refine then_go ?_
     have hM0 : M1 = [] := List.eq_nil_of_length_eq_zero (by have := of_decide_eq_false h48; omega)
     exact ⟨m4, _, [], rfl, rfl, rfl, rfl, rfl, rfl, rfl, fun _ _ h => h, ⟨SlM.nil, by simp⟩, by unfold anewOf; rw [if_pos hM0]; rfl, st⟩
   ·clear st
    rintro r w ⟨m5, xv, X, g1, g3, g4, g8, g12, g15, g16, hmm5, hX, hXX, st⟩
    refine wc_o 1 g1 (wc_o 3 g3 (wc_o 4 g4 (wc_o 8 g8 (wc_o 12 g12 (wc_o 15 g15 (wc_o 16 g16 ?_))))))
    have hW := hW.mono hmm5
    have hXl : X.length ≤ 1 := by
     have := congrArg List.length hXX
     rw [List.length_map] at this
     rw [this]
     unfold anewOf
     split <;> simp
    have hmm5' : ∀ k o, m k = some o → m5 k = some o := fun k o h => hmm5 k o (hmm4 k o h)
    have hE5 : KyM m5 kv2 vv2 E2 := hE3.mono fun k o h => hmm5 k o (hg4.le k o h)
    refine wc_seq ?_
    refine wc_seq ?_
    refine wc_region ?_
    refine wl_val (v_move' (by conv => (lhs; whnf))) rfl ?_
    refine wl_call rfl (c_rchk st.im hW (by omega)) rfl ?_
    rintro v55 w ⟨t55, rfl⟩
    have st := st.pure t55
    rw [hWM]
    refine wl_val (v_neq rfl rfl) rfl ?_
    refine wl_nil ?_
    refine then_go ?_
    refine wc_cond rfl (fun h56 => ?_) (fun h56 => ?_)
    ·refine wc_seq ?_
     refine wc_region ?_
     refine wl_val (v_load rfl (st.reads (v := .agg #[kv, vv]) 2 rfl TF.t43 (getV_all rfl))) rfl ?_
     refine wl_val (v_move' (by conv => (lhs; whnf))) rfl ?_
     refine wl_storeW (cs := #[kv, vv]) 1 st rfl TF.t43 rfl rfl rfl rfl (by intro u hu; simp at hu; rcases hu with rfl | rfl <;> assumption) ?_
     intro w st
     refine wl_val (v_assign' (by conv => (lhs; whnf))) rfl ?_
     refine wl_val (v_assign' (by conv => (lhs; whnf))) rfl ?_
     refine wl_nil ?_
     refine then_go ?_
     refine wc_ret (then_ret ?_)
     have hz := of_decide_eq_true h56
     have hv : overN M1 n = 13 := by unfold overN; rw [if_pos (.inl (by omega))]
     exact ret3c (p := ⟨b8, 0, none⟩) (v := .agg #[kv, vv]) rfl (st.reads (off := 0) 1 rfl TF.t43 (getV_all rfl)) rfl rfl ((st.keepOnly (l := []) (List.nil_sublist _)).out ⟨kv, vv, E, nv, N, 13, rfl, hE.mono hmm5', PcsM.mono hN hmm5', bad hv, by omega, by omega, hNl⟩)
    ·refine wc_skip ?_
     refine then_go ?_
     refine wc_seq ?_
     refine wc_region ?_
     refine wl_val (v_move' (by conv => (lhs; whnf))) rfl ?_
     refine wl_val (v_move' (by conv => (lhs; whnf))) rfl ?_
     refine wl_call rfl (c_rrestart (N := []) st.im ⟨SlM.nil, by simp⟩ hX (by omega) hn hn2) rfl ?_
     rintro v62 w ⟨t62, h62⟩
     have st := st.pure t62
     obtain ⟨yv, hyv⟩ : ∃ y, (if resR (X.map (·.1)) n = 0 then xv else .slice none 0 0) = y := ⟨_, rfl⟩
     have h62 : v62 = .tuple #[yv, .int .i64 (resR (X.map (·.1)) n : Nat)] := by rw [← hyv]; exact h62
     subst h62
     refine wl_val (v_move' (by conv => (lhs; whnf))) rfl ?_
     refine wl_val (v_extract rfl rfl) rfl ?_
     refine wl_val (v_extract rfl rfl) rfl ?_
     refine wl_val (v_assign' (by conv => (lhs; whnf))) rfl ?_
     refine wl_val (v_assign' (by conv => (lhs; whnf))) rfl ?_
     refine wl_nil ?_
     refine then_go ?_
     refine wc_seq ?_
     refine wc_seq ?_
     refine wc_region ?_
     refine wl_val (v_move' (by conv => (lhs; whnf))) rfl ?_
     refine wl_val (v_neq rfl rfl) rfl ?_
     refine wl_nil ?_
     refine then_go ?_
     refine wc_cond rfl (fun h66 => ?_) (fun h66 => ?_)
     ·refine wc_seq ?_
      refine wc_region ?_
      refine wl_val (v_load rfl (st.reads (v := .agg #[kv, vv]) 2 rfl TF.t43 (getV_all rfl))) rfl ?_
      refine wl_val (v_move' (by conv => (lhs; whnf))) rfl ?_
      refine wl_storeW (cs := #[kv, vv]) 1 st rfl TF.t43 rfl rfl rfl rfl (by intro u hu; simp at hu; rcases hu with rfl | rfl <;> assumption) ?_
      intro w st
      refine wl_val (v_assign' (by conv => (lhs; whnf))) rfl ?_
      refine wl_val (v_assign' (by conv => (lhs; whnf))) rfl ?_
      refine wl_nil ?_
      refine then_go ?_
      refine wc_ret (then_ret ?_)
      have hz : ¬ ((resR (X.map (·.1)) n : Nat) : Int) = 0 := of_decide_eq_true h66
      have hv : overN M1 n = 13 := by unfold overN; rw [← hXX, if_pos (.inr (by omega))]
      exact ret3c (p := ⟨b8, 0, none⟩) (v := .agg #[kv, vv]) rfl (st.reads (off := 0) 1 rfl TF.t43 (getV_all rfl)) rfl rfl ((st.keepOnly (l := []) (List.nil_sublist _)).out ⟨kv, vv, E, nv, N, 13, rfl, hE.mono hmm5', PcsM.mono hN hmm5', bad hv, by omega, by omega, hNl⟩)
     ·refine wc_skip ?_
      refine then_go ?_
      refine wc_seq ?_
      refine wc_region ?_
      refine wl_val (v_load rfl (st.reads (v := .agg #[kv2, vv2]) 0 rfl TF.t43 (getV_all rfl))) rfl ?_
      refine wl_val (v_move' (by conv => (lhs; whnf))) rfl ?_
      refine wl_storeW (cs := #[kv2, vv2]) 1 st rfl TF.t43 rfl rfl rfl rfl (by intro u hu; simp at hu; rcases hu with rfl | rfl <;> assumption) ?_
      intro w st
      refine wl_val (v_assign' (by conv => (lhs; whnf))) rfl ?_
      refine wl_val (v_assign' (by conv => (lhs; whnf))) rfl ?_
      refine wl_nil ?_
      refine then_go ?_
      refine wc_ret ?_
      have h1 := of_decide_eq_false h56
      have h2 : ¬ ¬ ((resR (X.map (·.1)) n : Nat) : Int) = 0 := of_decide_eq_false h66
      have hz : resR (X.map (·.1)) n = 0 := by omega
      have hok2 : ¬ (chkL (actsOf M1) ≠ 0 ∨ resR (anewOf M1) n ≠ 0) := by
       rintro (h | h)
       ·omega
       ·rw [hXX] at hz; exact h hz
      rw [if_neg hok2] at hfin
      refine ret3c (p := ⟨b8, 0, none⟩) (v := .agg #[kv2, vv2]) rfl (st.reads (off := 0) 1 rfl TF.t43 (getV_all rfl)) rfl rfl ((st.keepOnly (l := []) (List.nil_sublist _)).out ⟨kv2, vv2, E2, yv, X, 0, rfl, hE5, by rw [← hyv, if_pos hz]; exact hX, by rw [hfin, hK2, hXX], by omega, by omega, fun y hy => resR_ok hz y.1 (List.mem_map.2 ⟨y, hy, rfl⟩)⟩)
end
end Go.Proofs.YtladpaehbolghaaGreat

namespace Go.Proofs.YtladpaehbolghaaGreat
open Go Go.RowKit K SH GC JR OS
open DK hiding By
section
variable {m : Mem} {wI : World}
theorem c_sameacts {av bv : Value} {A B : List AcT} (him : Im m wI) (hA : AcsM m av A) (hB : AcsM m bv B) (h : A.map (·.1) = B.map (·.1)) (hl : A.length ≤ 1000000000) :
  Ret Tryz.prog 14 #[av, bv] wI fun v w' => Tch wI w' [] [] ∧ v = .bool true := by
 have st := St.start him
 have hlen : A.length = B.length := by have := congrArg List.length h; simpa using this
 obtain ⟨la, lc, rfl⟩ := hA.1.sl
 obtain ⟨ka, kc, rfl⟩ := hB.1.sl
 refine ret_of Tryz.call14 Tryz.func14 rfl Tryz.ntmps14 Tryz.results14 rfl ?_
 refine wc_seq ?_
 refine wc_region ?_
 refine wl_val (v_assign' (by conv => (lhs; whnf))) rfl ?_
 refine wl_nil ?_
 refine then_go ?_
 refine wc_seq ?_
 refine wc_seq ?_
 refine wc_region ?_
 refine wl_val (v_move' (by conv => (lhs; whnf))) rfl ?_
 refine wl_val (v_len_s Tryz.underlying22 rfl) rfl ?_
 refine wl_val (v_move' (by conv => (lhs; whnf))) rfl ?_
 refine wl_val (v_len_s Tryz.underlying22 rfl) rfl ?_
 refine wl_val (v_neqF (a := (A.length : Int)) (b := (B.length : Int)) (by omega) rfl rfl) rfl ?_
 refine wl_nil ?_
 refine then_go ?_
 refine wc_false rfl ?_
 refine wc_skip ?_
 refine then_go ?_
 refine wc_seq ?_
 refine wc_seq ?_
 refine wc_region ?_
 refine wl_val (v_assign' (by conv => (lhs; whnf))) rfl ?_
 refine wl_nil ?_
 refine then_go ?_
 refine wc_block ?_
 refine wc_loop (S := Nat) (fun q r w' => ∃ (i : Nat), q + i = A.length ∧ r 0 = .slice la A.length lc ∧ r 1 = .slice ka B.length kc ∧ r 5 = .int .i64 i ∧ St m m [] wI w' []) id A.length ⟨0, by omega, rfl, rfl, rfl, st⟩ ?_
 clear st
 rintro q r w2 ⟨i, hqi, g0, g1, g5, st⟩
 refine wc_o 0 g0 (wc_o 1 g1 (wc_o 5 g5 ?_))
 refine wc_seq ?_
 refine wc_seq ?_
 refine wc_region ?_
 refine wl_val (v_move' (by conv => (lhs; whnf))) rfl ?_
 refine wl_val (v_move' (by conv => (lhs; whnf))) rfl ?_
 refine wl_val (v_len_s Tryz.underlying22 rfl) rfl ?_
 refine wl_val (v_lss rfl rfl) rfl ?_
 refine wl_nil ?_
 refine then_go ?_
 refine wc_if rfl (fun h14 => ?_) (fun h14 => ?_)
 ·refine wc_skip ?_
  refine then_go ?_
  refine wc_seq ?_
  refine wc_block ?_
  refine wc_seq ?_
  have hi : i < A.length := by omega
  have hj : i < B.length := by omega
  obtain ⟨lb, lo, da, dc, hla, hd, _, hrk, hrs, hrd⟩ := hA.at hi
  obtain ⟨ub, uo, ea, ec, hua, he, _, hsk, hss, hsd⟩ := hB.at hj
  subst hla hua
  have hokA := (hA.2 _ (List.getElem_mem hi)).data
  have hokB := (hB.2 _ (List.getElem_mem hj)).data
  have heq : A[i].1 = B[i].1 := by
   have h1 : (A.map (·.1))[i]'(by simpa using hi) = (B.map (·.1))[i]'(by simpa using hj) := by simp [h]
   simpa using h1
  refine wc_draw TF.mixed ?_
  have st := st.pure (touch_drew _)
  refine fl_val 0 rfl (fun _ => (v_move' (by conv => (lhs; whnf)))) rfl (by kernel_rfl) ?_
  refine fl_val 1 rfl (fun _ => (v_move' (by conv => (lhs; whnf)))) rfl (by kernel_rfl) ?_
  refine fl_val 2 rfl (fun _ => (v_ias i Tryz.underlying22 TF.t57 rfl rfl (by first | rfl | omega) (by first | omega | (dsimp only at *; omega)))) rfl (by kernel_rfl) ?_
  refine fl_val 3 rfl (fun _ => (v_fa TF.f57_0 rfl)) rfl (by kernel_rfl) ?_
  refine fl_ld 4 rfl (v_load rfl (hrk st.im)) (by kernel_rfl) ?_
  refine fl_val 5 rfl (fun _ => (v_move' (by conv => (lhs; whnf)))) rfl (by kernel_rfl) ?_
  refine fl_val 6 rfl (fun _ => (v_move' (by conv => (lhs; whnf)))) rfl (by kernel_rfl) ?_
  refine fl_val 7 rfl (fun _ => (v_ias i Tryz.underlying22 TF.t57 rfl rfl (by first | rfl | omega) (by first | omega | (dsimp only at *; omega)))) rfl (by kernel_rfl) ?_
  refine fl_val 8 rfl (fun _ => (v_fa TF.f57_0 rfl)) rfl (by kernel_rfl) ?_
  refine fl_ld 9 rfl (v_load rfl (hsk st.im)) (by kernel_rfl) ?_
  refine fl_val 10 rfl (fun _ => (wl_valD (v_nesJ rfl rfl) (q := false) (by rw [heq]; simp))) rfl (by kernel_rfl) ?_
  refine fl_val 11 rfl (fun _ => (v_move' (by conv => (lhs; whnf)))) rfl (by kernel_rfl) ?_
  refine fl_on 12 rfl rfl rfl rfl (fun _ => (v_move' (by conv => (lhs; whnf)))) rfl (by kernel_rfl) ?_
  refine fl_on 13 rfl rfl rfl rfl (fun _ => (v_move' (by conv => (lhs; whnf)))) rfl (by kernel_rfl) ?_
  refine fl_on 14 rfl rfl rfl rfl (fun _ => (v_ias i Tryz.underlying22 TF.t57 rfl rfl (by first | rfl | omega) (by first | omega | (dsimp only at *; omega)))) rfl (by kernel_rfl) ?_
  refine fl_on 15 rfl rfl rfl rfl (fun _ => (v_fa TF.f57_1 rfl)) rfl (by kernel_rfl) ?_
  refine fl_ond 16 rfl rfl rfl rfl (v_load rfl (hrs st.im)) rfl (by kernel_rfl) ?_
  refine fl_on 17 rfl rfl rfl rfl (fun _ => (v_move' (by conv => (lhs; whnf)))) rfl (by kernel_rfl) ?_
  refine fl_on 18 rfl rfl rfl rfl (fun _ => (v_move' (by conv => (lhs; whnf)))) rfl (by kernel_rfl) ?_
  refine fl_on 19 rfl rfl rfl rfl (fun _ => (v_ias i Tryz.underlying22 TF.t57 rfl rfl (by first | rfl | omega) (by first | omega | (dsimp only at *; omega)))) rfl (by kernel_rfl) ?_
  refine fl_on 20 rfl rfl rfl rfl (fun _ => (v_fa TF.f57_1 rfl)) rfl (by kernel_rfl) ?_
  refine fl_ond 21 rfl rfl rfl rfl (v_load rfl (hss st.im)) rfl (by kernel_rfl) ?_
  refine fl_on 22 rfl rfl rfl rfl (fun _ => (wl_valD (v_neb Tryz.underlying4 rfl rfl) (q := false) (by rw [heq]; simp))) rfl (by kernel_rfl) ?_
  refine fl_val 23 rfl (fun _ => (v_pick rfl)) rfl (by kernel_rfl) ?_
  refine fl_val 24 rfl (fun _ => (v_move' (by conv => (lhs; whnf)))) rfl (by kernel_rfl) ?_
  refine fl_on 25 rfl rfl rfl rfl (fun _ => (v_move' (by conv => (lhs; whnf)))) rfl (by kernel_rfl) ?_
  refine fl_on 26 rfl rfl rfl rfl (fun _ => (v_move' (by conv => (lhs; whnf)))) rfl (by kernel_rfl) ?_
  refine fl_on 27 rfl rfl rfl rfl (fun _ => (v_ias i Tryz.underlying22 TF.t57 rfl rfl (by first | rfl | omega) (by first | omega | (dsimp only at *; omega)))) rfl (by kernel_rfl) ?_
  refine fl_on 28 rfl rfl rfl rfl (fun _ => (v_fa TF.f57_2 rfl)) rfl (by kernel_rfl) ?_
  refine fl_ond 29 rfl rfl rfl rfl (v_load rfl (hrd st.im)) rfl (by kernel_rfl) ?_
  refine fl_on 30 rfl rfl rfl rfl (fun _ => (v_move' (by conv => (lhs; whnf)))) rfl (by kernel_rfl) ?_
  refine fl_on 31 rfl rfl rfl rfl (fun _ => (v_move' (by conv => (lhs; whnf)))) rfl (by kernel_rfl) ?_
  refine fl_on 32 rfl rfl rfl rfl (fun _ => (v_ias i Tryz.underlying22 TF.t57 rfl rfl (by first | rfl | omega) (by first | omega | (dsimp only at *; omega)))) rfl (by kernel_rfl) ?_
  refine fl_on 33 rfl rfl rfl rfl (fun _ => (v_fa TF.f57_2 rfl)) rfl (by kernel_rfl) ?_
  refine fl_ond 34 rfl rfl rfl rfl (v_load rfl (hsd st.im)) rfl (by kernel_rfl) ?_
  refine fl_eff1 35 [33, 32, 31, 30, 28, 27, 26, 25, 23, 22, 20, 19, 18, 17, 15, 14, 13, 12, 11, 10, 8, 7, 6, 5, 3, 2, 1, 0] [21, 16, 9, 4] (by kernel_rfl) ⟨obl_on rfl rfl rfl rfl rfl (v_load rfl (hsd st.im)), obl_on rfl rfl rfl rfl rfl (v_load rfl (hrd st.im)), obl_on rfl rfl rfl rfl rfl (v_load rfl (hss st.im)), obl_on rfl rfl rfl rfl rfl (v_load rfl (hrs st.im)), obl_ld rfl rfl rfl (v_load rfl (hsk st.im)), obl_ld rfl rfl rfl (v_load rfl (hrk st.im)), trivial⟩ rfl ?_
  refine wl_on rfl rfl ?_
  refine wl_call rfl (c_same17 st.im hokA hokB) rfl ?_
  rintro v52 w ⟨t52, rfl⟩
  have st := st.pure t52
  rw [decide_eq_true (by rw [heq])]
  refine wl_nil ⟨rfl, ?_⟩
  refine fl_on 36 rfl rfl rfl rfl (fun _ => (v_not rfl)) rfl (by kernel_rfl) ?_
  refine fl_val 37 rfl (fun _ => (v_pick rfl)) rfl (by kernel_rfl) ?_
  refine fl_nil (by kernel_rfl) ⟨obl_on rfl rfl rfl rfl rfl (v_load rfl (hss st.im)), obl_on rfl rfl rfl rfl rfl (v_load rfl (hrs st.im)), obl_ld rfl rfl rfl (v_load rfl (hsk st.im)), obl_ld rfl rfl rfl (v_load rfl (hrk st.im)), trivial⟩ ?_
  refine then_go ?_
  refine wc_false rfl ?_
  refine wc_skip ?_
  refine block_go (then_go ?_)
  refine wc_region ?_
  refine wl_val (v_move' (by conv => (lhs; whnf))) rfl ?_
  refine wl_val (v_add' (c := ((i + 1 : Nat) : Int)) rfl rfl (by omega) (by omega) (by omega)) rfl ?_
  refine wl_val (v_assign' (by conv => (lhs; whnf))) rfl ?_
  refine wl_nil ?_
  refine then_go ?_
  exact ⟨q - 1, by simp; omega, i + 1, by omega, rfl, rfl, rfl, st⟩
 ·refine wc_exit (then_exit (then_exit (block_hit ?_)))
  refine then_go ?_
  refine wc_seq ?_
  refine wc_region ?_
  refine wl_val (v_assign' (by conv => (lhs; whnf))) rfl ?_
  refine wl_nil ?_
  refine then_go ?_
  refine wc_ret ?_
  exact ret1 rfl ⟨st.touch, rfl⟩
theorem c_samekeys {kv vv ku vu : Value} {E G : List (By × DV)} (him : Im m wI) (hE : KyM m kv vv E) (hG : KyM m ku vu G) (h : kvs E = kvs G) (hl : E.length ≤ 1000000) :
  Ret Tryz.prog 58 #[.agg #[kv, vv], .agg #[ku, vu]] wI fun v w' => Out m wI w' fun _ => v = .bool true := by
 have st := St.start him
 have q1 := SlM.one1 hE.1
 have q2 := SlM.one1 hE.2.1
 have q3 := SlM.one1 hG.1
 have q4 := SlM.one1 hG.2.1
 have hGl : G.length ≤ 1000000 := by have := congrArg List.length h; rw [length_kvs, length_kvs] at this; omega
 refine ret_of Tryz.call58 Tryz.func58 rfl Tryz.ntmps58 Tryz.results58 rfl ?_
 refine wc_seq ?_
 refine wc_region ?_
 refine wl_box (v := .agg #[kv, vv]) rfl st rfl ?_
 intro b2 w st
 refine wl_box (v := .agg #[ku, vu]) rfl st rfl ?_
 intro b3 w st
 refine wl_val (v_assign' (by conv => (lhs; whnf))) rfl ?_
 refine wl_nil ?_
 refine then_go ?_
 refine wc_seq ?_
 refine wc_draw TF.mixed ?_
 have st := st.pure (touch_drew _)
 refine fl_ld 0 rfl (v_load rfl (st.reads (v := .agg #[kv, vv]) 1 rfl TF.t43 (getV_all rfl))) (by kernel_rfl) ?_
 refine fl_ld 2 rfl (v_load rfl (st.reads (v := .agg #[ku, vu]) 0 rfl TF.t43 (getV_all rfl))) (by kernel_rfl) ?_
 refine fl_eff1 1 [] [2] (by kernel_rfl) ⟨obl_ld rfl rfl rfl (v_load rfl (st.reads (v := .agg #[ku, vu]) 0 rfl TF.t43 (getV_all rfl))), obl_ld rfl rfl rfl (v_load rfl (st.reads (v := .agg #[kv, vv]) 1 rfl TF.t43 (getV_all rfl))), trivial⟩ rfl ?_
 refine wl_call rfl (c_rwhole st.im hE hl) rfl ?_
 rintro v6 w ⟨t6, m1, hg1, hi1, A, hA, hAE⟩
 have st := st.grown hg1 t6 hi1
 refine wl_nil ⟨rfl, ?_⟩
 refine fl_eff1 3 [] [] (by kernel_rfl) ⟨obl_ld rfl rfl rfl (v_load rfl (st.reads (v := .agg #[ku, vu]) 0 rfl TF.t43 (getV_all rfl))), trivial⟩ rfl ?_
 refine wl_call rfl (c_rwhole st.im (hG.mono hg1.le) hGl) rfl ?_
 rintro v8 w ⟨t8, m2, hg2, hi2, B, hB, hBG⟩
 have st := st.grown hg2 t8 hi2
 refine wl_nil ⟨rfl, ?_⟩
 refine fl_eff1 4 [] [] (by kernel_rfl) trivial rfl ?_
 have hAl : A.length = E.length := by have := congrArg List.length hAE; simpa [actsOf] using this
 refine wl_call rfl (c_sameacts st.im (hA.mono hg2.le) hB (by rw [hAE, hBG, h]) (by omega)) rfl ?_
 rintro v9 w ⟨t9, rfl⟩
 have st := st.pure t9
 refine wl_nil ⟨rfl, ?_⟩
 refine fl_eff1 5 [] [] (by kernel_rfl) trivial rfl ?_
 refine wl_val (v_assign' (by conv => (lhs; whnf))) rfl ?_
 refine wl_nil ⟨rfl, ?_⟩
 refine fl_nil (by kernel_rfl) trivial ?_
 refine then_go ?_
 refine wc_ret ?_
 exact ret1 rfl ((st.keepOnly (l := []) (List.nil_sublist _)).out rfl)
def ShortA (A : List AcT) : Prop := A.length ≤ 1048576 ∧ ∀ a ∈ A, a.1.key.length ≤ 1048576 ∧ a.1.data.length ≤ 1048576
theorem c_light {lv : Value} {A : List AcT} (him : Im m wI) (hA : AcsM m lv A) (hs : ShortA A) :
  Ret Tryz.prog 8 #[lv] wI fun v w' => Tch wI w' [] [] ∧ ∃ c : Bool, v = .bool c ∧ (c = true → A.length ≤ 60 ∧ bulkA (A.map (·.1)) ≤ 20000) := by
 have st := St.start him
 obtain ⟨la, lc, rfl⟩ := hA.1.sl
 refine ret_of Tryz.call8 Tryz.func8 rfl Tryz.ntmps8 Tryz.results8 rfl ?_
 refine wc_seq ?_
 refine wc_region ?_
 refine wl_val (v_assign' (by conv => (lhs; whnf))) rfl ?_
 refine wl_nil ?_
 refine then_go ?_
 refine wc_seq ?_
 refine wc_seq ?_
 refine wc_region ?_
 refine wl_val (v_move' (by conv => (lhs; whnf))) rfl ?_
 refine wl_val (v_len_s Tryz.underlying22 rfl) rfl ?_
 refine wl_val (v_gtr rfl rfl) rfl ?_
 refine wl_nil ?_
 refine then_go ?_
 refine wc_if rfl (fun h7 => ?_) (fun h7 => ?_)
 ·refine wc_seq ?_
  refine wc_region ?_
  refine wl_val (v_assign' (by conv => (lhs; whnf))) rfl ?_
  refine wl_nil ?_
  refine then_go ?_
  refine wc_ret (then_ret ?_)
  exact ret1 rfl ⟨st.touch, false, rfl, fun h => by cases h⟩
 ·refine wc_skip ?_
  refine then_go ?_
  refine wc_seq ?_
  refine wc_region ?_
  refine wl_val (v_assign' (by conv => (lhs; whnf))) rfl ?_
  refine wl_nil ?_
  refine then_go ?_
  refine wc_seq ?_
  refine wc_seq ?_
  refine wc_region ?_
  refine wl_val (v_assign' (by conv => (lhs; whnf))) rfl ?_
  refine wl_nil ?_
  refine then_go ?_
  refine wc_block ?_
  refine wc_loop (S := Nat) (fun q r w' => ∃ (i : Nat), q + i = A.length ∧ r 0 = .slice la A.length lc ∧ r 3 = .int .i64 (bulkA ((A.take i).map (·.1)) : Nat) ∧ r 4 = .int .i64 i ∧ bulkA ((A.take i).map (·.1)) ≤ 3000000 ∧ St m m [] wI w' []) id A.length ⟨0, by omega, rfl, rfl, rfl, by simp [bulkA], st⟩ ?_
  clear st
  rintro q r w2 ⟨i, hqi, g0, g3, g4, hbi, st⟩
  refine wc_o 0 g0 (wc_o 3 g3 (wc_o 4 g4 ?_))
  refine wc_seq ?_
  refine wc_seq ?_
  refine wc_region ?_
  refine wl_val (v_move' (by conv => (lhs; whnf))) rfl ?_
  refine wl_val (v_move' (by conv => (lhs; whnf))) rfl ?_
  refine wl_val (v_len_s Tryz.underlying22 rfl) rfl ?_
  refine wl_val (v_lss rfl rfl) rfl ?_
  refine wl_val (v_move' (by conv => (lhs; whnf))) rfl ?_
  refine wl_valg rfl rfl (fun e => (v_move' (by conv => (lhs; whnf)))) rfl ?_
  refine wl_valg rfl rfl (fun e => (v_leq (by first | rfl | exact gx e rfl) (by first | rfl | exact gx e rfl))) rfl ?_
  refine wl_val (v_pickA rfl rfl rfl) rfl ?_
  refine wl_nil ?_
  refine then_go ?_
  refine wc_cond rfl (fun h15 => ?_) (fun h15 => ?_)
  ·refine wc_skip ?_
   refine then_go ?_
   refine wc_seq ?_
   refine wc_block ?_
   rw [Bool.and_eq_true, decide_eq_true_eq, decide_eq_true_eq] at h15
   have hi : i < A.length := by omega
   obtain ⟨lb, lo, da, dc, hla, hd, _, hrk, hrs, hrd⟩ := hA.at hi
   subst hla
   obtain ⟨hk, hdl⟩ := hs.2 _ (List.getElem_mem hi)
   simp only [hd] at hrd
   have htk : bulkA ((A.take (i + 1)).map (·.1)) = bulkA ((A.take i).map (·.1)) + (A[i].1.key.length + A[i].1.data.length) := by
    rw [List.take_succ_eq_append_getElem hi, List.map_append]
    unfold bulkA
    simp
   refine wc_draw TF.mixed ?_
   have st := st.pure (touch_drew _)
   refine fl_val 0 rfl (fun _ => (v_move' (by conv => (lhs; whnf)))) rfl (by kernel_rfl) ?_
   refine fl_val 1 rfl (fun _ => (v_move' (by conv => (lhs; whnf)))) rfl (by kernel_rfl) ?_
   refine fl_val 2 rfl (fun _ => (v_move' (by conv => (lhs; whnf)))) rfl (by kernel_rfl) ?_
   refine fl_val 3 rfl (fun _ => (v_ias i Tryz.underlying22 TF.t57 rfl rfl (by first | rfl | omega) (by first | omega | (dsimp only at *; omega)))) rfl (by kernel_rfl) ?_
   refine fl_val 4 rfl (fun _ => (v_fa TF.f57_0 rfl)) rfl (by kernel_rfl) ?_
   refine fl_ld 5 rfl (v_load rfl (hrk st.im)) (by kernel_rfl) ?_
   refine fl_val 6 rfl (fun _ => (v_to (v' := .int .i64 (A[i].1.key.length : Nat)) (v_len_str Tryz.underlying9 rfl) (by rw [size_strB]))) rfl (by kernel_rfl) ?_
   refine fl_val 7 rfl (fun _ => (v_add' (a := ((bulkA ((A.take i).map (·.1)) : Nat) : Int)) (b := ((A[i].1.key.length : Nat) : Int)) (c := ((bulkA ((A.take i).map (·.1)) + A[i].1.key.length : Nat) : Int)) rfl rfl (by omega) (by omega) (by omega))) rfl (by kernel_rfl) ?_
   refine fl_val 8 rfl (fun _ => (v_move' (by conv => (lhs; whnf)))) rfl (by kernel_rfl) ?_
   refine fl_val 9 rfl (fun _ => (v_move' (by conv => (lhs; whnf)))) rfl (by kernel_rfl) ?_
   refine fl_val 10 rfl (fun _ => (v_ias i Tryz.underlying22 TF.t57 rfl rfl (by first | rfl | omega) (by first | omega | (dsimp only at *; omega)))) rfl (by kernel_rfl) ?_
   refine fl_val 11 rfl (fun _ => (v_fa TF.f57_2 rfl)) rfl (by kernel_rfl) ?_
   refine fl_ld 12 rfl (v_load rfl (hrd st.im)) (by kernel_rfl) ?_
   refine fl_val 13 rfl (fun _ => (v_len_s Tryz.underlying23 rfl)) rfl (by kernel_rfl) ?_
   refine fl_val 14 rfl (fun _ => (v_add' (a := ((bulkA ((A.take i).map (·.1)) + A[i].1.key.length : Nat) : Int)) (b := ((A[i].1.data.length : Nat) : Int)) (c := ((bulkA ((A.take (i + 1)).map (·.1)) : Nat) : Int)) rfl rfl (by omega) (by omega) (by omega))) rfl (by kernel_rfl) ?_
   refine fl_eff1 15 [] [] (by kernel_rfl) ⟨obl_ld rfl rfl rfl (v_load rfl (hrd st.im)), obl_ld rfl rfl rfl (v_load rfl (hrk st.im)), trivial⟩ rfl ?_
   refine wl_val (v_assign' (by conv => (lhs; whnf))) rfl ?_
   refine wl_nil ⟨rfl, ?_⟩
   refine fl_nil (by kernel_rfl) trivial ?_
   refine block_go (then_go ?_)
   refine wc_region ?_
   refine wl_val (v_move' (by conv => (lhs; whnf))) rfl ?_
   refine wl_val (v_add' (c := ((i + 1 : Nat) : Int)) rfl rfl (by omega) (by omega) (by omega)) rfl ?_
   refine wl_val (v_assign' (by conv => (lhs; whnf))) rfl ?_
   refine wl_nil ?_
   refine then_go ?_
   exact ⟨q - 1, by simp; omega, i + 1, by omega, rfl, rfl, rfl, by omega, st⟩
  ·refine wc_exit (then_exit (then_exit (block_hit ?_)))
   refine then_go ?_
   refine wc_seq ?_
   refine wc_region ?_
   refine wl_val (v_move' (by conv => (lhs; whnf))) rfl ?_
   refine wl_val (v_leq rfl rfl) rfl ?_
   refine wl_val (v_assign' (by conv => (lhs; whnf))) rfl ?_
   refine wl_nil ?_
   refine then_go ?_
   refine wc_ret ?_
   refine ret1 (v := .bool (decide ((bulkA ((A.take i).map (·.1)) : Int) ≤ 20000))) rfl ⟨st.touch, _, rfl, fun h => ?_⟩
   have h1 := of_decide_eq_true h
   rw [Bool.and_eq_false_iff] at h15
   have hiA : i = A.length := by
    rcases h15 with h | h
    ·have := of_decide_eq_false h; omega
    ·have := of_decide_eq_false h; omega
   subst hiA
   rw [List.take_length] at h1
   exact ⟨by omega, by omega⟩
end
end Go.Proofs.YtladpaehbolghaaGreat

namespace Go.Proofs.YtladpaehbolghaaGreat
open Go Go.RowKit K SH GC JR OS
open DK hiding By
namespace OS
def BatsM (m : Mem) (v : Value) (L : List (List AcT × Value)) : Prop := SlM m v 1 L.length (L.map (·.2)) ∧ ∀ x ∈ L, AcsM m x.2 x.1
theorem BatsM.mono {m m' : Mem} {v : Value} {L : List (List AcT × Value)} (h : BatsM m v L) (hm : ∀ k o, m k = some o → m' k = some o) : BatsM m' v L := ⟨h.1.mono hm, fun x hx => (h.2 x hx).mono hm⟩
end OS
section
variable {m0 m : Mem} {wI w0 w : World} {Es : List Ent}
theorem OS.BatsM.at {v : Value} {L : List (List AcT × Value)} (h : BatsM m v L) {i : Nat} (hi : i < L.length) : ∃ b o c, v = .slice (some ⟨b, o, none⟩) L.length c ∧ ∀ {w : World} (_ : Im m w), Reads Tryz.prog w 22 ⟨b, o + i * 1, none⟩ L[i].2 := by
 obtain ⟨b, o, c, hv, _, hr⟩ := h.1.elem Tryz.prog (i := i) hi (by omega)
 refine ⟨b, o, c, hv, fun {w} him => ?_⟩
 have := hr him (off := 0) (v' := L[i].2) TF.t22 (by
  have e : cellsAt (L.map (·.2)) 1 i = [L[i].2] := by simp [cellsAt, List.drop_eq_getElem_cons, hi]
  rw [e]
  rfl)
 simpa using this
theorem c_fresh15 {z : Int} (st : St m0 m [] w0 w Es) :
  Ret Tryz.prog 18 #[.int .i64 z] w fun v w' => ∃ m' b s wv g lv sb mb n S sl, 8 ≤ n ∧ n ≤ 47 ∧ LogOk n S sl [] ∧ sl.gen = 1 ∧ (∀ k o, m k = some o → m' k = some o) ∧ v = .tuple #[.pointer (some ⟨b, 0, none⟩), .pointer (some ⟨sb, 0, none⟩)] ∧ St m0 m' [] w0 w' (lgE g b s n sl lv wv S [] (stE sb g mb [] Es)) := by
 refine ret_of Tryz.call18 Tryz.func18 rfl Tryz.ntmps18 Tryz.results18 rfl ?_
 refine wc_seq ?_
 refine wc_region ?_
 refine wl_val (v_assign' (by conv => (lhs; whnf))) rfl ?_
 refine wl_val (v_assign' (by conv => (lhs; whnf))) rfl ?_
 refine wl_nil ?_
 refine then_go ?_
 refine wc_seq ?_
 obtain ⟨u, hu⟩ : ∃ u, u = IntKind.u64.wrap z := ⟨_, rfl⟩
 have hu0 : 0 ≤ u := by rw [hu, IntKind.wrap_u64]; omega
 obtain ⟨k, hk⟩ : ∃ k : Nat, u % 40 = k := ⟨(u % 40).toNat, (Int.toNat_of_nonneg (Int.emod_nonneg _ (by omega))).symm⟩
 have hkl : k < 40 := by omega
 refine wc_region ?_
 refine wl_val (v_move' (by conv => (lhs; whnf))) rfl ?_
 refine wl_val (v_to (v' := .int .u64 u) (v_conv Tryz.underlying3 Tryz.underlying47 rfl) (by rw [hu])) rfl ?_
 refine wl_val (v_rem' rfl rfl hu0 (by omega) hk) rfl ?_
 refine wl_val (v_to (v' := .int .i64 (k : Nat)) (v_conv Tryz.underlying47 Tryz.underlying3 rfl) (by rw [wrap_i64 (by omega) (by omega)])) rfl ?_
 refine wl_val (v_add' (c := ((8 + k : Nat) : Int)) rfl rfl (by omega) (by omega) (by omega)) rfl ?_
 refine wl_call rfl (c_new ((8 + k : Nat) : Int) st.im) rfl ?_
 intro v13 w h13
 rw [if_neg (by omega)] at h13
 obtain ⟨p, ⟨b, s, wv, rfl, t13, hE⟩, rfl⟩ := h13
 have st := st.new t13 hE
 obtain ⟨n, hn⟩ : ∃ n, n = 8 + k := ⟨_, rfl⟩
 have hn8 : 8 ≤ n := by omega
 have hn2 : n ≤ 47 := by omega
 have st : St m0 m [] w0 w (diskO b s n wv (calm (List.replicate (64 * n) 0)) :: Es) := by rw [hn]; exact st
 obtain ⟨S', s', ho, hlog, hgen⟩ := open_new hn8 (by omega : n ≤ 16384)
 refine wl_val (v_move' (by conv => (lhs; whnf))) rfl ?_
 refine wl_val (v_extract rfl rfl) rfl ?_
 refine wl_val (v_extract rfl rfl) rfl ?_
 refine wl_val (v_assign' (by conv => (lhs; whnf))) rfl ?_
 refine wl_val (v_assign' (by conv => (lhs; whnf))) rfl ?_
 refine wl_nil ?_
 refine then_go ?_
 refine wc_seq ?_
 refine wc_seq ?_
 refine wc_region ?_
 refine wl_val (v_move' (by conv => (lhs; whnf))) rfl ?_
 refine wl_val (wl_valD (v_neq rfl rfl) (q := false) rfl) rfl ?_
 refine wl_val (v_move' (by conv => (lhs; whnf))) rfl ?_
 refine wl_on rfl rfl ?_
 refine wl_val (v_move' (by conv => (lhs; whnf))) rfl ?_
 refine wl_on rfl rfl ?_
 refine wl_val (v_eq_nil (p := some ⟨b, 0, none⟩) Tryz.underlying35 rfl rfl) rfl ?_
 refine wl_val (v_pick rfl) rfl ?_
 refine wl_nil ?_
 refine then_go ?_
 refine wc_false rfl ?_
 refine wc_skip ?_
 refine then_go ?_
 refine wc_seq ?_
 refine wc_region ?_
 refine wl_val (v_move' (by conv => (lhs; whnf))) rfl ?_
 refine wl_call rfl (c_sopen st (by simp) hn8 (by omega) ho hlog) rfl ?_
 rintro v24 w ⟨g, sb, mb, m1, wv1, lv, N', L', rfl, hmm1, _, hN, _, _, hpL, st⟩
 have hN0 : N' = [] := List.map_eq_nil_iff.1 hN
 subst hN0
 have hL0 : L' = [] := List.map_eq_nil_iff.1 (List.nil_perm.1 hpL)
 subst hL0
 refine wl_val (v_move' (by conv => (lhs; whnf))) rfl ?_
 refine wl_val (v_extract rfl rfl) rfl ?_
 refine wl_val (v_extract rfl rfl) rfl ?_
 refine wl_val (v_assign' (by conv => (lhs; whnf))) rfl ?_
 refine wl_val (v_assign' (by conv => (lhs; whnf))) rfl ?_
 refine wl_nil ?_
 refine then_go ?_
 refine wc_seq ?_
 refine wc_seq ?_
 refine wc_region ?_
 refine wl_val (v_move' (by conv => (lhs; whnf))) rfl ?_
 refine wl_val (v_neq rfl rfl) rfl ?_
 refine wl_nil ?_
 refine then_go ?_
 refine wc_false rfl ?_
 refine wc_skip ?_
 refine then_go ?_
 refine wc_seq ?_
 refine wc_region ?_
 refine wl_val (v_move' (by conv => (lhs; whnf))) rfl ?_
 refine wl_val (v_move' (by conv => (lhs; whnf))) rfl ?_
 refine wl_val (v_assign' (by conv => (lhs; whnf))) rfl ?_
 refine wl_val (v_assign' (by conv => (lhs; whnf))) rfl ?_
 refine wl_nil ?_
 refine then_go ?_
 refine wc_ret ?_
 exact ret2 rfl rfl ⟨m1, b, s, wv1, g, lv, sb, mb, n, S', s', hn8, hn2, hlog, hgen, hmm1, rfl, st⟩
end
end Go.Proofs.YtladpaehbolghaaGreat

namespace Go.Proofs.YtladpaehbolghaaGreat
open Go Go.RowKit K SH DK JR
def actR (W : List By) (o : OpV) (n : Nat) : Nat := if o.ag = true then resR (o.M.map (·.1)) n else appR W o.B n
section
variable {m0 m : Mem} {w0 w : World} {Es : List Ent}
theorem JR.LogOk.few {n : Nat} {S : By} {s : LG} {L : List By} (h : LogOk n S s L) : L.length ≤ 8192 ∧ ∀ x ∈ L, x.length ≤ 1048576 := by
 have h1 := sizeL_ge (l := L)
 have h2 := h.fit
 have h3 := h.nle
 exact ⟨by omega, fun x hx => (h.okr x hx).2⟩
end
end Go.Proofs.YtladpaehbolghaaGreat

namespace Go.Proofs.YtladpaehbolghaaGreat
open Go Go.RowKit K SH GC JR OS
open DK hiding By
section
variable {m0 m : Mem} {w0 w : World} {Es : List Ent}
abbrev wkA (b : Nat) : List AcT := [(⟨[97], true, [120]⟩, .slice (some ⟨b, 0, none⟩) 1 1), (⟨[98], false, []⟩, .slice none 0 0)]
abbrev wkL : List Ac := [⟨[97], true, [120]⟩, ⟨[98], false, []⟩]
theorem wk_chk : chkL wkL = 0 := by
 unfold chkL
 rw [if_pos]
 refine ⟨by decide, ?_, by decide⟩
 intro a ha
 rcases List.mem_cons.1 ha with rfl | ha
 ·exact ⟨by decide, by decide, .inl rfl, by decide⟩
 ·rw [List.mem_singleton.1 ha]; exact ⟨by decide, by decide, .inr rfl, by decide⟩
theorem wk_done : doneS [] wkL = [([97], [120])] := by decide
theorem wk_app : applyR [] [] wkL 8 = ([([97], [120])], [batB wkL], 0) := by
 have h1 : (batB wkL).length ≤ 73 := by
  unfold batB
  rw [List.length_append]
  have h := flat_lenA (L := wkL) (by decide)
  have h2 : bulkA wkL + 30 * wkL.length = 63 := by decide
  have h3 := numB_len10 (n := wkL.length) (by decide)
  omega
 have h0 : 1 ≤ (batB wkL).length := by
  unfold batB
  rw [List.length_append]
  have := numB_pos (n := wkL.length)
  omega
 have h2 : appR [] (batB wkL) 8 = 0 := by
  unfold appR
  have hc : checkE (batB wkL) = 0 := by unfold checkE; rw [if_pos ⟨h0, by omega⟩]
  rw [if_neg (by rw [hc]; decide), if_pos]
  unfold sizeL recL
  simp
  omega
 unfold applyR
 rw [if_neg (by rintro (h | h); exact h wk_chk; cases h), if_pos h2, wk_done]
 rfl
theorem c_works15 (st : St m0 m [] w0 w Es) : Ret Tryz.prog 9 #[] w fun v w' => (∃ m', (∀ k o, m k = some o → m' k = some o) ∧ St m0 m' [] w0 w' Es) ∧ v = .bool true := by
 refine ret_of Tryz.call9 Tryz.func9 rfl Tryz.ntmps9 Tryz.results9 rfl ?_
 refine wc_seq ?_
 refine wc_region ?_
 refine wl_val (v_assign' (by conv => (lhs; whnf))) rfl ?_
 refine wl_nil ?_
 refine then_go ?_
 refine wc_seq ?_
 refine wc_region ?_
 refine wl_call rfl (c_new 8 st.im) rfl ?_
 intro v9 w h9
 rw [if_neg (by decide)] at h9
 obtain ⟨p, ⟨b, s, wv, rfl, t9, hE⟩, rfl⟩ := h9
 have st := st.new t9 hE
 obtain ⟨S1, s1, ho, hlog, hgen⟩ := open_new (n := 8) (by decide) (by decide)
 have st : St m0 m [] w0 w (diskO b s 8 wv (calm (List.replicate (64 * 8) 0)) :: Es) := st
 refine wl_val (v_move' (by conv => (lhs; whnf))) rfl ?_
 refine wl_val (v_extract rfl rfl) rfl ?_
 refine wl_val (v_extract rfl rfl) rfl ?_
 refine wl_val (v_assign' (by conv => (lhs; whnf))) rfl ?_
 refine wl_val (v_assign' (by conv => (lhs; whnf))) rfl ?_
 refine wl_nil ?_
 refine then_go ?_
 refine wc_seq ?_
 refine wc_seq ?_
 refine wc_region ?_
 refine wl_val (v_move' (by conv => (lhs; whnf))) rfl ?_
 refine wl_val (wl_valD (v_neq rfl rfl) (q := false) rfl) rfl ?_
 refine wl_val (v_move' (by conv => (lhs; whnf))) rfl ?_
 refine wl_on rfl rfl ?_
 refine wl_val (v_move' (by conv => (lhs; whnf))) rfl ?_
 refine wl_on rfl rfl ?_
 refine wl_val (v_eq_nil (p := some ⟨b, 0, none⟩) Tryz.underlying35 rfl rfl) rfl ?_
 refine wl_val (v_pick rfl) rfl ?_
 refine wl_nil ?_
 refine then_go ?_
 refine wc_false rfl ?_
 refine wc_skip ?_
 refine then_go ?_
 refine wc_seq ?_
 refine wc_region ?_
 refine wl_val (v_move' (by conv => (lhs; whnf))) rfl ?_
 refine wl_call rfl (c_sopen st List.length_replicate (by decide) (by decide) ho hlog) rfl ?_
 rintro v20 w ⟨g, sb, mb, m1, wv1, lv, N', L', rfl, hmm1, _, hN, _, _, hpL, st⟩
 have hN0 : N' = [] := List.map_eq_nil_iff.1 hN
 subst hN0
 have hL0 : L' = [] := List.map_eq_nil_iff.1 (List.nil_perm.1 hpL)
 subst hL0
 refine wl_val (v_move' (by conv => (lhs; whnf))) rfl ?_
 refine wl_val (v_extract rfl rfl) rfl ?_
 refine wl_val (v_extract rfl rfl) rfl ?_
 refine wl_val (v_assign' (by conv => (lhs; whnf))) rfl ?_
 refine wl_val (v_assign' (by conv => (lhs; whnf))) rfl ?_
 refine wl_nil ?_
 refine then_go ?_
 refine wc_seq ?_
 refine wc_seq ?_
 refine wc_region ?_
 refine wl_val (v_move' (by conv => (lhs; whnf))) rfl ?_
 refine wl_val (wl_valD (v_neq rfl rfl) (q := false) rfl) rfl ?_
 refine wl_val (v_move' (by conv => (lhs; whnf))) rfl ?_
 refine wl_on rfl rfl ?_
 refine wl_val (v_move' (by conv => (lhs; whnf))) rfl ?_
 refine wl_on rfl rfl ?_
 refine wl_val (v_eq_nil (p := some ⟨sb, 0, none⟩) Tryz.underlying36 rfl rfl) rfl ?_
 refine wl_val (v_pick rfl) rfl ?_
 refine wl_val (v_move' (by conv => (lhs; whnf))) rfl ?_
 refine wl_on rfl rfl ?_
 refine wl_val (v_move' (by conv => (lhs; whnf))) rfl ?_
 refine wl_on rfl rfl ?_
 refine wl_byte1 120 Tryz.underlying23 TF.t5 TF.z5 rfl st rfl ?_
 intro b31 w st
 refine wl_on rfl rfl ?_
 refine wl_constB Tryz.underlying23 Tryz.underlying5 rfl st (by simp) rfl ?_
 intro m2 w hmm2 hm2 st
 have hb31 : SlM m2 (.slice (some ⟨b31, 0, none⟩) 1 1) 1 [(120 : UInt8)].length (bs [120]) := by
  exact SlM.ofBlock (o := 0) (cap := 1) (l := [120]) (pre := []) (post := []) hm2 rfl rfl (Nat.le_refl _)
 refine wl_on rfl rfl ?_
 refine wl_val (v_build (c' := (acC ⟨[97], true, [120]⟩ (.slice (some ⟨b31, 0, none⟩) 1 1)).toArray) [(0, .string (strB [97])), (1, .bool true), (2, .slice (some ⟨b31, 0, none⟩) 1 1)] TF.z57 TF.p57 rfl (fill_one [] [.string ⟨#[]⟩] [.bool false, .slice none 0 0] rfl rfl rfl (fill_one [.string (strB [97])] [.bool false] [.slice none 0 0] rfl rfl rfl (fill_one [.string (strB [97]), .bool true] [.slice none 0 0] [] rfl rfl rfl rfl)))) rfl ?_
 refine wl_on rfl rfl ?_
 refine wl_val (v_build (c' := (acC ⟨[98], false, []⟩ (.slice none 0 0)).toArray) [(0, .string (strB [98]))] TF.z57 TF.p57 rfl (fill_one [] [.string ⟨#[]⟩] [.bool false, .slice none 0 0] rfl rfl rfl rfl)) rfl ?_
 refine wl_on rfl rfl ?_
 refine wl_lsTwo (acC ⟨[97], true, [120]⟩ (.slice (some ⟨b31, 0, none⟩) 1 1)) (acC ⟨[98], false, []⟩ (.slice none 0 0)) Tryz.underlying22 TF.t57 TF.z57 (by decide) (by decide) rfl rfl rfl rfl st rfl ?_
 intro b35 w st
 have st : St m0 m2 [] w0 w (acE (.slice (some ⟨b35, 0, none⟩) 2 2) (wkA b31) :: lgE g b s 8 s1 lv wv1 S1 [] (stE sb g mb [] Es)) := st.rowShut 0 (b := b35) (k := 2) (cap := 2) (size := 3) rfl (by decide) rfl (by decide) rfl
 obtain ⟨m3, hg3, hls, st⟩ := st.keepLs (i := 0) rfl (fun _ _ => rfl)
 have hA : AcsM m3 (.slice (some ⟨b35, 0, none⟩) 2 2) (wkA b31) := ⟨hls, fun a ha => by
  rcases List.mem_cons.1 ha with rfl | ha
  ·exact ⟨by show 1 ≤ 9223372036854775807; omega, hb31.mono hg3.le⟩
  ·rw [List.mem_singleton.1 ha]; exact ⟨by show 1 ≤ 9223372036854775807; omega, SlM.nil⟩⟩
 have st : St m0 m3 [] w0 w (lgE g b s 8 s1 lv wv1 S1 [] (stE sb g mb [] Es)) := st
 have hmm3 : ∀ k o, m k = some o → m3 k = some o := fun k o h => hg3.le k o (hmm2 k o (hmm1 k o h))
 refine wl_on rfl rfl ?_
 refine wl_call rfl (c_sapply (N := []) (L := []) (M := []) st hlog (by rw [hgen]; decide) (by intro x hx; cases hx) (by intro x hx; cases hx) (by simp [Risen]) (List.Perm.refl _) hA (by simp) (by decide) (by simp [bulkK, bulkA])) rfl ?_
 rintro v36 w ⟨m4, wv4, lv4, N4, S4, sl4, L4, hmm4, rfl, _, _, _, _, _, hL4, _, hp4, st⟩
 have hap : applyR [] (([] : List (By × Value)).map (·.1)) ((wkA b31).map (·.1)) 8 = ([([97], [120])], [batB wkL], 0) := wk_app
 rw [hap] at hp4 ⊢
 refine wl_on rfl rfl ?_
 refine wl_val (wl_valD (v_neq rfl rfl) (q := false) rfl) rfl ?_
 refine wl_val (v_pick rfl) rfl ?_
 refine wl_nil ?_
 refine then_go ?_
 refine wc_false rfl ?_
 refine wc_skip ?_
 refine then_go ?_
 refine wc_seq ?_
 refine wc_region ?_
 refine wl_val (v_move' (by conv => (lhs; whnf))) rfl ?_
 refine wl_call rfl (c_sget (k := [97]) st hL4 (by simp [Risen]) hp4 (by simp)) rfl ?_
 rintro v41 w ⟨u, hv41, st⟩
 have e41 : getKV ([97] : By) ([([97], [120])] : Kys) = some [120] := by decide
 rw [e41] at hv41 st
 subst hv41
 obtain ⟨m5, hg5, hm5, st5⟩ := st.freezeR (i := 0) rfl (by simp)
 have hu : SlM m5 u 1 [(120 : UInt8)].length (bs [120]) := row_SlM (m := m5) (st.at (i := 0) rfl) hm5
 have st : St m0 m5 [] w0 w (lgE g b s 8 sl4 lv4 wv4 S4 N4 (stE sb g mb L4 Es)) := st5
 have hL5 := hL4.mono hg5.le
 refine wl_val (v_move' (by conv => (lhs; whnf))) rfl ?_
 refine wl_val (v_extract rfl rfl) rfl ?_
 refine wl_val (v_extract rfl rfl) rfl ?_
 refine wl_val (v_assign' (by conv => (lhs; whnf))) rfl ?_
 refine wl_val (v_assign' (by conv => (lhs; whnf))) rfl ?_
 refine wl_nil ?_
 refine then_go ?_
 refine wc_seq ?_
 refine wc_region ?_
 refine wl_val (v_move' (by conv => (lhs; whnf))) rfl ?_
 refine wl_call rfl (c_sget (k := [98]) st hL5 (by simp [Risen]) hp4 (by simp)) rfl ?_
 rintro v46 w ⟨u2, hv46, st⟩
 have e46 : getKV ([98] : By) ([([97], [120])] : Kys) = none := by decide
 rw [e46] at hv46 st
 subst hv46
 have st : St m0 m5 [] w0 w (lgE g b s 8 sl4 lv4 wv4 S4 N4 (stE sb g mb L4 Es)) := st.drop 0
 refine wl_val (v_move' (by conv => (lhs; whnf))) rfl ?_
 refine wl_val (v_extract rfl rfl) rfl ?_
 refine wl_val (v_extract rfl rfl) rfl ?_
 refine wl_val (v_assign' (by conv => (lhs; whnf))) rfl ?_
 refine wl_val (v_assign' (by conv => (lhs; whnf))) rfl ?_
 refine wl_nil ?_
 refine then_go ?_
 refine wc_seq ?_
 refine wc_region ?_
 refine wl_val (v_move' (by conv => (lhs; whnf))) rfl ?_
 refine wl_val (v_move' (by conv => (lhs; whnf))) rfl ?_
 refine wl_on rfl rfl ?_
 refine wl_val (v_move' (by conv => (lhs; whnf))) rfl ?_
 refine wl_on rfl rfl ?_
 refine wl_val (v_b2s Tryz.underlying23 Tryz.underlying5 Tryz.underlying9 st.im hu rfl) rfl ?_
 refine wl_on rfl rfl ?_
 refine wl_val (wl_valD (v_eqs (a := [120]) (b := [120]) rfl rfl) (q := true) rfl) rfl ?_
 refine wl_val (v_pick rfl) rfl ?_
 refine wl_val (v_move' (by conv => (lhs; whnf))) rfl ?_
 refine wl_on rfl rfl ?_
 refine wl_val (v_move' (by conv => (lhs; whnf))) rfl ?_
 refine wl_on rfl rfl ?_
 refine wl_val (v_not rfl) rfl ?_
 refine wl_val (v_pick rfl) rfl ?_
 refine wl_val (v_move' (by conv => (lhs; whnf))) rfl ?_
 refine wl_on rfl rfl ?_
 refine wl_val (v_move' (by conv => (lhs; whnf))) rfl ?_
 refine wl_on rfl rfl ?_
 refine wl_call rfl (c_slen st) rfl ?_
 rintro v61 w ⟨t61, rfl⟩
 have st := st.pure t61
 have hl4 : L4.length = 1 := by have := hp4.length_eq; rw [length_kvs] at this; exact this.symm
 refine wl_on rfl rfl ?_
 refine wl_val (v_eqlT (by rw [hl4]; rfl) rfl rfl) rfl ?_
 refine wl_val (v_pick rfl) rfl ?_
 refine wl_val (v_assign' (by conv => (lhs; whnf))) rfl ?_
 refine wl_nil ?_
 refine then_go ?_
 refine wc_ret ?_
 exact ret1 rfl ⟨⟨m5, fun k o h => hg5.le k o (hmm4 k o (hmm3 k o h)), ((((st.drop 0).drop 0).drop 0).drop 0).drop 0⟩, rfl⟩
end
end Go.Proofs.YtladpaehbolghaaGreat

namespace Go.Proofs.YtladpaehbolghaaGreat
open Go Go.RowKit K SH GC JR OS
open DK hiding By
end Go.Proofs.YtladpaehbolghaaGreat

namespace Go.Proofs.YtladpaehbolghaaGreat
open Go Go.RowKit Go.ChangeShapes Go.WideShapes K SH GC JR OS
open DK hiding By
section
variable {H : Type} {enc : TypeId × Value → H} {w : World} {sp : Nat → Bool} {held : Bool} {fuel : Nat} {x : DataW H × List MemPlace} {v : Value} {cs : List Value}
theorem trod_strB (h : DataW.trod enc Tryz.prog w 0 sp held fuel 9 cs = some x) : ∃ s : By, cs = [.string (strB s)] ∧ s.length ≤ 9223372036854775807 ∧ s.length ≤ Rows.uptoBulk x.1 := by
 obtain ⟨s, q, hd, hs⟩ := DataW.trod_string Tryz.underlying9 h
 refine ⟨s.data.toList, by rw [q]; rfl, by unfold maxLen at hs; simpa using hs, ?_⟩
 rw [hd]
 simp [Rows.uptoBulk]
theorem trod_ac (h : DataW.trod enc Tryz.prog w 0 sp held fuel 57 cs = some x) : ∃ a : AcT, cs = acP a ∧ AcOk (heapM w) a.1 a.2 ∧ a.1.key.length ≤ Rows.uptoBulk x.1 ∧ a.1.data.length ≤ Rows.uptoBulk x.1 := by
 have hl := trod_len Tryz.underlying57 TF.t57 h
 obtain ⟨_, y0, e0, hy0⟩ := trod_segB TF.f57_0 TF.t9 h
 obtain ⟨_, _, e1⟩ := trod_seg TF.f57_1 TF.t4 h
 obtain ⟨_, y2, e2, hy2⟩ := trod_segB TF.f57_2 TF.t23 h
 match cs, hl with
 | [a, b, c], _ =>
  obtain ⟨k, q0, hk1, hk2⟩ := trod_strB e0
  obtain ⟨s, q1⟩ := trod_bo e1
  obtain ⟨d, hd, hdl⟩ := open_bytesB (v := c) e2
  have q0 : [a] = [.string (strB k)] := q0
  have q1 : [b] = [.bool s] := q1
  rw [List.cons.injEq] at q0 q1
  exact ⟨(⟨k, s, d⟩, c), by rw [q0.1, q1.1]; rfl, ⟨hk1, hd⟩, Nat.le_trans hk2 hy0, Nat.le_trans hdl hy2⟩
theorem open_actsB (h : DataW.trod enc Tryz.prog w 0 sp held fuel 22 [v] = some x) : ∃ A : List AcT, AcsM (heapM w) v A ∧ A.length ≤ Rows.uptoBulk x.1 ∧ ∀ a ∈ A, a.1.key.length ≤ Rows.uptoBulk x.1 ∧ a.1.data.length ≤ Rows.uptoBulk x.1 := by
 obtain ⟨A, h1, h2, h3⟩ := trod_listB (c := acP) (Q := fun a n => AcOk (heapM w) a.1 a.2 ∧ a.1.key.length ≤ n ∧ a.1.data.length ≤ n) Tryz.underlying22 TF.t57 (by decide) (fun h => by obtain ⟨o, q1, q2, q3⟩ := trod_ac h; exact ⟨o, q1, q2, q3⟩) (fun h hle => ⟨h.1, Nat.le_trans h.2.1 hle, Nat.le_trans h.2.2 hle⟩) h
 exact ⟨A, ⟨h1, fun a ha => (h2 a ha).1⟩, h3, fun a ha => (h2 a ha).2⟩
set_option maxRecDepth 100000 in
theorem open_str {W : World} {r : Reach} {base : Nat} {d : DataW H} {p : List MemPlace} (hv : Value.okWide Tryz.prog W r base 9 v) (h : DataW.Trod enc Tryz.prog w 0 sp held 9 v d p) : ∃ s : By, v = .string (strB s) ∧ s.length ≤ 9223372036854775807 := by
 obtain ⟨s, rfl⟩ := okWide_string Tryz.underlying9 hv
 obtain ⟨fu, hf⟩ := h
 obtain ⟨l, q, hl, _⟩ := trod_strB hf
 exact ⟨l, by simpa [Value.cells] using q, hl⟩
theorem shortA {A : List AcT} {n : Nat} (h1 : A.length ≤ n) (h2 : ∀ a ∈ A, a.1.key.length ≤ n ∧ a.1.data.length ≤ n) (hn : n ≤ 1048576) : ShortA A := ⟨Nat.le_trans h1 hn, fun a ha => ⟨Nat.le_trans (h2 a ha).1 hn, Nat.le_trans (h2 a ha).2 hn⟩⟩
end
end Go.Proofs.YtladpaehbolghaaGreat

namespace Go.Proofs.YtladpaehbolghaaGreat
open Go Go.RowKit K SH GC JR OS
open DK hiding By
theorem v_eq_nilfunc {P : Program} {r : Fr} {w : World} {ty : TypeId} {T U : TypeId} {x y : Operand} {ps rs : Array TypeId} {vd : Bool} {f : Fn} {a b : Array Value} (hT : P.underlying T = some (.func ps rs vd)) (hx : ev r x = .func f a b) (hy : ev r y = .nilFunc) : Val P (.binOp .eql T x y U) ty r w (.bool false) w := by
 intro _ _ _ _
 have h : (Op.equal T (.func f a b) .nilFunc).run P w = .ok false w := by
  unfold Op.equal
  rw [show Op.maxDepth = 9999 + 1 from rfl, Op.equalIn]
  simp only [Sem.run_bind, run_underlying hT, Result.andThen_ok]
  rfl
 simp [execOp, eqGuard, binOp, hx, hy, h]
section
variable {m0 m : Mem} {F : List Nat} {w0 w : World} {Es Xs : List Ent}
theorem c_slenX {sb mb g : Nat} {L : List (By × DV)} (i : Nat) (st : St m0 m F w0 w Xs) (hi : Xs[i]? = some (K.blk sb #[.pointer (some ⟨g, 0, none⟩), .map (some mb)] 95)) (hj : Xs[i + 1]? = some (kmE mb L)) :
  Ret Tryz.prog 34 #[.pointer (some ⟨sb, 0, none⟩)] w fun v w' => Tch w w' [] [] ∧ v = .int .i64 L.length := by
 refine ret_of Tryz.call34 Tryz.func34 rfl Tryz.ntmps34 Tryz.results34 rfl ?_
 refine wc_seq ?_
 refine wc_region ?_
 refine wl_val (v_assign' (by conv => (lhs; whnf))) rfl ?_
 refine wl_nil ?_
 refine then_go ?_
 refine wc_seq ?_
 refine wc_region ?_
 refine wl_val (v_move' (by conv => (lhs; whnf))) rfl ?_
 refine wl_val (v_nil rfl) rfl ?_
 refine wl_val (v_fa TF.f95_1 rfl) rfl ?_
 refine wl_val (v_load rfl (st.reads (v := .map (some mb)) i hi TF.t93 rfl)) rfl ?_
 refine wl_val (v_mapLen (i + 1) st hj Tryz.underlying93 rfl) rfl ?_
 refine wl_val (v_assign' (by conv => (lhs; whnf))) rfl ?_
 refine wl_nil ?_
 refine then_go ?_
 refine wc_ret ?_
 exact ret1 rfl ⟨Tch.refl _ _, rfl⟩
abbrev alE (kv vv : Value) (E : List (By × DV)) (T : List Ent → List Ent) (Es : List Ent) : List Ent := ksE kv E :: vsE vv E :: T (rowsE (E.map (·.2)) ++ Es)
theorem kvs_app {A B : List (By × DV)} : kvs (A ++ B) = kvs A ++ kvs B := List.map_append ..
theorem c_sallK {sb mb g b s n : Nat} {sl : LG} {lv wv : Value} {S : By} {N : List (By × Value)} {L : List (By × DV)} {M : Kys}
  (st : St m0 m [] w0 w (lgE g b s n sl lv wv S N (stE sb g mb L Es))) (hL : KvOk m L) (hM : Risen M) (hp : M.Perm (kvs L)) (hl : L.length ≤ 1000000) :
  Ret Tryz.prog 28 #[.pointer (some ⟨sb, 0, none⟩)] w fun v w' => ∃ kv vv E m', v = .tuple #[.agg #[kv, vv], .bool true] ∧ kvs E = M ∧ (∀ k o, m k = some o → m' k = some o) ∧ St m0 m' [] w0 w' (alE kv vv E (fun X => lgE g b s n sl lv wv S N (stE sb g mb L X)) Es) := by
 have hMl : M.length = L.length := by have := hp.length_eq; rw [length_kvs] at this; exact this
 refine ret_ofX Tryz.call28 Tryz.func28 rfl Tryz.ntmps28 Tryz.results28 rfl ?_
 refine wx_seqc ?_
 refine wc_region ?_
 refine wl_box (v := .pointer (some ⟨sb, 0, none⟩)) rfl st rfl ?_
 intro b1 w st
 refine wl_alloc TF.z43 st rfl ?_
 intro b2 w st
 refine wl_alloc TF.z4 st rfl ?_
 intro b3 w st
 refine wl_nil ?_
 refine then_go ?_
 refine wx_seqc ?_
 refine wc_region ?_
 refine wl_val (v_build (c' := #[.slice none 0 0, .slice none 0 0]) [] TF.z43 TF.p43 rfl rfl) rfl ?_
 refine wl_alloc TF.z43 st rfl ?_
 intro b4 w st
 refine wl_storeW (cs := #[.slice none 0 0, .slice none 0 0]) 0 st rfl TF.t43 rfl rfl rfl rfl (by simp [Value.oneCell']) ?_
 intro w st
 refine wl_nil ?_
 refine then_go ?_
 refine wx_seqc ?_
 refine wc_region ?_
 refine wl_val (v_load rfl (st.reads (v := .pointer (some ⟨sb, 0, none⟩)) 3 rfl TF.t36 rfl)) rfl ?_
 have st : St m0 m [] w0 w ([K.blk b4 #[.slice none 0 0, .slice none 0 0] 43, K.blk b3 #[.bool false] 4, K.blk b2 #[.slice none 0 0, .slice none 0 0] 43, K.blk b1 #[.pointer (some ⟨sb, 0, none⟩)] 36] ++ (lgE g b s n sl lv wv S N (stE sb g mb L []) ++ Es)) := st
 have st := st.perm (show List.Perm _ (lgE g b s n sl lv wv S N (stE sb g mb L []) ++ ([K.blk b4 #[.slice none 0 0, .slice none 0 0] 43, K.blk b3 #[.bool false] 4, K.blk b2 #[.slice none 0 0, .slice none 0 0] 43, K.blk b1 #[.pointer (some ⟨sb, 0, none⟩)] 36] ++ Es)) by rw [← List.append_assoc, ← List.append_assoc]; exact List.perm_append_comm.append_right _)
 refine wl_call rfl (c_sall st hL hM hp (by omega)) rfl ?_
 rintro v10 w ⟨ba, m1, av, A, rfl, hmm1, hA, hAM, hba, st⟩
 have st : St m0 m1 [] w0 w (lgE g b s n sl lv wv S N (stE sb g mb L []) ++ ([K.blk b4 #[.slice none 0 0, .slice none 0 0] 43, K.blk b3 #[.bool false] 4, K.blk b2 #[.slice none 0 0, .slice none 0 0] 43, K.blk b1 #[.pointer (some ⟨sb, 0, none⟩)] 36] ++ Es)) := st
 have st := st.perm (show List.Perm _ ([K.blk b4 #[.slice none 0 0, .slice none 0 0] 43, K.blk b3 #[.bool false] 4, K.blk b2 #[.slice none 0 0, .slice none 0 0] 43, K.blk b1 #[.pointer (some ⟨sb, 0, none⟩)] 36] ++ (lgE g b s n sl lv wv S N (stE sb g mb L []) ++ Es)) by rw [← List.append_assoc, ← List.append_assoc]; exact List.perm_append_comm.append_right _)
 have st := nilRow st 23 1
 have st := nilRow st 9 1
 have hAl : A.length = M.length := by have := congrArg List.length hAM; simpa [actsOf] using this
 have hAe : ∀ i (h : i < A.length), A[i].1 = ⟨(M[i]'(by omega)).1, true, (M[i]'(by omega)).2⟩ := fun i h => by
  have h1 : (A.map (·.1))[i]'(by simpa using h) = (actsOf M)[i]'(by simp [actsOf]; omega) := by simp [hAM]
  simpa [actsOf] using h1
 have hAd : ∀ a ∈ A, a.1.data.length ≤ 1048576 := fun a ha => by
  have h1 : a.1 ∈ actsOf M := by rw [← hAM]; exact List.mem_map.2 ⟨a, ha, rfl⟩
  obtain ⟨z, hz, e⟩ := List.mem_map.1 h1
  obtain ⟨y, hy, e2⟩ := List.mem_map.1 (hp.mem_iff.1 hz)
  rw [← e, ← e2]
  exact (hL y hy).2.1
 obtain ⟨T, hT⟩ : ∃ T : List Ent → List Ent, T = fun X => lgE g b s n sl lv wv S N (stE sb g mb L X) := ⟨_, rfl⟩
 have st : St m0 m1 [] w0 w (ksE (.slice none 0 0) [] :: vsE (.slice none 0 0) [] :: K.blk b4 #[.slice none 0 0, .slice none 0 0] 43 :: K.blk b3 #[.bool false] 4 :: K.blk b2 #[.slice none 0 0, .slice none 0 0] 43 :: K.blk b1 #[.pointer (some ⟨sb, 0, none⟩)] 36 :: lgE g b s n sl lv wv S N (stE sb g mb L (rowsE (([] : List (By × DV)).map (·.2)) ++ Es))) := st
 refine wl_val (v_assign' (by conv => (lhs; whnf))) rfl ?_
 refine wl_nil ?_
 refine then_go ?_
 refine wx_seqc ?_
 refine wc_seq ?_
 refine wc_region ?_
 refine wl_val (v_move' (by conv => (lhs; whnf))) rfl ?_
 refine wl_val (v_eq_nilfunc Tryz.underlying64 rfl rfl) rfl ?_
 refine wl_nil ?_
 refine then_go ?_
 refine wc_false rfl ?_
 refine wc_skip ?_
 refine then_go ?_
 refine wx_cut (fun ds r w' => ∃ (D l : Nat) (o : Obj) (kv vv : Value) (E : List (By × DV)), ds = [K.mark D] ∧ r 2 = .pointer (some ⟨b2, 0, none⟩) ∧ r 3 = .pointer (some ⟨b3, 0, none⟩) ∧ r 4 = .pointer (some ⟨b4, 0, none⟩) ∧ kvs E = M ∧ kv.oneCell' = true ∧ vv.oneCell' = true ∧ St m0 m1 [] w0 w' (objE l o :: objE D (.deferred (some [])) :: ksE kv E :: vsE vv E :: K.blk b4 #[kv, vv] 43 :: K.blk b3 #[.bool false] 4 :: K.blk b2 #[.slice none 0 0, .slice none 0 0] 43 :: K.blk b1 #[.pointer (some ⟨sb, 0, none⟩)] 36 :: lgE g b s n sl lv wv S N (stE sb g mb L (rowsE (E.map (·.2)) ++ Es)))) ?_ ?_
 ·refine wx_seqc ?_
  refine wc_region ?_
  refine wl_val (v_move' (by conv => (lhs; whnf))) rfl ?_
  refine wl_nil ?_
  refine then_go ?_
  refine wx_block ?_
  refine wx_range (lb := [.pointer (some ⟨ba, 0, none⟩)]) rfl Tryz.call64 st ?_
  intro l D fn tmps rec w1 hrec htm hval st
  refine Calls.mono (c_sall1 (l := l) (mA := m1)
   (J := fun i W => ∃ (kv vv : Value) (E : List (By × DV)), kvs E = M.take i ∧ kv.oneCell' = true ∧ vv.oneCell' = true ∧ St m0 m1 [] w0 W (objE l (.loop (rec .ready none)) :: objE D (.deferred (some [])) :: ksE kv E :: vsE vv E :: K.blk b4 #[kv, vv] 43 :: K.blk b3 #[.bool false] 4 :: K.blk b2 #[.slice none 0 0, .slice none 0 0] 43 :: K.blk b1 #[.pointer (some ⟨sb, 0, none⟩)] 36 :: lgE g b s n sl lv wv S N (stE sb g mb L (rowsE (E.map (·.2)) ++ Es))))
   (Jx := fun _ => False) (fun _ _ ⟨_, _, _, _, _, _, h⟩ => h.im) ?_ hA (by omega) hAd ⟨_, _, [], rfl, rfl, rfl, st⟩ (st.readm hba TF.t22 (by first | rfl | exact getV_all rfl))).2 ?_
  rintro i W W2 u hi ⟨kv, vv, E, hE, o1, o2, st⟩ sN
  have hiM : i < M.length := by omega
  rw [hAe i hi] at sN ⊢
  have st := st.newOf sN
  have st := st.perm (List.perm_middle (l₁ := [_, _, _, _, _, _, _, _, _, _, _, _, _])).symm
  have hE' : kvs (E ++ [(M[i].1, M[i].2, u)]) = M.take (i + 1) := by rw [kvs_app, hE, List.take_succ_eq_append_getElem hiM]; rfl
  have hEl : E.length = i := by have := congrArg List.length hE; rw [length_kvs, List.length_take] at this; omega
  have hrows : byE u M[i].2 :: (rowsE (E.map (·.2)) ++ Es) = rowsE ((E ++ [(M[i].1, M[i].2, u)]).map (·.2)) ++ Es := by simp [rowsE]
  have st : St m0 m1 [] w0 W2 (objE l (.loop (rec .ready none)) :: objE D (.deferred (some [])) :: ksE kv E :: vsE vv E :: K.blk b4 #[kv, vv] 43 :: K.blk b3 #[.bool false] 4 :: K.blk b2 #[.slice none 0 0, .slice none 0 0] 43 :: K.blk b1 #[.pointer (some ⟨sb, 0, none⟩)] 36 :: lgE g b s n sl lv wv S N (stE sb g mb L (rowsE ((E ++ [(M[i].1, M[i].2, u)]).map (·.2)) ++ Es))) := by rw [← hrows]; exact st
  have hu1 : u.oneCell' = true := byE_one sN 0 rfl
  obtain ⟨ka, kc, hkv⟩ := row_sl (st.at (i := 2) rfl)
  subst hkv
  refine yield_round hrec (st.at (i := 0) rfl) rfl htm hval rfl ?_
  ·refine wi_seq ?_
   refine wi_region (by kernel_rfl) (fun _ _ h => h) ?_
   refine wl_val (v_assign' (by conv => (lhs; whnf))) rfl ?_
   refine wl_nil ?_
   refine then_go ?_
   refine wi_region (by kernel_rfl) (fun _ _ h => h) ?_
   refine wl_val (v_assign' (by conv => (lhs; whnf))) rfl ?_
   refine wl_nil ?_
   refine then_go ⟨st.at (i := 0) rfl, ?_⟩
   have st := st.putObj 0 (.loop (rec .busy none)) rfl
   refine wi_block ?_
   refine wi_seq ?_
   refine wi_seq ?_
   refine wi_draw TF.mixed (by kernel_rfl) (fun _ _ h => h) ?_
   have st := st.pure (touch_drew _)
   refine fl_val 0 rfl (fun _ => (v_fa TF.f43_0 rfl)) rfl (by kernel_rfl) ?_
   refine fl_ld 1 rfl (v_load rfl (st.reads (v := .slice ka E.length kc) 4 rfl TF.t40 rfl)) (by kernel_rfl) ?_
   refine fl_val 2 rfl (fun _ => (v_len_s Tryz.underlying40 rfl)) rfl (by kernel_rfl) ?_
   refine fl_ld 3 rfl (v_load rfl (st.reads (v := .pointer (some ⟨sb, 0, none⟩)) 7 rfl TF.t36 rfl)) (by kernel_rfl) ?_
   refine fl_eff1 4 [2, 0] [1] (by kernel_rfl) ⟨obl_ld rfl rfl rfl (v_load rfl (st.reads (v := .pointer (some ⟨sb, 0, none⟩)) 7 rfl TF.t36 rfl)), obl_ld rfl rfl rfl (v_load rfl (st.reads (v := .slice ka E.length kc) 4 rfl TF.t40 rfl)), trivial⟩ rfl ?_
   refine wl_call rfl (c_slenX 11 st rfl rfl) rfl ?_
   rintro v21 w ⟨t21, rfl⟩
   have st := st.pure t21
   refine wl_nil ⟨rfl, ?_⟩
   refine fl_val 5 rfl (fun _ => (wl_valD (v_gtr (a := (E.length : Int)) (b := (L.length : Int)) rfl rfl) (q := false) (decide_eq_false (by omega)))) rfl (by kernel_rfl) ?_
   refine fl_nil (by kernel_rfl) ⟨obl_ld rfl rfl rfl (v_load rfl (st.reads (v := .slice ka E.length kc) 4 rfl TF.t40 rfl)), trivial⟩ ?_
   refine then_go ?_
   refine wi_false rfl ?_
   refine wi_skip ?_
   refine then_go ?_
   refine wi_seq ?_
   refine wi_region (by kernel_rfl) (fun _ _ h => h) ?_
   refine wl_val (v_fa TF.f43_0 rfl) rfl ?_
   refine wl_val (v_load rfl (st.reads (v := .slice ka E.length kc) 4 rfl TF.t40 rfl)) rfl ?_
   refine wl_val (v_move' (by conv => (lhs; whnf))) rfl ?_
   refine wl_rwOne (v := .string (strB M[i].1)) Tryz.underlying40 TF.t9 TF.z9 rfl rfl rfl st rfl ?_
   intro b27 w st
   refine wl_rwPut (fun x : By × DV => .string (strB x.1)) 2 (e := (M[i].1, M[i].2, u)) st rfl Tryz.underlying40 TF.t9 TF.z9 rfl rfl rfl rfl (by omega) (by omega) rfl ?_
   intro v28 w st o28
   refine wl_val (v_fa TF.f43_0 rfl) rfl ?_
   refine wl_store1 (v := v28) 4 st rfl TF.t40 rfl rfl o28 (lt_ok rfl) ?_
   intro w st
   refine wl_nil ?_
   refine then_go ?_
   refine wi_region (by kernel_rfl) (fun _ _ h => h) ?_
   refine wl_val (v_fa TF.f43_1 rfl) rfl ?_
   refine wl_val (v_load rfl (st.reads (v := vv) 4 rfl TF.t41 rfl)) rfl ?_
   refine wl_val (v_move' (by conv => (lhs; whnf))) rfl ?_
   refine wl_rwOne (v := u) Tryz.underlying41 TF.t23 TF.z23 rfl hu1 rfl st rfl ?_
   intro b33 w st
   refine wl_rwPut (fun x : By × DV => x.2.2) 3 (e := (M[i].1, M[i].2, u)) st rfl Tryz.underlying41 TF.t23 TF.z23 rfl hu1 rfl rfl (by omega) (by omega) rfl ?_
   intro v34 w st o34
   refine wl_val (v_fa TF.f43_1 rfl) rfl ?_
   refine wl_store1 (v := v34) 4 st rfl TF.t41 rfl rfl o34 (lt_ok rfl) ?_
   intro w st
   refine wl_nil ?_
   refine block_go ?_
   exact ⟨st.at (i := 0) rfl, .inl ⟨rfl, v28, v34, _, hE', o28, o34, st.putObj 0 _ rfl⟩⟩
  rintro e W ⟨v, rfl, ⟨kv, vv, E, hE, o1, o2, st⟩ | hF⟩
  ·have st2 := st.putObj 0 (.loop (rec .exhausted none)) rfl
   rw [List.take_of_length_le (by omega)] at hE
   exact ⟨v, rfl, .ready, none, by simp, st.at (i := 0) rfl, D, l, _, kv, vv, E, rfl, rfl, rfl, rfl, hE, o1, o2, st2⟩
  ·exact hF.elim
 ·clear st
  rintro ds r w ⟨D, l, o, kv, vv, E, rfl, h2, h3, h4, hE, o1, o2, st⟩
  refine wx_of_wc (wc_o 2 h2 (wc_o 3 h3 (wc_o 4 h4 ?_)))
  refine wc_seq ?_
  refine wc_region ?_
  refine wl_val (v_load rfl (st.reads (v := .agg #[kv, vv]) 4 rfl TF.t43 (getV_all rfl))) rfl ?_
  refine wl_storeW (cs := #[kv, vv]) 6 st rfl TF.t43 rfl rfl rfl rfl (by intro u hu; simp at hu; rcases hu with rfl | rfl <;> assumption) ?_
  intro w st
  refine wl_store1 (v := .bool true) 5 st rfl TF.t4 rfl rfl rfl (lt_ok rfl) ?_
  intro w st
  refine wl_nil ?_
  refine then_go ?_
  refine wc_ret ?_
  have hD' := st.at (i := 1) rfl
  have st7 := st.putObj 1 (.deferred none) rfl
  exact retX1 hD' (ret2cc (v := .agg #[kv, vv]) (v' := .bool true) rfl (st7.reads 6 rfl TF.t43 (getV_all rfl)) rfl (st7.reads 5 rfl TF.t4 rfl) ⟨kv, vv, E, m1, rfl, hE, hmm1, ((((((st7.drop 0).drop 0).drop 2).drop 2).drop 2).drop 2)⟩)
end
end Go.Proofs.YtladpaehbolghaaGreat

namespace Go.Proofs.YtladpaehbolghaaGreat
open Go Go.RowKit K SH GC JR OS
open DK hiding By
section
variable {m0 m : Mem} {w0 w : World} {Es : List Ent}
theorem all_keep {kv vv : Value} {E : List (By × DV)} {T : List Ent} (st : St m0 m [] w0 w (ksE kv E :: vsE vv E :: (T ++ (rowsE (E.map (·.2)) ++ Es)))) (h : ∀ x ∈ E, x.1.length ≤ 64 ∧ x.2.1.length ≤ 1048576) :
  ∃ m', (∀ k o, m k = some o → m' k = some o) ∧ KyM m' kv vv E ∧ St m0 m' [] w0 w (T ++ Es) := by
 obtain ⟨m1, hg1, hm1, st1⟩ := st.freezeR (i := 0) rfl (by simp)
 have hk := row_SlM (m := m1) (st.at (i := 0) rfl) hm1
 obtain ⟨m2, hg2, hm2, st2⟩ := st1.freezeR (i := 0) rfl (by simp)
 have hv := row_SlM (m := m2) (st1.at (i := 0) rfl) hm2
 have st3 : St m0 m2 [] w0 w (T ++ (rowsE (E.map (·.2)) ++ Es)) := st2
 have st4 := st3.perm (show List.Perm _ (rowsE (E.map (·.2)) ++ (T ++ Es)) by rw [← List.append_assoc, ← List.append_assoc]; exact List.perm_append_comm.append_right _)
 obtain ⟨m3, hmm3, hP, st5⟩ := rows_freeze (A := E.map (·.2)) st4
 exact ⟨m3, fun k o h => hmm3 k o (hg2.le k o (hg1.le k o h)), ⟨hk.mono fun k o h => hmm3 k o (hg2.le k o h), hv.mono hmm3, fun x hx => ⟨(h x hx).1, (h x hx).2, hP _ (List.mem_map.2 ⟨x, hx, rfl⟩)⟩⟩, st5⟩
theorem kvok_len {L E : List (By × DV)} {M : Kys} (hL : KvOk m L) (hp : M.Perm (kvs L)) (hE : kvs E = M) : ∀ x ∈ E, x.1.length ≤ 64 ∧ x.2.1.length ≤ 1048576 := fun x hx => by
 have h1 : (x.1, x.2.1) ∈ M := by rw [← hE]; exact List.mem_map.2 ⟨x, hx, rfl⟩
 obtain ⟨y, hy, e⟩ := List.mem_map.1 (hp.mem_iff.1 h1)
 have h2 := hL y hy
 have e : (y.1, y.2.1) = (x.1, x.2.1) := e
 rw [Prod.mk.injEq] at e
 rw [← e.1, ← e.2]
 exact ⟨h2.1, h2.2.1⟩
theorem c_like {sb mb g b s n : Nat} {sl : LG} {lv wv kv vv : Value} {S key : By} {N : List (By × Value)} {L G : List (By × DV)}
  (st : St m0 m [] w0 w (lgE g b s n sl lv wv S N (stE sb g mb L Es))) (hL : KvOk m L) (hM : Risen (kvs G)) (hp : (kvs G).Perm (kvs L)) (hl : L.length ≤ 1000000) (hG : KyM m kv vv G) (hk : key.length ≤ 9223372036854775807) :
  Ret Tryz.prog 25 #[.pointer (some ⟨sb, 0, none⟩), .agg #[kv, vv], .string (strB key)] w fun v w' => v = .bool true ∧ ∃ m', (∀ k o, m k = some o → m' k = some o) ∧ St m0 m' [] w0 w' (lgE g b s n sl lv wv S N (stE sb g mb L Es)) := by
 have hGl : G.length = L.length := by have := hp.length_eq; rw [length_kvs, length_kvs] at this; exact this
 have q1 := SlM.one1 hG.1
 have q2 := SlM.one1 hG.2.1
 obtain ⟨ka, kc, va, vc, rfl, rfl, hkc, hvc⟩ := hG.sl
 refine ret_of Tryz.call25 Tryz.func25 rfl Tryz.ntmps25 Tryz.results25 rfl ?_
 refine wc_seq ?_
 refine wc_region ?_
 refine wl_box (v := .agg #[.slice ka G.length kc, .slice va G.length vc]) rfl st rfl ?_
 intro b4 w st
 have st := st.perm (List.perm_middle (l₁ := [_, _, _, _, _])).symm
 have st : St m0 m [] w0 w (lgE g b s n sl lv wv S N (stE sb g mb L (K.blk b4 #[.slice ka G.length kc, .slice va G.length vc] 43 :: Es))) := st
 refine wl_val (v_assign' (by conv => (lhs; whnf))) rfl ?_
 refine wl_nil ?_
 refine then_go ?_
 refine wc_seq ?_
 refine wc_region ?_
 refine wl_val (v_move' (by conv => (lhs; whnf))) rfl ?_
 refine wl_call rfl (c_sallK st hL hM hp hl) rfl ?_
 rintro v15 w ⟨kv2, vv2, E2, m1, rfl, hE2, hmm1, st⟩
 have st : St m0 m1 [] w0 w (ksE kv2 E2 :: vsE vv2 E2 :: (lgE g b s n sl lv wv S N (stE sb g mb L []) ++ (rowsE (E2.map (·.2)) ++ (K.blk b4 #[.slice ka G.length kc, .slice va G.length vc] 43 :: Es)))) := st
 obtain ⟨m2, hmm2, hK2, st⟩ := all_keep st (kvok_len hL hp hE2)
 have p1 := SlM.one1 hK2.1
 have p2 := SlM.one1 hK2.2.1
 have st : St m0 m2 [] w0 w (lgE g b s n sl lv wv S N (stE sb g mb L (K.blk b4 #[.slice ka G.length kc, .slice va G.length vc] 43 :: Es))) := st
 have hmm2 : ∀ k o, m k = some o → m2 k = some o := fun k o h => hmm2 k o (hmm1 k o h)
 refine wl_val (v_move' (by conv => (lhs; whnf))) rfl ?_
 refine wl_val (v_extract rfl rfl) rfl ?_
 refine wl_val (v_extract rfl rfl) rfl ?_
 refine wl_alloc TF.z43 st rfl ?_
 intro b7 w st
 refine wl_storeW (cs := #[kv2, vv2]) 0 st rfl TF.t43 rfl rfl rfl rfl (by intro u hu; simp at hu; rcases hu with rfl | rfl <;> assumption) ?_
 intro w st
 have st := st.perm (List.perm_middle (l₁ := [_, _, _, _, _])).symm
 have st : St m0 m2 [] w0 w (lgE g b s n sl lv wv S N (stE sb g mb L (K.blk b7 #[kv2, vv2] 43 :: K.blk b4 #[.slice ka G.length kc, .slice va G.length vc] 43 :: Es))) := st
 refine wl_val (v_assign' (by conv => (lhs; whnf))) rfl ?_
 refine wl_nil ?_
 refine then_go ?_
 refine wc_seq ?_
 refine wc_region ?_
 refine wl_val (v_move' (by conv => (lhs; whnf))) rfl ?_
 refine wl_val (v_move' (by conv => (lhs; whnf))) rfl ?_
 refine wl_call rfl (c_sget (k := key) st (hL.mono hmm2) hM hp hk) rfl ?_
 rintro v21 w ⟨u, rfl, st⟩
 obtain ⟨m3, hg3, hm3, st3⟩ := st.freezeR (i := 0) rfl (by simp)
 have hu := row_SlM (m := m3) (st.at (i := 0) rfl) hm3
 have st : St m0 m3 [] w0 w (lgE g b s n sl lv wv S N (stE sb g mb L (K.blk b7 #[kv2, vv2] 43 :: K.blk b4 #[.slice ka G.length kc, .slice va G.length vc] 43 :: Es))) := st3
 have hmm3 : ∀ k o, m k = some o → m3 k = some o := fun k o h => hg3.le k o (hmm2 k o h)
 refine wl_val (v_move' (by conv => (lhs; whnf))) rfl ?_
 refine wl_val (v_extract rfl rfl) rfl ?_
 refine wl_val (v_extract rfl rfl) rfl ?_
 refine wl_val (v_assign' (by conv => (lhs; whnf))) rfl ?_
 refine wl_val (v_assign' (by conv => (lhs; whnf))) rfl ?_
 refine wl_nil ?_
 refine then_go ?_
 refine wc_seq ?_
 refine wc_region ?_
 refine wl_val (v_load rfl (st.reads (v := .agg #[.slice ka G.length kc, .slice va G.length vc]) 6 rfl TF.t43 (getV_all rfl))) rfl ?_
 refine wl_val (v_move' (by conv => (lhs; whnf))) rfl ?_
 refine wl_call rfl (c_rget (k := key) st.im (hG.mono hmm3) (by omega) hM) rfl ?_
 rintro v27 w ⟨t27, u2, rfl, hu2⟩
 have st := st.pure t27
 refine wl_val (v_move' (by conv => (lhs; whnf))) rfl ?_
 refine wl_val (v_extract rfl rfl) rfl ?_
 refine wl_val (v_extract rfl rfl) rfl ?_
 refine wl_val (v_assign' (by conv => (lhs; whnf))) rfl ?_
 refine wl_val (v_assign' (by conv => (lhs; whnf))) rfl ?_
 refine wl_nil ?_
 refine then_go ?_
 refine wc_seq ?_
 refine wc_draw TF.mixed ?_
 have st := st.pure (touch_drew _)
 refine fl_val 0 rfl (fun _ => (v_move' (by conv => (lhs; whnf)))) rfl (by kernel_rfl) ?_
 refine fl_val 1 rfl (fun _ => (v_move' (by conv => (lhs; whnf)))) rfl (by kernel_rfl) ?_
 refine fl_on 2 rfl rfl rfl rfl (fun _ => (v_move' (by conv => (lhs; whnf)))) rfl (by kernel_rfl) ?_
 refine fl_on 4 rfl rfl rfl rfl (fun _ => (v_fa TF.f43_0 rfl)) rfl (by kernel_rfl) ?_
 refine fl_ond 5 rfl rfl rfl rfl (v_load rfl (st.reads (v := .slice ka G.length kc) 6 rfl TF.t40 rfl)) rfl (by kernel_rfl) ?_
 refine fl_on 6 rfl rfl rfl rfl (fun _ => (v_len_s Tryz.underlying40 rfl)) rfl (by kernel_rfl) ?_
 refine fl_eff1 3 [6, 4, 0] [5] (by kernel_rfl) ⟨obl_on rfl rfl rfl rfl rfl (v_load rfl (st.reads (v := .slice ka G.length kc) 6 rfl TF.t40 rfl)), trivial⟩ rfl ?_
 refine wl_on rfl rfl ?_
 refine wl_call rfl (c_slen st) rfl ?_
 rintro v33 w ⟨t33, rfl⟩
 have st := st.pure t33
 refine wl_nil ⟨rfl, ?_⟩
 refine fl_on 7 rfl rfl rfl rfl (fun _ => (v_eqlT (a := (L.length : Int)) (b := (G.length : Int)) (by omega) rfl rfl)) rfl (by kernel_rfl) ?_
 refine fl_val 8 rfl (fun _ => (v_pick rfl)) rfl (by kernel_rfl) ?_
 refine fl_val 9 rfl (fun _ => (v_move' (by conv => (lhs; whnf)))) rfl (by kernel_rfl) ?_
 refine fl_ond 10 rfl rfl rfl rfl (v_load rfl (st.reads (v := .agg #[kv2, vv2]) 5 rfl TF.t43 (getV_all rfl))) rfl (by kernel_rfl) ?_
 refine fl_ond 11 rfl rfl rfl rfl (v_load rfl (st.reads (v := .agg #[.slice ka G.length kc, .slice va G.length vc]) 6 rfl TF.t43 (getV_all rfl))) rfl (by kernel_rfl) ?_
 refine fl_eff1 12 [8, 7, 6, 4, 0] [5] (by kernel_rfl) ⟨obl_on rfl rfl rfl rfl rfl (v_load rfl (st.reads (v := .agg #[.slice ka G.length kc, .slice va G.length vc]) 6 rfl TF.t43 (getV_all rfl))), obl_on rfl rfl rfl rfl rfl (v_load rfl (st.reads (v := .agg #[kv2, vv2]) 5 rfl TF.t43 (getV_all rfl))), obl_on rfl rfl rfl rfl rfl (v_load rfl (st.reads (v := .slice ka G.length kc) 6 rfl TF.t40 rfl)), trivial⟩ rfl ?_
 refine wl_on rfl rfl ?_
 refine wl_call rfl (c_samekeys st.im (hK2.mono hg3.le) (hG.mono hmm3) hE2 (by have := congrArg List.length hE2; rw [length_kvs, length_kvs] at this; omega)) rfl ?_
 rintro v42 w ⟨t42, m4, hg4, hi4, rfl⟩
 have st := st.grown hg4 t42 hi4
 refine wl_nil ⟨rfl, ?_⟩
 refine fl_val 13 rfl (fun _ => (v_pick rfl)) rfl (by kernel_rfl) ?_
 refine fl_val 14 rfl (fun _ => (v_move' (by conv => (lhs; whnf)))) rfl (by kernel_rfl) ?_
 refine fl_on 15 rfl rfl rfl rfl (fun _ => (v_move' (by conv => (lhs; whnf)))) rfl (by kernel_rfl) ?_
 refine fl_on 16 rfl rfl rfl rfl (fun _ => (v_move' (by conv => (lhs; whnf)))) rfl (by kernel_rfl) ?_
 refine fl_on 17 rfl rfl rfl rfl (fun _ => (wl_valD (v_eqb Tryz.underlying4 rfl rfl) (q := true) (by simp))) rfl (by kernel_rfl) ?_
 refine fl_val 18 rfl (fun _ => (v_pick rfl)) rfl (by kernel_rfl) ?_
 refine fl_val 19 rfl (fun _ => (v_move' (by conv => (lhs; whnf)))) rfl (by kernel_rfl) ?_
 refine fl_on 20 rfl rfl rfl rfl (fun _ => (v_move' (by conv => (lhs; whnf)))) rfl (by kernel_rfl) ?_
 refine fl_on 21 rfl rfl rfl rfl (fun _ => (v_move' (by conv => (lhs; whnf)))) rfl (by kernel_rfl) ?_
 refine fl_eff1 22 [18, 17, 16, 15, 14, 13, 8, 7, 6, 4, 0] [5] (by kernel_rfl) ⟨obl_on rfl rfl rfl rfl rfl (v_load rfl (st.reads (v := .slice ka G.length kc) 6 rfl TF.t40 rfl)), trivial⟩ rfl ?_
 refine wl_on rfl rfl ?_
 refine wl_call rfl (c_same17 st.im (hu.mono hg4.le) (hu2.mono hg4.le)) rfl ?_
 rintro v52 w ⟨t52, rfl⟩
 have st := st.pure t52
 rw [decide_eq_true rfl]
 refine wl_nil ⟨rfl, ?_⟩
 refine fl_val 23 rfl (fun _ => (v_pick rfl)) rfl (by kernel_rfl) ?_
 refine fl_eff1 24 [] [] (by kernel_rfl) ⟨obl_on rfl rfl rfl rfl rfl (v_load rfl (st.reads (v := .slice ka G.length kc) 6 rfl TF.t40 rfl)), trivial⟩ rfl ?_
 refine wl_val (v_assign' (by conv => (lhs; whnf))) rfl ?_
 refine wl_nil ⟨rfl, ?_⟩
 refine fl_nil (by kernel_rfl) trivial ?_
 refine then_go ?_
 refine wc_ret ?_
 exact ret1 rfl ⟨rfl, m4, fun k o h => hg4.le k o (hmm3 k o h), (st.drop 5).drop 5⟩
end
end Go.Proofs.YtladpaehbolghaaGreat

namespace Go.Proofs.YtladpaehbolghaaGreat
open Go Go.RowKit K SH DK JR
end Go.Proofs.YtladpaehbolghaaGreat

namespace Go.Proofs.YtladpaehbolghaaGreat
open Go Go.RowKit K SH GC JR OS
open DK hiding By
theorem apply_facts {M : Kys} {R : List By} {A : List Ac} {n : Nat} (h : Risen M) : Risen (applyR M R A n).1 ∧ bulkK (applyR M R A n).1 ≤ bulkK M + bulkA A ∧ (applyR M R A n).1.length ≤ M.length + A.length := by
 have h1 := bulk_done (M := M) (A := A)
 have h2 := doneS_rise (A := A) h
 unfold applyR
 split
 ·exact ⟨h, by show bulkK M ≤ _; omega, by show M.length ≤ _; omega⟩
 ·split
  ·exact ⟨h2, h1.1, h1.2⟩
  ·split
   ·exact ⟨h, by show bulkK M ≤ _; omega, by show M.length ≤ _; omega⟩
   ·exact ⟨h2, h1.1, h1.2⟩
theorem ofR_app : ∀ {R : List By} {M M' : Kys} {x : By} {A : List Ac}, ofR M R = some M' → batR x = some A → ofR M (R ++ [x]) = some (doneS M' A)
 | [], M, M', x, A, h, hx => by cases h; simp only [List.nil_append, ofR, hx]
 | y :: R, M, M', x, A, h, hx => by
  rw [ofR] at h
  split at h
  ·cases h
  ·rename_i B hB
   simp only [List.cons_append, ofR, hB]
   exact ofR_app h hx
theorem done_acts : ∀ {M P : Kys}, Risen (P ++ M) → doneS P (actsOf M) = P ++ M
 | [], P, _ => by simp [doneS, actsOf]
 | x :: M, P, h => by
  have e : oneS P ⟨x.1, true, x.2⟩ = P ++ [x] := by
   have h1 : ∀ y ∈ P, y.1 < x.1 := fun y hy => by
    unfold Risen at h
    rw [List.map_append, List.pairwise_append] at h
    exact h.2.2 y.1 (List.mem_map.2 ⟨y, hy, rfl⟩) x.1 (by simp)
   unfold oneS
   rw [if_pos rfl, List.filter_eq_self.2 (fun y hy => decide_eq_true (h1 y hy)), List.filter_eq_nil_iff.2 (fun y hy h => List.lt_irrefl _ (List.lt_trans (h1 y hy) (of_decide_eq_true h)))]
   rfl
  have h2 : doneS P (actsOf (x :: M)) = doneS (oneS P ⟨x.1, true, x.2⟩) (actsOf M) := rfl
  rw [h2, e, done_acts (by rw [List.append_assoc]; exact h), List.append_assoc]
  rfl
theorem okL_of {A : List Ac} (h : chkL A = 0) : okL A := by
 unfold chkL at h
 split at h
 ·assumption
 ·cases h
theorem apply_of {M : Kys} {R : List By} {A : List Ac} {n : Nat} (h : Risen M) (ho : ofR [] R = some M) : ofR [] (applyR M R A n).2.1 = some (applyR M R A n).1 := by
 unfold applyR
 split
 ·exact ho
 ·rename_i hc
  have hok : okL A := okL_of (Decidable.not_not.1 fun h => hc (.inl h))
  split
  ·exact ofR_app ho (batR_batB hok)
  ·split
   ·exact ho
   ·rename_i hc2
    have hok2 := okL_of (Decidable.not_not.1 fun h => hc2 (.inl h))
    show ofR [] (anewOf (doneS M A)) = some (doneS M A)
    unfold anewOf
    split
    ·rename_i h0; rw [h0]; rfl
    ·have := ofR_app (R := []) (M := []) (x := batB (actsOf (doneS M A))) rfl (batR_batB hok2)
     rw [done_acts (P := []) (M := doneS M A) (doneS_rise h)] at this
     exact this
structure Sh (m : Mem) (i n : Nat) (S : By) (sl : LG) (kv vv nv : Value) (G : List (By × DV)) (NR N : List (By × Value)) (L : List (By × DV)) : Prop where
 ky : KyM m kv vv G
 ri : Risen (kvs G)
 pn : PcsM m nv NR
 eq : NR.map (·.1) = N.map (·.1)
 nl : ∀ y ∈ NR, y.1.length ≤ 1048576
 pc : Pcs m N
 kv : KvOk m L
 pe : (kvs G).Perm (kvs L)
 lg : LogOk n S sl (N.map (·.1))
 gn : sl.gen.toNat ≤ 1 + 2 * i
 bk : bulkK (kvs G) ≤ i * 20000
 ln : G.length ≤ i * 60
 rc : ofR [] (N.map (·.1)) = some (kvs G)
theorem Sh.mono {m m' : Mem} {i n : Nat} {S : By} {sl : LG} {kv vv nv : Value} {G L : List (By × DV)} {NR N : List (By × Value)} (h : Sh m i n S sl kv vv nv G NR N L) (hm : ∀ k o, m k = some o → m' k = some o) : Sh m' i n S sl kv vv nv G NR N L :=
 ⟨h.ky.mono hm, h.ri, PcsM.mono h.pn hm, h.eq, h.nl, h.pc.mono hm, h.kv.mono hm, h.pe, h.lg, h.gn, h.bk, h.ln, h.rc⟩
theorem Sh.few {m : Mem} {i n : Nat} {S : By} {sl : LG} {kv vv nv : Value} {G L : List (By × DV)} {NR N : List (By × Value)} (h : Sh m i n S sl kv vv nv G NR N L) : NR.length ≤ 100000 ∧ L.length = G.length := by
 have h1 := sizeL_ge (l := N.map (·.1))
 have h2 := h.lg.fit
 have h3 := h.lg.nle
 have h4 := congrArg List.length h.eq
 rw [List.length_map, List.length_map] at h4
 rw [List.length_map] at h1
 have h5 := h.pe.length_eq
 rw [length_kvs, length_kvs] at h5
 exact ⟨by omega, h5.symm⟩
theorem Sh.first {m : Mem} {n : Nat} {S : By} {sl : LG} (hl : LogOk n S sl []) (hg : sl.gen = 1) : Sh m 0 n S sl (.slice none 0 0) (.slice none 0 0) (.slice none 0 0) [] [] [] [] :=
 ⟨KyM.nil, by simp [Risen], ⟨SlM.nil, by simp⟩, rfl, by simp, (fun _ h => by cases h), (fun _ h => by cases h), List.Perm.refl _, hl, by rw [hg]; decide, by simp [bulkK], by simp, rfl⟩
theorem Sh.next {m m3 : Mem} {i n a : Nat} {S S2 : By} {sl sl2 : LG} {kv vv nv kv2 vv2 nv2 : Value} {G L G2 L2 : List (By × DV)} {NR N NR2 N2 : List (By × Value)} {A : List Ac} (h : Sh m i n S sl kv vv nv G NR N L)
  (hE2 : KyM m3 kv2 vv2 G2) (hN2 : PcsM m3 nv2 NR2) (hap : applyR (kvs G) (NR.map (·.1)) A n = (kvs G2, NR2.map (·.1), a)) (hnl : ∀ y ∈ NR2, y.1.length ≤ 1048576)
  (hNe : N2.map (·.1) = (applyR (kvs G) (N.map (·.1)) A n).2.1) (hlg : LogOk n S2 sl2 (N2.map (·.1))) (hgn : sl2.gen.toNat ≤ sl.gen.toNat + 2) (hkv : KvOk m3 L2) (hpe : (applyR (kvs G) (N.map (·.1)) A n).1.Perm (kvs L2)) (hpc : Pcs m3 N2) (hb : bulkA A ≤ 20000) (hl : A.length ≤ 60) :
  Sh m3 (i + 1) n S2 sl2 kv2 vv2 nv2 G2 NR2 N2 L2 := by
 have hf := apply_facts (R := NR.map (·.1)) (A := A) (n := n) h.ri
 rw [hap] at hf
 rw [← h.eq, hap] at hNe hpe
 obtain ⟨f1, f2, f3⟩ := hf
 have h1 := h.bk
 have h2 := h.ln
 have h3 := h.gn
 have f2 : bulkK (kvs G2) ≤ bulkK (kvs G) + bulkA A := f2
 have f3 : (kvs G2).length ≤ (kvs G).length + A.length := f3
 rw [length_kvs, length_kvs] at f3
 refine ⟨hE2, f1, hN2, hNe.symm, hnl, hpc, hkv, hpe, hlg, by omega, by omega, by omega, ?_⟩
 have hr := apply_of (A := A) (n := n) h.ri (h.eq ▸ h.rc)
 rw [hap] at hr
 rw [hNe]
 exact hr
end Go.Proofs.YtladpaehbolghaaGreat

namespace Go.Proofs.YtladpaehbolghaaGreat
open Go Go.RowKit K SH GC JR OS
open DK hiding By
section
variable {m0 m : Mem} {w0 w : World} {Es : List Ent}
theorem melt1 {v : Value} {e size n : Nat} {xs : List Value} (st : St m0 m [] w0 w (rowE v e size n xs :: Es)) :
  ∃ m', (∀ k o, m k = some o → m' k = some o) ∧ SlM m' v size n xs ∧ St m0 m' [] w0 w Es ∧ ∀ m3 w' Es', (∀ k o, m' k = some o → m3 k = some o) → St m0 m3 [] w0 w' Es' → ∃ m4, (∀ k o, m k = some o → m4 k = some o) ∧ (∀ k o, m3 k = some o → m' k = none → m4 k = some o) ∧ St m0 m4 [] w0 w' (rowE v e size n xs :: Es') := by
 have hh := st.at (i := 0) rfl
 rcases hh.2 with ⟨rfl, hn⟩ | ⟨g, cap, cur, rfl, _, hg, hk, hm, hc, hx⟩
 ·subst hn
  have hxs : xs = [] := List.eq_nil_of_length_eq_zero (by have := hh.1; simpa using this)
  subst hxs
  exact ⟨m, fun _ _ h => h, SlM.nil, st.drop 0, fun m3 w' Es' h3 st3 => ⟨m3, h3, fun _ _ h _ => h, nilRow st3 e size⟩⟩
 ·have stb : St m0 m [] w0 w (blk g cur e :: Es) := st.step 0 rfl ⟨rfl, rfl, rfl, Nat.le_refl _, fun _ _ _ => rfl, fun k hk => .inl (by simpa [rowE, Value.ownBlock, blk] using hk)⟩ hg
  have hown := stb.own (blk g cur e) (by simp) g (by simp [blk])
  have hB : w0.heap.size ≤ g := hown.2.resolve_right (by simp)
  have h0 : m0 g = none := by
   rcases h : m0 g with _ | o
   ·rfl
   ·have := st.grow.le g o h
    rw [hown.1] at this
    cases this
  obtain ⟨m', h1, h2, h3⟩ := stb.freeze (i := 0) (b := g) (c := cur) (t := e) rfl (by simp)
  have hs : SlM m' (.slice (some ⟨g, 0, none⟩) n cap) size n xs := row_SlM (m := m') hh fun k o hk ho => by
   simp only [Value.ownBlock, Option.some.injEq] at hk
   subst hk
   rw [hg] at ho
   rw [← ho]
   exact h2
  refine ⟨m', h1.le, hs, h3, fun m3 w' Es' hm3 st3 => ⟨_, fun k o hk => ?_, fun k o hk hk' => ?_, (st3.thaw (hm3 _ _ h2) h0 hB).rowShut 0 (k := n) (cap := cap) (size := size) (xs := xs) rfl hk hc (by unfold maxLen at hm; omega) hx⟩⟩
  ·have : k ≠ g := fun e => by rw [e, hown.1] at hk; cases hk
   simp [this, hm3 k o (h1.le k o hk)]
  ·have : k ≠ g := fun e => by rw [e, h2] at hk'; cases hk'
   simp [this, hk]
theorem rows_melt : ∀ {D : List (By × Value)} {m : Mem} {Es : List Ent}, St m0 m [] w0 w (rowsE D ++ Es) →
  ∃ m', (∀ k o, m k = some o → m' k = some o) ∧ Pcs m' D ∧ St m0 m' [] w0 w Es ∧ ∀ m3 w' Es', (∀ k o, m' k = some o → m3 k = some o) → St m0 m3 [] w0 w' Es' → ∃ m4, (∀ k o, m k = some o → m4 k = some o) ∧ (∀ k o, m3 k = some o → m' k = none → m4 k = some o) ∧ St m0 m4 [] w0 w' (rowsE D ++ Es') := by
 intro D
 induction h : D.length generalizing D with
 | zero =>
  intro m Es st
  have hD : D = [] := List.eq_nil_of_length_eq_zero h
  subst hD
  exact ⟨m, fun _ _ h => h, (by intro x hx; cases hx), st, fun m3 w' Es' h3 st3 => ⟨m3, h3, fun _ _ h _ => h, st3⟩⟩
 | succ k ih =>
  intro m Es st
  obtain ⟨B, x, rfl⟩ : ∃ B x, D = B ++ [x] := ⟨D.dropLast, D.getLast (by intro e; rw [e] at h; cases h), (List.dropLast_concat_getLast _).symm⟩
  have e : ∀ Es : List Ent, rowsE (B ++ [x]) ++ Es = byE x.2 x.1 :: (rowsE B ++ Es) := fun Es => by simp [rowsE]
  rw [e] at st
  obtain ⟨m1, h1, hs, st1, t1⟩ := melt1 st
  obtain ⟨m2, h2, hP, st2, t2⟩ := ih (D := B) (by simpa using h) st1
  refine ⟨m2, fun k o h => h2 k o (h1 k o h), hP.snoc (hs.mono h2), st2, fun m3 w' Es' h3 st3 => ?_⟩
  obtain ⟨m4, h4, h5, st4⟩ := t2 m3 w' Es' h3 st3
  obtain ⟨m5, h6, h7, st5⟩ := t1 m4 w' _ h4 st4
  refine ⟨m5, h6, fun k o hk hk' => h7 k o (h5 k o hk hk') ?_, by rw [e]; exact st5⟩
  rcases hm : m1 k with _ | o'
  ·rfl
  ·rw [h2 k o' hm] at hk'; cases hk'
theorem apart_left {m' m3 m4 : Mem} {v : Value} {l : By} (h : Apart m' m3 v l) (hk : ∀ k o, m3 k = some o → m' k = none → m4 k = some o) : SlM m4 v 1 l.length (bs l) := by
 obtain ⟨m1, h1, h2⟩ := h
 exact h2.mono fun k o h => hk k o (h1 k o h).1 (h1 k o h).2
end
end Go.Proofs.YtladpaehbolghaaGreat

namespace Go.Proofs.YtladpaehbolghaaGreat
open Go Go.RowKit K SH GC JR OS
open DK hiding By
def byX (v : Value) (n : Nat) : Ent where
 foot := v.ownBlock.toList
 holds := fun w => ∃ X : By, X.length = n ∧ (byE v X).holds w
 keep := fun {w w'} h ⟨X, hl, hX⟩ => ⟨X, hl, (byE v X).keep h hX⟩
 live := fun ⟨X, _, hX⟩ => (byE v X).live hX
section
variable {m0 m : Mem} {F : List Nat} {w0 w : World} {Es : List Ent}
theorem K.St.loose (st : St m0 m F w0 w Es) (i : Nat) {v : Value} {X : By} (hi : Es[i]? = some (byE v X)) : St m0 m F w0 w (Es.set i (byX v X.length)) :=
 st.step i hi ⟨rfl, rfl, rfl, Nat.le_refl _, fun _ _ _ => rfl, fun _ h => .inl h⟩ ⟨X, rfl, st.at hi⟩
theorem K.St.firm (st : St m0 m F w0 w Es) (i : Nat) {v : Value} {n : Nat} (hi : Es[i]? = some (byX v n)) : ∃ X : By, X.length = n ∧ St m0 m F w0 w (Es.set i (byE v X)) := by
 obtain ⟨X, hl, hX⟩ := st.at hi
 exact ⟨X, hl, st.step i hi ⟨rfl, rfl, rfl, Nat.le_refl _, fun _ _ _ => rfl, fun _ h => .inl h⟩ hX⟩
theorem byX_SlM (st : St m0 m F w0 w Es) (i : Nat) {v : Value} {n : Nat} (hi : Es[i]? = some (byX v n)) : ∃ X : By, X.length = n ∧ SlM (heapM w) v 1 X.length (bs X) := by
 obtain ⟨X, hl, hX⟩ := st.at hi
 exact ⟨X, hl, row_SlM (m := heapM w) hX fun _ _ _ h => h⟩
theorem K.St.turn (st : St m0 m F w0 w Es) (i : Nat) {v : Value} {n k : Nat} (hi : Es[i]? = some (byX v n)) (hk : k < n) :
  ∃ (g cap : Nat) (C : Array Value) (c : UInt8), v = .slice (some ⟨g, 0, Option.none⟩) n cap ∧ St m0 m F w0 w (Es.set i (K.blk g C 5)) ∧ k < C.size ∧ getV false 1 C k = some (u8 c) ∧
   ∀ (w' : World) (c' : UInt8), St m0 m F w0 w' (Es.set i (K.blk g (C.setIfInBounds k (u8 c')) 5)) → St m0 m F w0 w' Es := by
 have hlt : i < Es.length := by
  rcases Nat.lt_or_ge i Es.length with h | h
  ·exact h
  ·rw [List.getElem?_eq_none h] at hi; cases hi
 obtain ⟨X, hl, st1⟩ := st.firm i hi
 subst hl
 obtain ⟨g, cap, sp, hv, hc, hs, hc63, st2⟩ := st1.rowOpen i (List.getElem?_set_self hlt) (by omega)
 rw [List.set_set] at st2
 have hB : bs X ++ sp = bs (X.take k) ++ u8 X[k] :: (bs (X.drop (k + 1)) ++ sp) := by
  have e : bs X = bs (X.take k ++ X[k] :: X.drop (k + 1)) := by rw [← List.drop_eq_getElem_cons hk, List.take_append_drop]
  rw [e]
  simp only [bs, List.map_append, List.map_cons, List.append_assoc, List.cons_append]
 refine ⟨g, cap, _, X[k], hv, st2, by simp [length_bs]; omega, getV_lst (b := []) (a := bs (X.take k)) (c := bs (X.drop (k + 1)) ++ sp) hB (by rw [length_bs, List.length_take]; omega), fun w' c' st3 => ?_⟩
 obtain ⟨X2, hX2⟩ : ∃ X2, X2 = X.set k c' := ⟨_, rfl⟩
 have hX2l : X2.length = X.length := by rw [hX2, List.length_set]
 have e22 : (bs X ++ sp).toArray.setIfInBounds k (u8 c') = (bs X2 ++ sp).toArray := by
  apply Array.ext'
  simp only [Array.toList_setIfInBounds]
  rw [List.set_append_left _ _ (by rw [length_bs]; exact hk), hX2]
  simp [bs, List.map_set]
 rw [e22] at st3
 have st4 := st3.rowShut i (b := g) (k := X2.length) (cap := cap) (size := 1) (xs := bs X2) (List.getElem?_set_self hlt) (by omega) (by simpa [hX2l, bs] using hs) hc63 (by simp [← length_bs X2])
 rw [List.set_set] at st4
 have hrow : rowE (.slice (some ⟨g, 0, Option.none⟩) X2.length cap) 5 1 X2.length (bs X2) = byE v X2 := by unfold byE; rw [hv, hX2l]
 rw [hrow] at st4
 have st5 := st4.loose i (List.getElem?_set_self hlt)
 rw [List.set_set, hX2l] at st5
 have e : Es.set i (byX v X.length) = Es := by
  apply List.ext_getElem?
  intro j
  rw [List.getElem?_set]
  split
  ·rename_i h; subst h; first | rw [if_pos hlt, hi] | exact hi.symm
  ·rfl
 rw [e] at st5
 exact st5
end
end Go.Proofs.YtladpaehbolghaaGreat

namespace Go.Proofs.YtladpaehbolghaaGreat
open Go Go.RowKit K SH GC JR OS
open DK hiding By
theorem v_add8 {P : Program} {r : Fr} {w : World} {ty T U : TypeId} {x y : Operand} {a b : UInt8} (hx : ev r x = u8 a) (hy : ev r y = u8 b) : Val P (.binOp .add T x y U) ty r w (u8 (a + b)) w := by
 have h := v_add (P := P) (w := w) (ty := ty) (T := T) (U := U) hx hy
 have e : IntKind.u8.wrap ((a.toNat : Int) + (b.toNat : Int)) = ((a + b).toNat : Int) := by
  rw [show (a.toNat : Int) + (b.toNat : Int) = ((a.toNat + b.toNat : Nat) : Int) by omega, wrap_u8, UInt8.toNat_add, UInt8.toNat_ofNat']
 rw [e] at h
 exact h
abbrev rwN (A : List (By × Value)) : List Ent := A.map fun x => byE x.2 x.1
abbrev rwX (A : List (By × Value)) : List Ent := A.map fun x => byX x.2 x.1.length
section
variable {m0 m : Mem} {F : List Nat} {w0 w wI : World} {Es : List Ent}
theorem rows_loose : ∀ {D : List (By × Value)} {P : List Ent}, St m0 m F w0 w (P ++ (rwN D ++ Es)) → St m0 m F w0 w (P ++ (rwX D ++ Es))
 | [], _, st => st
 | x :: D, P, st => by
  have st1 := st.loose P.length (v := x.2) (X := x.1) (by rw [List.getElem?_append_right (Nat.le_refl _), Nat.sub_self]; rfl)
  have e : (P ++ (rwN (x :: D) ++ Es)).set P.length (byX x.2 x.1.length) = (P ++ [byX x.2 x.1.length]) ++ (rwN D ++ Es) := by
   rw [List.set_append_right _ _ (Nat.le_refl _), Nat.sub_self]
   simp
  rw [e] at st1
  have st2 := rows_loose st1
  rw [List.append_assoc] at st2
  exact st2
theorem rwX_at {D : List (By × Value)} {i : Nat} (hi : i < D.length) : (rwX D ++ Es)[i]? = some (byX D[i].2 D[i].1.length) := by
 rw [List.getElem?_append_left (by simpa using hi), List.getElem?_map, List.getElem?_eq_getElem hi]
 rfl
theorem val_rd {vv : Value} {E : List (By × DV)} (h : SlM m vv 1 E.length (E.map fun x : By × DV => x.2.2)) {i : Nat} (hi : i < E.length) : ∃ b o c, vv = .slice (some ⟨b, o, none⟩) E.length c ∧ ∀ {w : World} (_ : Im m w), Reads Tryz.prog w 23 ⟨b, o + i * 1, none⟩ E[i].2.2 := by
 obtain ⟨b, o, c, hv, _, hr⟩ := h.elem Tryz.prog (i := i) hi (by omega)
 refine ⟨b, o, c, hv, fun {w} him => ?_⟩
 have := hr him (off := 0) (v' := E[i].2.2) TF.t23 (by
  have e : cellsAt (kval E) 1 i = [E[i].2.2] := by simp [cellsAt, List.drop_eq_getElem_cons, hi]
  rw [e]
  rfl)
 simpa using this
abbrev datR (B : List AcT) : List (By × Value) := B.map fun a => (a.1.data, a.2)
theorem c_storeOwn {z : Int} {lv : Value} {A : List AcT} {key : By} (him : Im m wI) (hA : AcsM m lv A) (hs : ShortA A) (hk : key.length ≤ 9223372036854775807) :
  Ret Tryz.prog 5 #[.int .i64 z, lv, .string (strB key)] wI fun v w' => Tch wI w' [] [] ∧ v = .bool true := by
 have st := St.start him
 obtain ⟨la, lc, rfl⟩ := hA.1.sl
 refine ret_of Tryz.call5 Tryz.func5 rfl Tryz.ntmps5 Tryz.results5 rfl ?_
 refine wc_seq ?_
 refine wc_region ?_
 refine wl_val (v_assign' (by conv => (lhs; whnf))) rfl ?_
 refine wl_nil ?_
 refine then_go ?_
 refine wc_seq ?_
 refine wc_region ?_
 refine wl_val (v_move' (by conv => (lhs; whnf))) rfl ?_
 refine wl_call rfl (c_fresh15 st) rfl ?_
 rintro v24 w ⟨m1, db, dk, wv, g, glv, sb, mb, n, S, sl, hn8, hn47, hlg, hgen, hmm1, rfl, st⟩
 have hA := hA.mono hmm1
 refine wl_val (v_move' (by conv => (lhs; whnf))) rfl ?_
 refine wl_val (v_extract rfl rfl) rfl ?_
 refine wl_val (v_extract rfl rfl) rfl ?_
 refine wl_val (v_assign' (by conv => (lhs; whnf))) rfl ?_
 refine wl_val (v_assign' (by conv => (lhs; whnf))) rfl ?_
 refine wl_nil ?_
 refine then_go ?_
 refine wc_seq ?_
 refine wc_seq ?_
 refine wc_region ?_
 refine wl_val (v_move' (by conv => (lhs; whnf))) rfl ?_
 refine wl_val (v_eq_nil (p := some ⟨db, 0, none⟩) Tryz.underlying35 rfl rfl) rfl ?_
 refine wl_val (v_move' (by conv => (lhs; whnf))) rfl ?_
 refine wl_on rfl rfl ?_
 refine wl_val (v_move' (by conv => (lhs; whnf))) rfl ?_
 refine wl_on rfl rfl ?_
 refine wl_val (v_eq_nil (p := some ⟨sb, 0, none⟩) Tryz.underlying36 rfl rfl) rfl ?_
 refine wl_val (v_pick rfl) rfl ?_
 refine wl_nil ?_
 refine then_go ?_
 refine wc_false rfl ?_
 refine wc_skip ?_
 refine then_go ?_
 refine wc_seq ?_
 refine wc_seq ?_
 refine wc_region ?_
 refine wl_val (v_move' (by conv => (lhs; whnf))) rfl ?_
 refine wl_call rfl (c_light st.im hA hs) rfl ?_
 rintro v35 w ⟨t35, cf, rfl, hfew⟩
 have st := st.pure t35
 refine wl_val (v_not rfl) rfl ?_
 refine wl_nil ?_
 refine then_go ?_
 refine wc_cond rfl (fun h36 => ?_) (fun h36 => ?_)
 ·refine wc_seq ?_
  refine wc_region ?_
  refine wl_call rfl (c_works15 (Es := []) (st.keepOnly (List.nil_sublist _))) rfl ?_
  rintro vw w ⟨⟨mw, hmw, st⟩, rfl⟩
  refine wl_val (v_assign' (by conv => (lhs; whnf))) rfl ?_
  refine wl_nil ?_
  refine then_go ?_
  refine wc_ret (then_ret ?_)
  exact ret1 rfl ⟨st.touch, rfl⟩
 ·refine wc_skip ?_
  refine then_go ?_
  refine wc_seq ?_
  obtain ⟨hA60, hAb⟩ := hfew (by simpa using h36)
  refine wc_region ?_
  refine wl_val (v_assign' (by conv => (lhs; whnf))) rfl ?_
  refine wl_nil ?_
  refine then_go ?_
  refine wc_seq ?_
  refine wc_seq ?_
  refine wc_region ?_
  refine wl_val (v_assign' (by conv => (lhs; whnf))) rfl ?_
  refine wl_nil ?_
  refine then_go ?_
  refine wc_block ?_
  have st := nilRow st 57 3
  have st := st.perm (List.perm_middle (l₁ := [_, _, _, _, _])).symm
  have st : St m m1 [] wI _ (lgE g db dk n sl glv wv S [] (stE sb g mb [] (acE (.slice none 0 0) [] :: rowsE (datR [])))) := st
  refine wc_loop (S := Nat) (fun q r w' => ∃ (i : Nat) (ov : Value) (B : List AcT), q + i = A.length ∧ r 1 = .slice la A.length lc ∧ r 2 = .string (strB key) ∧ r 7 = .pointer (some ⟨db, 0, none⟩) ∧ r 8 = .pointer (some ⟨sb, 0, none⟩) ∧ r 9 = ov ∧ r 10 = .int .i64 i ∧ B.map (·.1) = (A.take i).map (·.1) ∧ (∀ b ∈ B, b.2.oneCell' = true) ∧ St m m1 [] wI w' (lgE g db dk n sl glv wv S [] (stE sb g mb [] (acE ov B :: rowsE (datR B))))) id A.length ⟨0, _, [], by omega, rfl, rfl, rfl, rfl, rfl, rfl, rfl, by simp, st⟩ ?_
  clear st
  rintro q r w2 ⟨i, ov, B, hqi, g1, g2, g7, g8, g9, g10, hBA, hB1, st⟩
  refine wc_o 1 g1 (wc_o 2 g2 (wc_o 7 g7 (wc_o 8 g8 (wc_o 9 g9 (wc_o 10 g10 ?_)))))
  refine wc_seq ?_
  refine wc_seq ?_
  refine wc_region ?_
  refine wl_val (v_move' (by conv => (lhs; whnf))) rfl ?_
  refine wl_val (v_move' (by conv => (lhs; whnf))) rfl ?_
  refine wl_val (v_len_s Tryz.underlying22 rfl) rfl ?_
  refine wl_val (v_lss rfl rfl) rfl ?_
  refine wl_nil ?_
  refine then_go ?_
  refine wc_if rfl (fun h41 => ?_) (fun h41 => ?_)
  ·refine wc_skip ?_
   refine then_go ?_
   refine wc_seq ?_
   refine wc_block ?_
   have hi : i < A.length := by omega
   obtain ⟨lb, lo, da, dc, hla, hd, _, hrk, hrs, hrd⟩ := hA.at hi
   subst hla
   have hok : AcOk m1 A[i].1 A[i].2 := hA.2 _ (List.getElem_mem hi)
   have hdl := (hs.2 _ (List.getElem_mem hi)).2
   have hBl : B.length = i := by have := congrArg List.length hBA; rw [List.length_map, List.length_map, List.length_take] at this; omega
   refine wc_draw TF.mixed ?_
   have st := st.pure (touch_drew _)
   refine fl_val 0 rfl (fun _ => (v_move' (by conv => (lhs; whnf)))) rfl (by kernel_rfl) ?_
   refine fl_val 1 rfl (fun _ => (v_move' (by conv => (lhs; whnf)))) rfl (by kernel_rfl) ?_
   refine fl_val 2 rfl (fun _ => (v_move' (by conv => (lhs; whnf)))) rfl (by kernel_rfl) ?_
   refine fl_val 3 rfl (fun _ => (v_ias i Tryz.underlying22 TF.t57 rfl rfl (by first | rfl | omega) (by first | omega | (dsimp only at *; omega)))) rfl (by kernel_rfl) ?_
   refine fl_val 4 rfl (fun _ => (v_fa TF.f57_0 rfl)) rfl (by kernel_rfl) ?_
   refine fl_ld 5 rfl (v_load rfl (hrk st.im)) (by kernel_rfl) ?_
   refine fl_val 6 rfl (fun _ => (v_move' (by conv => (lhs; whnf)))) rfl (by kernel_rfl) ?_
   refine fl_val 7 rfl (fun _ => (v_move' (by conv => (lhs; whnf)))) rfl (by kernel_rfl) ?_
   refine fl_val 8 rfl (fun _ => (v_ias i Tryz.underlying22 TF.t57 rfl rfl (by first | rfl | omega) (by first | omega | (dsimp only at *; omega)))) rfl (by kernel_rfl) ?_
   refine fl_val 9 rfl (fun _ => (v_fa TF.f57_1 rfl)) rfl (by kernel_rfl) ?_
   refine fl_ld 10 rfl (v_load rfl (hrs st.im)) (by kernel_rfl) ?_
   refine fl_val 12 rfl (fun _ => (v_move' (by conv => (lhs; whnf)))) rfl (by kernel_rfl) ?_
   refine fl_val 13 rfl (fun _ => (v_move' (by conv => (lhs; whnf)))) rfl (by kernel_rfl) ?_
   refine fl_val 14 rfl (fun _ => (v_ias i Tryz.underlying22 TF.t57 rfl rfl (by first | rfl | omega) (by first | omega | (dsimp only at *; omega)))) rfl (by kernel_rfl) ?_
   refine fl_val 15 rfl (fun _ => (v_fa TF.f57_2 rfl)) rfl (by kernel_rfl) ?_
   refine fl_ld 16 rfl (v_load rfl (hrd st.im)) (by kernel_rfl) ?_
   refine fl_eff1 11 [15, 14, 13, 12, 9, 8, 7, 6, 4, 3, 2, 1, 0] [16, 10, 5] (by kernel_rfl) ⟨obl_ld rfl rfl rfl (v_load rfl (hrd st.im)), obl_ld rfl rfl rfl (v_load rfl (hrs st.im)), obl_ld rfl rfl rfl (v_load rfl (hrk st.im)), trivial⟩ rfl ?_
   refine wl_buildSlice0 (size := 1) Tryz.underlying23 TF.t5 st rfl ?_
   intro v55 w st
   have st : St m m1 [] wI w (byE v55 [] :: lgE g db dk n sl glv wv S [] (stE sb g mb [] (acE ov B :: rowsE (datR B)))) := st
   refine wl_nil ⟨rfl, ?_⟩
   refine fl_eff1 17 [15, 14, 13, 12, 9, 8, 7, 6, 4, 3, 2, 1, 0] [10, 5] (by kernel_rfl) ⟨obl_ld rfl rfl rfl (v_load rfl (hrd st.im)), obl_ld rfl rfl rfl (v_load rfl (hrs st.im)), obl_ld rfl rfl rfl (v_load rfl (hrk st.im)), trivial⟩ rfl ?_
   refine wl_appB (l := []) (l2 := A[i].1.data) st Tryz.underlying23 Tryz.underlying23 (.inr ⟨_, rfl⟩) TF.t5 TF.z5 rfl rfl (hok.data.src st.im (one_bs _)) (by simp; omega) (by simp; omega) rfl ?_
   intro v61 w st o61
   rw [List.nil_append] at st
   obtain ⟨e, he⟩ : ∃ e : AcT, e = (A[i].1, v61) := ⟨_, rfl⟩
   refine wl_nil ⟨rfl, ?_⟩
   refine fl_val 18 rfl (fun _ => (v_build (c' := (acC A[i].1 v61).toArray) [(0, .string (strB A[i].1.key)), (1, .bool A[i].1.set), (2, v61)] TF.z57 TF.p57 rfl (fill_one [] [.string ⟨#[]⟩] [.bool false, .slice none 0 0] rfl rfl rfl (fill_one [.string (strB A[i].1.key)] [.bool false] [.slice none 0 0] rfl rfl rfl (fill_one [.string (strB A[i].1.key), .bool A[i].1.set] [.slice none 0 0] [] rfl rfl (by rw [cells_one o61]; rfl) (by rw [cells_one o61]; rfl)))))) rfl (by kernel_rfl) ?_
   refine fl_eff1 19 [15, 14, 13, 12, 9, 8, 7, 6, 4, 3, 2, 1, 0] [10, 5] (by kernel_rfl) ⟨obl_ld rfl rfl rfl (v_load rfl (hrs st.im)), obl_ld rfl rfl rfl (v_load rfl (hrk st.im)), trivial⟩ rfl ?_
   refine wl_lsOne (acC A[i].1 v61) Tryz.underlying22 TF.t57 TF.z57 (by decide) (by decide) rfl rfl st rfl ?_
   intro b63 w st
   refine wl_nil ⟨rfl, ?_⟩
   refine fl_eff1 20 [15, 14, 13, 12, 9, 8, 7, 6, 4, 3, 2, 1] [10, 5] (by kernel_rfl) ⟨obl_ld rfl rfl rfl (v_load rfl (hrs st.im)), obl_ld rfl rfl rfl (v_load rfl (hrk st.im)), trivial⟩ rfl ?_
   refine wl_lsApp (c := acP) (e := (A[i].1, v61)) 6 st rfl Tryz.underlying22 TF.t57 TF.z57 rfl rfl (by intro u hu; simp [acP, acC] at hu; rcases hu with rfl | rfl | rfl; rfl; rfl; exact o61) rfl rfl (by omega) (by omega) rfl ?_
   intro v64 w st hv64
   have st := st.perm (List.perm_middle (l₁ := [_, _, _, _, _, _])).symm
   have hrw : byE v61 A[i].1.data :: rowsE (datR B) = rowsE (datR (B ++ [(A[i].1, v61)])) := by simp [rowsE, datR]
   have st : St m m1 [] wI w (lgE g db dk n sl glv wv S [] (stE sb g mb [] (acE v64 (B ++ [(A[i].1, v61)]) :: rowsE (datR (B ++ [(A[i].1, v61)]))))) := by rw [← hrw]; exact st
   refine wl_nil ⟨rfl, ?_⟩
   refine fl_eff1 21 [] [] (by kernel_rfl) ⟨obl_ld rfl rfl rfl (v_load rfl (hrs st.im)), obl_ld rfl rfl rfl (v_load rfl (hrk st.im)), trivial⟩ rfl ?_
   refine wl_val (v_assign' (by conv => (lhs; whnf))) rfl ?_
   refine wl_nil ⟨rfl, ?_⟩
   refine fl_nil (by kernel_rfl) trivial ?_
   refine block_go (then_go ?_)
   refine wc_region ?_
   refine wl_val (v_move' (by conv => (lhs; whnf))) rfl ?_
   refine wl_val (v_add' (c := ((i + 1 : Nat) : Int)) rfl rfl (by omega) (by omega) (by omega)) rfl ?_
   refine wl_val (v_assign' (by conv => (lhs; whnf))) rfl ?_
   refine wl_nil ?_
   refine then_go ?_
   refine ⟨q - 1, by simp; omega, i + 1, v64, B ++ [(A[i].1, v61)], by omega, rfl, rfl, rfl, rfl, rfl, rfl, ?_, ?_, st⟩
   ·rw [List.map_append, hBA, List.take_succ_eq_append_getElem hi, List.map_append]
    rfl
   ·intro b hb
    rcases List.mem_append.1 hb with hb | hb
    ·exact hB1 b hb
    ·rw [List.mem_singleton.1 hb]; exact o61
  ·refine wc_exit (then_exit (then_exit (block_hit ?_)))
   refine then_go ?_
   refine wc_seq ?_
   have hiA : i = A.length := by omega
   subst hiA
   rw [List.take_length] at hBA
   have hBl : B.length = A.length := by have := congrArg List.length hBA; simpa using this
   refine wc_region ?_
   refine wl_val (v_build (c' := #[.slice none 0 0, .slice none 0 0]) [] TF.z43 TF.p43 rfl rfl) rfl ?_
   refine wl_val (v_move' (by conv => (lhs; whnf))) rfl ?_
   refine wl_val (v_move' (by conv => (lhs; whnf))) rfl ?_
   refine wl_call rfl (c_size (im_heapM _) (disk_at 2 st rfl (ok_calm hlg.len (by omega) (by omega)))) rfl ?_
   rintro v69 w ⟨rfl, rfl⟩
   refine wl_call rfl (c_rapply (E := []) (N := []) st.im KyM.nil (by simp [Risen]) ⟨SlM.nil, by simp⟩ (by simp) (by simp) hA (by omega) (by simp) (by simp [bulkK]; omega) (by omega) (by omega)) rfl ?_
   rintro v70 w ⟨t70, m2, hg2, hi2, kv2, vv2, G2, nv2, NR2, a, rfl, hE2, hN2, hap, hG2l, _, _⟩
   have st := st.grown hg2 t70 hi2
   have p1 := SlM.one1 hE2.1
   have p2 := SlM.one1 hE2.2.1
   refine wl_val (v_move' (by conv => (lhs; whnf))) rfl ?_
   refine wl_val (v_extract rfl rfl) rfl ?_
   refine wl_val (v_extract rfl rfl) rfl ?_
   refine wl_val (v_extract rfl rfl) rfl ?_
   refine wl_alloc TF.z43 st rfl ?_
   intro b11 w st
   refine wl_storeW (cs := #[kv2, vv2]) 0 st rfl TF.t43 rfl rfl rfl rfl (by intro u hu; simp at hu; rcases hu with rfl | rfl <;> assumption) ?_
   intro w st
   have st := st.perm (List.perm_middle (l₁ := [_, _, _, _, _])).symm
   have st : St m m2 [] wI w (lgE g db dk n sl glv wv S [] (stE sb g mb [] (K.blk b11 #[kv2, vv2] 43 :: acE ov B :: rowsE (datR B)))) := st
   refine wl_val (v_assign' (by conv => (lhs; whnf))) rfl ?_
   refine wl_val (v_assign' (by conv => (lhs; whnf))) rfl ?_
   refine wl_nil ?_
   refine then_go ?_
   refine wc_seq ?_
   refine wc_seq ?_
   refine wc_region ?_
   refine wl_val (v_move' (by conv => (lhs; whnf))) rfl ?_
   refine wl_val (v_move' (by conv => (lhs; whnf))) rfl ?_
   obtain ⟨m3, hg3, hls, st⟩ := st.keepLs (i := 6) rfl (fun _ _ => rfl)
   have st : St m m3 [] wI w ((lgE g db dk n sl glv wv S [] (stE sb g mb [] [K.blk b11 #[kv2, vv2] 43])) ++ rowsE (datR B)) := st
   have st := st.perm List.perm_append_comm
   obtain ⟨m4, hmm4, hP4, st, melt⟩ := rows_melt st
   have hBok : AcsM m4 ov B := ⟨hls.mono hmm4, fun b hb => by
    have h1 : b.1 ∈ A.map (·.1) := by rw [← hBA]; exact List.mem_map.2 ⟨b, hb, rfl⟩
    obtain ⟨y, hy, e⟩ := List.mem_map.1 h1
    exact ⟨by rw [← e]; exact (hA.2 y hy).key, hP4 _ (List.mem_map.2 ⟨b, hb, rfl⟩)⟩⟩
   refine wl_call rfl (c_sapply (N := []) (L := []) (M := []) st hlg (by rw [hgen]; decide) (by intro x hx; cases hx) (by intro x hx; cases hx) (by simp [Risen]) (List.Perm.refl _) hBok (by omega) (by simp) (by rw [hBA]; simp [bulkK]; omega)) rfl ?_
   rintro v76 w ⟨m5, wv5, glv5, N5, S5, sl5, L5, hmm5, rfl, hP5, hPn5, hN5, ok5, hg5, hkv5, hkn5, hpe5, st⟩
   have hap' : applyR [] (([] : List (By × Value)).map (·.1)) (B.map (·.1)) n = (kvs G2, NR2.map (·.1), a) := by rw [hBA]; exact hap
   rw [hap'] at hN5 hpe5 ⊢
   obtain ⟨m6, hmm6, hleft, st⟩ := melt m5 _ _ hmm5 st
   have hkv6 : KvOk m6 L5 := fun x hx => ⟨(hkv5 x hx).1, (hkv5 x hx).2.1, apart_left ((hkn5 x hx).resolve_left (by simp)) hleft⟩
   have hmm36 : ∀ k o, m2 k = some o → m6 k = some o := fun k o h => hmm6 k o (hg3.le k o h)
   have hls6 := hls.mono hmm6
   have hE6 := hE2.mono hmm36
   have st := st.perm ((List.reverse_perm _).append_right _)
   have st := rows_loose (P := []) st
   obtain ⟨T, hT⟩ : ∃ T, T = lgE g db dk n sl5 glv5 wv5 S5 N5 (stE sb g mb L5 [K.blk b11 #[kv2, vv2] 43]) := ⟨_, rfl⟩
   have st : St m m6 [] wI w (rwX (datR B) ++ T) := by rw [hT]; exact st
   obtain ⟨oa, oc, hov⟩ := hls6.sl
   rw [hov] at hls6
   refine wl_val (v_move' (by conv => (lhs; whnf))) rfl ?_
   refine wl_val (v_neqF rfl rfl rfl) rfl ?_
   refine wl_nil ?_
   refine then_go ?_
   refine wc_false rfl ?_
   refine wc_skip ?_
   refine then_go ?_
   refine wc_seq ?_
   refine wc_seq ?_
   refine wc_region ?_
   refine wl_val (v_assign' (by conv => (lhs; whnf))) rfl ?_
   refine wl_nil ?_
   refine then_go ?_
   refine wc_block ?_
   refine wc_loop (S := Nat) (fun q r w' => ∃ (i : Nat), q + i = B.length ∧ r 2 = .string (strB key) ∧ r 8 = .pointer (some ⟨sb, 0, none⟩) ∧ r 9 = .slice oa B.length oc ∧ r 11 = .pointer (some ⟨b11, 0, none⟩) ∧ r 14 = .int .i64 i ∧ St m m6 [] wI w' (rwX (datR B) ++ T)) id B.length ⟨0, by omega, rfl, rfl, hov, rfl, rfl, st⟩ ?_
   clear st
   rintro q r w3 ⟨i, hqi, g2, g8, g9, g11, g14, st⟩
   refine wc_o 2 g2 (wc_o 8 g8 (wc_o 9 g9 (wc_o 11 g11 (wc_o 14 g14 ?_))))
   refine wc_seq ?_
   refine wc_seq ?_
   refine wc_region ?_
   refine wl_val (v_move' (by conv => (lhs; whnf))) rfl ?_
   refine wl_val (v_move' (by conv => (lhs; whnf))) rfl ?_
   refine wl_val (v_len_s Tryz.underlying22 rfl) rfl ?_
   refine wl_val (v_lss rfl rfl) rfl ?_
   refine wl_nil ?_
   refine then_go ?_
   refine wc_if rfl (fun h82 => ?_) (fun h82 => ?_)
   ·refine wc_skip ?_
    refine then_go ?_
    refine wc_seq ?_
    refine wc_block ?_
    refine wc_seq ?_
    refine wc_region ?_
    refine wl_val (v_assign' (by conv => (lhs; whnf))) rfl ?_
    refine wl_nil ?_
    refine then_go ?_
    refine wc_block ?_
    have hi : i < B.length := by omega
    have hid : i < (datR B).length := by rw [List.length_map]; exact hi
    have hok := hBok.2 _ (List.getElem_mem hi)
    obtain ⟨lb, lo, hla⟩ := hls6.ptr (by omega) (by decide)
    obtain ⟨dv, hdv⟩ : ∃ dv, dv = B[i].2 := ⟨_, rfl⟩
    obtain ⟨ln, hln⟩ : ∃ ln, ln = B[i].1.data.length := ⟨_, rfl⟩
    have hlnb : ln ≤ 1048576 := by
     have h1 : B[i].1 ∈ A.map (·.1) := by rw [← hBA]; exact List.mem_map.2 ⟨_, List.getElem_mem hi, rfl⟩
     obtain ⟨y, hy, e⟩ := List.mem_map.1 h1
     rw [hln, ← e]
     exact (hs.2 y hy).2
    have hidx : (rwX (datR B) ++ T)[i]? = some (byX dv ln) := by rw [rwX_at hid, hdv, hln]; simp
    have hrd : ∀ {w : World}, Im m6 w → Reads Tryz.prog w 23 ⟨lb, lo + i * 3 + 2, none⟩ dv := fun him => by rw [hdv]; exact hls6.rd hla hi (by decide) TF.t23 (Ac.g2_1 hok) him
    obtain ⟨X0, hX0, hsl0⟩ := byX_SlM st i hidx
    obtain ⟨da, dc, hds, _⟩ := hsl0.opn
    rw [hX0] at hds
    have hsw : Value.slice (some ⟨lb, lo, none⟩) B.length oc = .slice oa B.length oc := by rw [hla]
    refine wc_loop (S := Nat) (fun q r w' => ∃ (k : Nat), q + k = ln ∧ r 2 = .string (strB key) ∧ r 8 = .pointer (some ⟨sb, 0, none⟩) ∧ r 9 = .slice oa B.length oc ∧ r 11 = .pointer (some ⟨b11, 0, none⟩) ∧ r 14 = .int .i64 i ∧ r 15 = .int .i64 k ∧ St m m6 [] wI w' (rwX (datR B) ++ T)) id ln ⟨0, by omega, rfl, rfl, rfl, rfl, rfl, rfl, st⟩ ?_
    clear st
    rintro q2 r w4 ⟨k, hqk, g2, g8, g9, g11, g14, g15, st⟩
    rw [hla] at g9
    refine wc_o 2 g2 (wc_o 8 g8 (wc_o 9 g9 (wc_o 11 g11 (wc_o 14 g14 (wc_o 15 g15 ?_)))))
    refine wc_seq ?_
    refine wc_seq ?_
    refine wc_region ?_
    refine wl_val (v_move' (by conv => (lhs; whnf))) rfl ?_
    refine wl_val (v_move' (by conv => (lhs; whnf))) rfl ?_
    refine wl_val (v_move' (by conv => (lhs; whnf))) rfl ?_
    refine wl_val (v_ias i Tryz.underlying22 TF.t57 rfl rfl (by first | rfl | omega) (by first | omega | (dsimp only at *; omega))) rfl ?_
    refine wl_val (v_fa TF.f57_2 rfl) rfl ?_
    refine wl_val (v_load rfl (by have h := hrd st.im; rw [hds] at h; exact h)) rfl ?_
    refine wl_val (v_len_s Tryz.underlying23 rfl) rfl ?_
    refine wl_val (v_lss rfl rfl) rfl ?_
    refine wl_nil ?_
    refine then_go ?_
    refine wc_if rfl (fun h92 => ?_) (fun h92 => ?_)
    ·refine wc_skip ?_
     refine then_go ?_
     refine wc_seq ?_
     refine wc_block ?_
     have hk : k < ln := by omega
     obtain ⟨g', cap', C, cb, hv', stb, hC, hget, back⟩ := st.turn i hidx hk
     have hlt : i < (rwX (datR B) ++ T).length := by
      rcases Nat.lt_or_ge i (rwX (datR B) ++ T).length with h | h
      ·exact h
      ·rw [List.getElem?_eq_none h] at hidx; cases hidx
     refine wc_region ?_
     refine wl_val (v_move' (by conv => (lhs; whnf))) rfl ?_
     refine wl_val (v_move' (by conv => (lhs; whnf))) rfl ?_
     refine wl_val (v_ias i Tryz.underlying22 TF.t57 rfl rfl (by first | rfl | omega) (by first | omega | (dsimp only at *; omega))) rfl ?_
     refine wl_val (v_fa TF.f57_2 rfl) rfl ?_
     refine wl_val (v_load rfl (by have h := hrd st.im; rw [hv'] at h; exact h)) rfl ?_
     refine wl_val (v_move' (by conv => (lhs; whnf))) rfl ?_
     refine wl_val (v_ias k Tryz.underlying23 TF.t5 rfl rfl (by first | rfl | omega) (by first | omega | (dsimp only at *; omega))) rfl ?_
     refine wl_val (v_load rfl (stb.reads (v := u8 cb) i (List.getElem?_set_self hlt) TF.t5 (by simpa using hget))) rfl ?_
     refine wl_val (v_add8 (b := 1) rfl rfl) rfl ?_
     refine wl_val (v_ias k Tryz.underlying23 TF.t5 rfl rfl (by first | rfl | omega) (by first | omega | (dsimp only at *; omega))) rfl ?_
     refine wl_store1 (v := u8 (cb + 1)) i stb (List.getElem?_set_self hlt) TF.t5 rfl rfl rfl (by simpa using hC) ?_
     intro w st
     rw [List.set_set] at st
     have st := back _ (cb + 1) (by simpa using st)
     refine wl_nil ?_
     refine block_go (then_go ?_)
     refine wc_region ?_
     refine wl_val (v_move' (by conv => (lhs; whnf))) rfl ?_
     refine wl_val (v_add' (c := ((k + 1 : Nat) : Int)) rfl rfl (by omega) (by omega) (by omega)) rfl ?_
     refine wl_val (v_assign' (by conv => (lhs; whnf))) rfl ?_
     refine wl_nil ?_
     refine then_go ?_
     exact ⟨q2 - 1, by simp; omega, k + 1, by omega, rfl, rfl, hsw, rfl, rfl, rfl, st⟩
    ·refine wc_exit (then_exit (then_exit (block_hit ?_)))
     refine block_go (then_go ?_)
     refine wc_region ?_
     refine wl_val (v_move' (by conv => (lhs; whnf))) rfl ?_
     refine wl_val (v_add' (c := ((i + 1 : Nat) : Int)) rfl rfl (by omega) (by omega) (by omega)) rfl ?_
     refine wl_val (v_assign' (by conv => (lhs; whnf))) rfl ?_
     refine wl_nil ?_
     refine then_go ?_
     exact ⟨q - 1, by simp; omega, i + 1, by omega, rfl, rfl, hsw, rfl, rfl, st⟩
   ·refine wc_exit (then_exit (then_exit (block_hit ?_)))
    refine then_go ?_
    refine wc_seq ?_
    refine wc_region ?_
    refine wl_val (v_move' (by conv => (lhs; whnf))) rfl ?_
    have hri := (apply_facts (R := ([] : List (By × Value)).map (·.1)) (A := B.map (·.1)) (n := n) (M := []) (by simp [Risen])).1
    rw [hap'] at hri
    have hri : Risen (kvs G2) := hri
    have hG2l : G2.length ≤ A.length := by simpa using hG2l
    have hL5l : L5.length ≤ 1000000 := by have hpe5 : (kvs G2).Perm (kvs L5) := hpe5; have h := hpe5.length_eq; have h2 : (kvs G2).length = G2.length := length_kvs; have h3 : (kvs L5).length = L5.length := length_kvs; omega
    have st := st.perm List.perm_append_comm
    rw [hT] at st
    have st : St m m6 [] wI _ (lgE g db dk n sl5 glv5 wv5 S5 N5 (stE sb g mb L5 (K.blk b11 #[kv2, vv2] 43 :: rwX (datR B)))) := st
    refine wl_call rfl (c_sallK st hkv6 hri hpe5 hL5l) rfl ?_
    rintro v107 w ⟨kv3, vv3, E3, m7, rfl, hE3, hmm7, st⟩
    have hE3l : E3.length ≤ 1000000 := by have h := congrArg List.length hE3; rw [length_kvs] at h; have h2 : (kvs G2).length = G2.length := length_kvs; omega
    have o3 : kv3.oneCell' = true := row_one (st.at (i := 0) rfl)
    have o4 : vv3.oneCell' = true := row_one (st.at (i := 1) rfl)
    have st := st.drop 0
    obtain ⟨m8, hg8, hm8, st8⟩ := st.freezeR (i := 0) rfl (by simp)
    have hV := row_SlM (m := m8) (st.at (i := 0) rfl) hm8
    have st : St m m8 [] wI w (lgE g db dk n sl5 glv5 wv5 S5 N5 (stE sb g mb L5 (rowsE (E3.map (·.2)) ++ (K.blk b11 #[kv2, vv2] 43 :: rwX (datR B))))) := st8
    refine wl_val (v_move' (by conv => (lhs; whnf))) rfl ?_
    refine wl_val (v_extract rfl rfl) rfl ?_
    refine wl_val (v_extract rfl rfl) rfl ?_
    refine wl_alloc TF.z43 st rfl ?_
    intro b16 w st
    refine wl_storeW (cs := #[kv3, vv3]) 0 st rfl TF.t43 rfl rfl rfl rfl (by intro u hu; simp at hu; rcases hu with rfl | rfl <;> assumption) ?_
    intro w st
    have st : St m m8 [] wI w ((K.blk b16 #[kv3, vv3] 43 :: lgE g db dk n sl5 glv5 wv5 S5 N5 (stE sb g mb L5 [])) ++ (rowsE (E3.map (·.2)) ++ (K.blk b11 #[kv2, vv2] 43 :: rwX (datR B)))) := st
    have st := st.perm (show List.Perm _ (rowsE (E3.map (·.2)) ++ ((K.blk b16 #[kv3, vv3] 43 :: lgE g db dk n sl5 glv5 wv5 S5 N5 (stE sb g mb L5 [])) ++ (K.blk b11 #[kv2, vv2] 43 :: rwX (datR B)))) by rw [← List.append_assoc, ← List.append_assoc]; exact List.perm_append_comm.append_right _)
    have st := st.perm ((List.reverse_perm _).append_right _)
    have st := rows_loose (P := []) st
    obtain ⟨T2, hT2⟩ : ∃ T2, T2 = K.blk b16 #[kv3, vv3] 43 :: lgE g db dk n sl5 glv5 wv5 S5 N5 (stE sb g mb L5 (K.blk b11 #[kv2, vv2] 43 :: rwX (datR B))) := ⟨_, rfl⟩
    have st : St m m8 [] wI w (rwX (E3.map (·.2)) ++ T2) := by rw [hT2]; exact st
    have h16 : (rwX (E3.map (·.2)) ++ T2)[E3.length]? = some (K.blk b16 #[kv3, vv3] 43) := by
     rw [List.getElem?_append_right (by simp), hT2]
     simp
    refine wl_val (v_assign' (by conv => (lhs; whnf))) rfl ?_
    refine wl_nil ?_
    refine then_go ?_
    refine wc_seq ?_
    refine wc_seq ?_
    refine wc_region ?_
    refine wl_val (v_move' (by conv => (lhs; whnf))) rfl ?_
    refine wl_val (v_not rfl) rfl ?_
    refine wl_nil ?_
    refine then_go ?_
    refine wc_false rfl ?_
    refine wc_skip ?_
    refine then_go ?_
    refine wc_seq ?_
    refine wc_seq ?_
    refine wc_region ?_
    refine wl_val (v_assign' (by conv => (lhs; whnf))) rfl ?_
    refine wl_nil ?_
    refine then_go ?_
    refine wc_block ?_
    refine wc_loop (S := Nat) (fun q r w' => ∃ (i : Nat), q + i = E3.length ∧ r 2 = .string (strB key) ∧ r 8 = .pointer (some ⟨sb, 0, none⟩) ∧ r 11 = .pointer (some ⟨b11, 0, none⟩) ∧ r 16 = .pointer (some ⟨b16, 0, none⟩) ∧ r 18 = .int .i64 i ∧ St m m8 [] wI w' (rwX (E3.map (·.2)) ++ T2)) id E3.length ⟨0, by omega, rfl, rfl, rfl, rfl, rfl, st⟩ ?_
    clear st
    rintro q r w3 ⟨i, hqi, g2, g8, g11, g16, g18, st⟩
    refine wc_o 2 g2 (wc_o 8 g8 (wc_o 11 g11 (wc_o 16 g16 (wc_o 18 g18 ?_))))
    obtain ⟨_, va, vc, hvv, _⟩ := id hV
    refine wc_seq ?_
    refine wc_seq ?_
    refine wc_region ?_
    refine wl_val (v_move' (by conv => (lhs; whnf))) rfl ?_
    refine wl_val (v_fa TF.f43_1 rfl) rfl ?_
    refine wl_val (v_load rfl (by have h := st.reads (v := vv3) (off := 1) E3.length h16 TF.t41 rfl; rw [hvv] at h; exact h)) rfl ?_
    refine wl_val (v_len_s Tryz.underlying41 rfl) rfl ?_
    refine wl_val (v_lss rfl rfl) rfl ?_
    refine wl_nil ?_
    refine then_go ?_
    refine wc_if rfl (fun h116 => ?_) (fun h116 => ?_)
    ·refine wc_skip ?_
     refine then_go ?_
     refine wc_seq ?_
     refine wc_block ?_
     refine wc_seq ?_
     refine wc_region ?_
     refine wl_val (v_assign' (by conv => (lhs; whnf))) rfl ?_
     refine wl_nil ?_
     refine then_go ?_
     refine wc_block ?_
     have hi : i < E3.length := by omega
     have hid : i < (E3.map (·.2)).length := by rw [List.length_map]; exact hi
     obtain ⟨vb, vo, vc2, hvv2, hrv⟩ := val_rd hV hi
     obtain ⟨dv, hdv⟩ : ∃ dv, dv = E3[i].2.2 := ⟨_, rfl⟩
     obtain ⟨ln, hln⟩ : ∃ ln, ln = E3[i].2.1.length := ⟨_, rfl⟩
     have hlnb : ln ≤ 1048576 := by rw [hln]; exact (kvok_len hkv6 hpe5 hE3 _ (List.getElem_mem hi)).2
     have hidx : (rwX (E3.map (·.2)) ++ T2)[i]? = some (byX dv ln) := by rw [rwX_at hid, hdv, hln]; simp
     have hrd : ∀ {w : World}, Im m8 w → Reads Tryz.prog w 23 ⟨vb, vo + i * 1, none⟩ dv := fun him => by rw [hdv]; exact hrv him
     obtain ⟨X0, hX0, hsl0⟩ := byX_SlM st i hidx
     obtain ⟨da, dc, hds, _⟩ := hsl0.opn
     rw [hX0] at hds
     refine wc_loop (S := Nat) (fun q r w' => ∃ (k : Nat), q + k = ln ∧ r 2 = .string (strB key) ∧ r 8 = .pointer (some ⟨sb, 0, none⟩) ∧ r 11 = .pointer (some ⟨b11, 0, none⟩) ∧ r 16 = .pointer (some ⟨b16, 0, none⟩) ∧ r 18 = .int .i64 i ∧ r 19 = .int .i64 k ∧ St m m8 [] wI w' (rwX (E3.map (·.2)) ++ T2)) id ln ⟨0, by omega, rfl, rfl, rfl, rfl, rfl, rfl, st⟩ ?_
     clear st
     rintro q2 r w4 ⟨k, hqk, g2, g8, g11, g16, g18, g19, st⟩
     refine wc_o 2 g2 (wc_o 8 g8 (wc_o 11 g11 (wc_o 16 g16 (wc_o 18 g18 (wc_o 19 g19 ?_)))))
     refine wc_seq ?_
     refine wc_seq ?_
     refine wc_region ?_
     refine wl_val (v_move' (by conv => (lhs; whnf))) rfl ?_
     refine wl_val (v_fa TF.f43_1 rfl) rfl ?_
     refine wl_val (v_load rfl (by have h := st.reads (v := vv3) (off := 1) E3.length h16 TF.t41 rfl; rw [hvv2] at h; exact h)) rfl ?_
     refine wl_val (v_move' (by conv => (lhs; whnf))) rfl ?_
     refine wl_val (v_ias i Tryz.underlying41 TF.t23 rfl rfl (by first | rfl | omega) (by first | omega | (dsimp only at *; omega))) rfl ?_
     refine wl_val (v_load rfl (by have h := hrd st.im; rw [hds] at h; exact h)) rfl ?_
     refine wl_val (v_len_s Tryz.underlying23 rfl) rfl ?_
     refine wl_val (v_lss rfl rfl) rfl ?_
     refine wl_nil ?_
     refine then_go ?_
     refine wc_if rfl (fun h126 => ?_) (fun h126 => ?_)
     ·refine wc_skip ?_
      refine then_go ?_
      refine wc_seq ?_
      refine wc_block ?_
      have hk : k < ln := by omega
      obtain ⟨g', cap', C, cb, hv', stb, hC, hget, back⟩ := st.turn i hidx hk
      have hlt : i < (rwX (E3.map (·.2)) ++ T2).length := by
       rcases Nat.lt_or_ge i (rwX (E3.map (·.2)) ++ T2).length with h | h
       ·exact h
       ·rw [List.getElem?_eq_none h] at hidx; cases hidx
      refine wc_region ?_
      refine wl_val (v_fa TF.f43_1 rfl) rfl ?_
      refine wl_val (v_load rfl (by have h := st.reads (v := vv3) (off := 1) E3.length h16 TF.t41 rfl; rw [hvv2] at h; exact h)) rfl ?_
      refine wl_val (v_move' (by conv => (lhs; whnf))) rfl ?_
      refine wl_val (v_ias i Tryz.underlying41 TF.t23 rfl rfl (by first | rfl | omega) (by first | omega | (dsimp only at *; omega))) rfl ?_
      refine wl_val (v_load rfl (by have h := hrd st.im; rw [hv'] at h; exact h)) rfl ?_
      refine wl_val (v_move' (by conv => (lhs; whnf))) rfl ?_
      refine wl_val (v_ias k Tryz.underlying23 TF.t5 rfl rfl (by first | rfl | omega) (by first | omega | (dsimp only at *; omega))) rfl ?_
      refine wl_val (v_load rfl (stb.reads (v := u8 cb) i (List.getElem?_set_self hlt) TF.t5 (by simpa using hget))) rfl ?_
      refine wl_val (v_add8 (b := 1) rfl rfl) rfl ?_
      refine wl_val (v_ias k Tryz.underlying23 TF.t5 rfl rfl (by first | rfl | omega) (by first | omega | (dsimp only at *; omega))) rfl ?_
      refine wl_store1 (v := u8 (cb + 1)) i stb (List.getElem?_set_self hlt) TF.t5 rfl rfl rfl (by simpa using hC) ?_
      intro w st
      rw [List.set_set] at st
      have st := back _ (cb + 1) (by simpa using st)
      refine wl_nil ?_
      refine block_go (then_go ?_)
      refine wc_region ?_
      refine wl_val (v_move' (by conv => (lhs; whnf))) rfl ?_
      refine wl_val (v_add' (c := ((k + 1 : Nat) : Int)) rfl rfl (by omega) (by omega) (by omega)) rfl ?_
      refine wl_val (v_assign' (by conv => (lhs; whnf))) rfl ?_
      refine wl_nil ?_
      refine then_go ?_
      exact ⟨q2 - 1, by simp; omega, k + 1, by omega, rfl, rfl, rfl, rfl, rfl, rfl, st⟩
     ·refine wc_exit (then_exit (then_exit (block_hit ?_)))
      refine block_go (then_go ?_)
      refine wc_region ?_
      refine wl_val (v_move' (by conv => (lhs; whnf))) rfl ?_
      refine wl_val (v_add' (c := ((i + 1 : Nat) : Int)) rfl rfl (by omega) (by omega) (by omega)) rfl ?_
      refine wl_val (v_assign' (by conv => (lhs; whnf))) rfl ?_
      refine wl_nil ?_
      refine then_go ?_
      exact ⟨q - 1, by simp; omega, i + 1, by omega, rfl, rfl, rfl, rfl, rfl, st⟩
    ·refine wc_exit (then_exit (then_exit (block_hit ?_)))
     refine then_go ?_
     refine wc_seq ?_
     refine wc_region ?_
     refine wl_val (v_move' (by conv => (lhs; whnf))) rfl ?_
     refine wl_val (v_move' (by conv => (lhs; whnf))) rfl ?_
     have st := st.perm List.perm_append_comm
     rw [hT2] at st
     have st := st.drop 0
     have st : St m m8 [] wI _ (lgE g db dk n sl5 glv5 wv5 S5 N5 (stE sb g mb L5 (K.blk b11 #[kv2, vv2] 43 :: (rwX (datR B) ++ rwX (E3.map (·.2)))))) := st
     have hmm68 : ∀ k o, m6 k = some o → m8 k = some o := fun k o h => hg8.le k o (hmm7 k o h)
     have hkv8 := hkv6.mono hmm68
     have hE8 := hE6.mono hmm68
     have hdb : ((getKV key (kvs G2)).getD []).length ≤ 1048576 := by
      rcases hq : getKV key (kvs G2) with _ | d
      ·simp
      ·have h1 := (mem_getKV hri.nodup).2 hq
       have hpe5 : (kvs G2).Perm (kvs L5) := hpe5
       obtain ⟨y, hy, e⟩ := List.mem_map.1 (hpe5.mem_iff.1 h1)
       have e : (y.1, y.2.1) = (key, d) := e
       rw [Prod.mk.injEq] at e
       show d.length ≤ _
       rw [← e.2]
       exact (hkv6 y hy).2.1
     refine wl_call rfl (c_sget (k := key) st hkv8 hri hpe5 hk) rfl ?_
     rintro v142 w ⟨u, rfl, st⟩
     have st := st.loose 0 rfl
     obtain ⟨ln, hln⟩ : ∃ ln, ln = ((getKV key (kvs G2)).getD []).length := ⟨_, rfl⟩
     rw [← hln] at st hdb
     obtain ⟨T3, hT3⟩ : ∃ T3, T3 = lgE g db dk n sl5 glv5 wv5 S5 N5 (stE sb g mb L5 (K.blk b11 #[kv2, vv2] 43 :: (rwX (datR B) ++ rwX (E3.map (·.2))))) := ⟨_, rfl⟩
     have st : St m m8 [] wI w (byX u ln :: T3) := by rw [hT3]; exact st
     obtain ⟨X1, hX1, hsl1⟩ := byX_SlM st 0 rfl
     obtain ⟨ua, uc, hu, _⟩ := hsl1.opn
     rw [hX1] at hu
     refine wl_val (v_move' (by conv => (lhs; whnf))) rfl ?_
     refine wl_val (v_extract rfl rfl) rfl ?_
     refine wl_val (v_extract rfl rfl) rfl ?_
     refine wl_val (v_assign' (by conv => (lhs; whnf))) rfl ?_
     refine wl_val (v_assign' (by conv => (lhs; whnf))) rfl ?_
     refine wl_nil ?_
     refine then_go ?_
     refine wc_seq ?_
     refine wc_seq ?_
     refine wc_region ?_
     refine wl_val (v_assign' (by conv => (lhs; whnf))) rfl ?_
     refine wl_nil ?_
     refine then_go ?_
     refine wc_block ?_
     refine wc_loop (S := Nat) (fun q r w' => ∃ (k : Nat), q + k = ln ∧ r 2 = .string (strB key) ∧ r 8 = .pointer (some ⟨sb, 0, none⟩) ∧ r 11 = .pointer (some ⟨b11, 0, none⟩) ∧ r 20 = u ∧ r 22 = .int .i64 k ∧ St m m8 [] wI w' (byX u ln :: T3)) id ln ⟨0, by omega, rfl, rfl, rfl, rfl, rfl, st⟩ ?_
     clear st
     rintro q2 r w4 ⟨k, hqk, g2, g8, g11, g20, g22, st⟩
     rw [hu] at g20
     refine wc_o 2 g2 (wc_o 8 g8 (wc_o 11 g11 (wc_o 20 g20 (wc_o 22 g22 ?_))))
     refine wc_seq ?_
     refine wc_seq ?_
     refine wc_region ?_
     refine wl_val (v_move' (by conv => (lhs; whnf))) rfl ?_
     refine wl_val (v_move' (by conv => (lhs; whnf))) rfl ?_
     refine wl_val (v_len_s Tryz.underlying23 rfl) rfl ?_
     refine wl_val (v_lss rfl rfl) rfl ?_
     refine wl_nil ?_
     refine then_go ?_
     refine wc_if rfl (fun h148 => ?_) (fun h148 => ?_)
     ·refine wc_skip ?_
      refine then_go ?_
      refine wc_seq ?_
      refine wc_block ?_
      have hk' : k < ln := by omega
      obtain ⟨g', cap', C, cb, hv', stb, hC, hget, back⟩ := st.turn 0 rfl hk'
      rw [hu] at hv'
      simp only [Value.slice.injEq] at hv'
      obtain ⟨hua, _, huc⟩ := hv'
      subst hua
      refine wc_region ?_
      refine wl_val (v_move' (by conv => (lhs; whnf))) rfl ?_
      refine wl_val (v_move' (by conv => (lhs; whnf))) rfl ?_
      refine wl_val (v_ias k Tryz.underlying23 TF.t5 rfl rfl (by first | rfl | omega) (by first | omega | (dsimp only at *; omega))) rfl ?_
      refine wl_val (v_load rfl (stb.reads (v := u8 cb) 0 rfl TF.t5 (by simpa using hget))) rfl ?_
      refine wl_val (v_add8 (b := 1) rfl rfl) rfl ?_
      refine wl_val (v_ias k Tryz.underlying23 TF.t5 rfl rfl (by first | rfl | omega) (by first | omega | (dsimp only at *; omega))) rfl ?_
      refine wl_store1 (v := u8 (cb + 1)) 0 stb rfl TF.t5 rfl rfl rfl (by simpa using hC) ?_
      intro w st
      have st := back _ (cb + 1) (by simpa using st)
      refine wl_nil ?_
      refine block_go (then_go ?_)
      refine wc_region ?_
      refine wl_val (v_move' (by conv => (lhs; whnf))) rfl ?_
      refine wl_val (v_add' (c := ((k + 1 : Nat) : Int)) rfl rfl (by omega) (by omega) (by omega)) rfl ?_
      refine wl_val (v_assign' (by conv => (lhs; whnf))) rfl ?_
      refine wl_nil ?_
      refine then_go ?_
      exact ⟨q2 - 1, by simp; omega, k + 1, by omega, rfl, rfl, rfl, hu.symm, rfl, st⟩
     ·refine wc_exit (then_exit (then_exit (block_hit ?_)))
      refine then_go ?_
      refine wc_seq ?_
      have st := st.drop 0
      have st : St m m8 [] wI _ T3 := st
      rw [hT3] at st
      refine wc_region ?_
      refine wl_val (v_move' (by conv => (lhs; whnf))) rfl ?_
      refine wl_val (v_load rfl (st.reads (v := .agg #[kv2, vv2]) 5 rfl TF.t43 (getV_all rfl))) rfl ?_
      refine wl_val (v_move' (by conv => (lhs; whnf))) rfl ?_
      refine wl_call rfl (c_like (key := key) st hkv8 hri hpe5 hL5l hE8 hk) rfl ?_
      rintro v160 w ⟨rfl, m9, hmm9, st⟩
      refine wl_val (v_move' (by conv => (lhs; whnf))) rfl ?_
      refine wl_on rfl rfl ?_
      refine wl_call rfl (c_works15 (Es := []) (st.keepOnly (List.nil_sublist _))) rfl ?_
      rintro v162 w ⟨⟨m10, hmm10, st⟩, rfl⟩
      refine wl_val (v_pick rfl) rfl ?_
      refine wl_val (v_assign' (by conv => (lhs; whnf))) rfl ?_
      refine wl_nil ?_
      refine then_go ?_
      refine wc_ret ?_
      exact ret1 rfl ⟨st.touch, rfl⟩
end
end Go.Proofs.YtladpaehbolghaaGreat

namespace Go.Proofs.YtladpaehbolghaaGreat
open Go Go.ChangeShapes Go.WideShapes Go.ChangeAt Go.RowKit K SH GC JR OS
theorem Try.ownoe : ownKnob Tryz.prog.godebug = none := by kernel_rfl
theorem Try.laidOutoe : laidOutB Tryz.prog = true := by kernel_rfl
theorem Try.trodAlloe {H : Type} {enc : TypeId × Value → H} {w : World} {held : Bool} {P : Program} {base : Nat} {spare : Nat → Bool} {t0 t1 t2 : TypeId} {args : Array Value} {ds : List (DataW H)} {ps : List MemPlace} (h : DataW.TrodAll enc P w base spare held [t0, t1, t2] args.toList ds ps) :
  ∃ v0 v1 v2 d0 d1 d2 p0 p1 p2, args = #[v0, v1, v2] ∧ ds = [d0, d1, d2] ∧ ps = p0 ++ p1 ++ p2 ∧ DataW.Trod enc P w base spare held t0 v0 d0 p0 ∧ DataW.Trod enc P w base spare held t1 v1 d1 p1 ∧ DataW.Trod enc P w base spare held t2 v2 d2 p2 := by
 obtain ⟨v0, vs0, d0, ds0, p0, q0, hargs, rfl, rfl, hd0, h⟩ := trodAll_cons h
 obtain ⟨v1, vs1, d1, ds1, p1, q1, rfl, rfl, rfl, hd1, h⟩ := trodAll_cons h
 obtain ⟨v2, vs2, d2, ds2, p2, q2, rfl, rfl, rfl, hd2, h⟩ := trodAll_cons h
 obtain ⟨rfl, rfl, rfl⟩ := trodAll_nil h
 exact ⟨v0, v1, v2, d0, d1, d2, p0, p1, p2, by cases args; simp_all, rfl, by simp, hd0, hd1, hd2⟩
set_option maxRecDepth 100000 in
theorem storeOwn_lifted (os : Os) (started : os.Started) (H : Type) (enc : TypeId × Value → H) (Fi : Stop.Interp) :
  ReturnsInHanded {} Tryz.checked os 5 .any ((Rows.OpenSpec.upto Rows.storeOwnSpec).pre6 enc Tryz.prog Tryz.f5 Rows.storeOwnUptoRow.domain false) (((Rows.OpenSpec.upto Rows.storeOwnSpec).at Fi).post enc Tryz.prog Tryz.f5 false true false false) := by
 refine returnsInHanded_of_cond (C := Tryz.checked) (s := (Rows.OpenSpec.upto Rows.storeOwnSpec)) (k := Rows.uptoSmall) rfl Try.ownoe started (by kernel_rfl) Tryz.func5
  (OpenSpec.witness (enc := enc) (C := Tryz.checked) (s := (Rows.OpenSpec.upto Rows.storeOwnSpec)) (k := Rows.uptoSmall) rfl false ⟨#[], #[.int .i64 0, .slice none 0 0, .string ⟨#[]⟩], []⟩ 12 (by kernel_rfl) (by kernel_rfl) (by kernel_rfl) (x := ([.lit (.int .i64 0), .nil, .lit (.string [])], [], [])) (by kernel_rfl) rfl (by kernel_rfl)) ?_
 intro W base args ds gs before hval0 hW _ hk _
 have hval : ∀ (j : Nat) t v, Tryz.f5.params[j]? = some t → args[j]? = some v → Value.okWide Tryz.prog W .any base t v := hval0
 have hW' := hW
 obtain ⟨p, q, hA0, hV, rfl, hfz, hnd⟩ := hW
 have hkb := bulk_of hk
 have hA : DataW.TrodAll enc Tryz.prog W 0 (fun _ => true) true Tryz.f5.params.toList args.toList ds p := hA0
 rw [Tryz.params5] at hA hval
 obtain ⟨v0, v1, v2, d0, d1, d2, p0, p1, p2, rfl, rfl, rfl, h0, h1, h2⟩ := Try.trodAlloe hA
 obtain ⟨a0, rfl, rfl, rfl, wa0⟩ := open_int Tryz.underlying3 (hval 0 3 v0 rfl rfl) h0
 obtain ⟨fu1, hf1⟩ := h1
 obtain ⟨sa1, sl1, sc1, rfl⟩ := okWide_slice Tryz.underlying22 (hval 1 22 v1 rfl rfl)
 have hb1 := hkb d1 (by simp)
 obtain ⟨l1, hl1, hu1⟩ := open_actsB hf1
 obtain ⟨l2, rfl, hl2⟩ := open_str (hval 2 9 v2 rfl rfl) h2
 refine Calls.mono (P := Tryz.prog) (c_storeOwn (im_heapM W) hl1 (shortA hu1.1 hu1.2 hb1) hl2).2 fun e W1 ⟨v, he, t, hv⟩ => ?_
 subst hv
 subst he
 exact ⟨_, rfl, post_true Try.laidOutoe (by kernel_rfl) rfl hW' t rfl rfl Tryz.underlying4⟩
theorem storeOwnUpto_holds : Rows.StoreOwnUptoSaid :=
 OpenClaim.holds_of_cond 5 Tryz.f5 rfl rfl rfl rfl rfl rfl rfl ⟨rfl, rfl, rfl, rfl, rfl⟩ rfl rfl rfl rfl rfl (by kernel_rfl) Tryz.func5 (by kernel_rfl)
  (of_decide_eq_true (by kernel_rfl)) (by unfold Func.isWrapper; first | (rw [if_pos (by decide +kernel)]; kernel_rfl) | (rw [if_neg (by decide +kernel)]; exact ⟨rfl, rfl⟩))
  (fun os started H enc _ Fi => storeOwn_lifted os started H enc Fi)
end Go.Proofs.YtladpaehbolghaaGreat
