/-
  Proved here: for every input of bulk at most 1048576 the law JournalDoes returns true, and what it was handed reads behind the call as before. No condition.
-/
import Derived.Test.YtnaoafogdplnaaaRows
import Derived.JoinedCond
import Derived.Test.YtnaoafogdplnaaaJDoes3

namespace Go.Proofs.Ytnaoafogdplnaaa
open Go Go.RowKit K SH DK JR
structure OpV where
 ag : Bool
 B : By
 bv : Value
 M : List (By × Value)
 lv : Value
def opC (o : OpV) : List Value := [.bool o.ag, o.bv, o.lv]
def OpOk (m : Mem) (o : OpV) : Prop := SlM m o.bv 1 o.B.length (bs o.B) ∧ PcsM m o.lv o.M
def OpsM (m : Mem) (v : Value) (L : List OpV) : Prop := LsM m v opC 3 L ∧ ∀ o ∈ L, OpOk m o
theorem OpsM.mono {m m' : Mem} {v : Value} {L : List OpV} (h : OpsM m v L) (hm : ∀ k o, m k = some o → m' k = some o) : OpsM m' v L := ⟨h.1.mono hm, fun o ho => ⟨(h.2 o ho).1.mono hm, (h.2 o ho).2.mono hm⟩⟩
theorem PcsM.sl {m : Mem} {v : Value} {N : List (By × Value)} (h : PcsM m v N) : ∃ a c, v = .slice a N.length c := by obtain ⟨⟨_, a, c, h, _⟩, _⟩ := h; exact ⟨a, c, h⟩
section
variable {m : Mem} {wI : World}
theorem c_few14 {v : Value} {L : List OpV} (him : Im m wI) (hv : OpsM m v L) (hLm : ∀ o ∈ L, o.M.length ≤ 1048576) : Ret Try.prog 9 #[v] wI fun v' w' => Tch wI w' [] [] ∧ ∃ c : Bool, v' = .bool c ∧ (c = true → L.length ≤ 20) := by
 have st := St.start him
 obtain ⟨la, lc, rfl⟩ := hv.1.sl
 refine ret_of Try.call9 Try.func9 rfl Try.ntmps9 Try.results9 rfl ?_
 refine wc_seq ?_
 refine wc_region ?_
 refine wl_val (v_assign' (by conv => (lhs; whnf))) rfl ?_
 refine wl_nil ?_
 refine then_go ?_
 refine wc_seq ?_
 refine wc_seq ?_
 refine wc_region ?_
 refine wl_val (v_move' (by conv => (lhs; whnf))) rfl ?_
 refine wl_val (v_len_s Try.underlying22 rfl) rfl ?_
 refine wl_val (v_gtr rfl rfl) rfl ?_
 refine wl_nil ?_
 refine then_go ?_
 refine wc_if rfl (fun h8 => ?_) (fun h8 => ?_)
 ·refine wc_seq ?_
  refine wc_region ?_
  refine wl_val (v_assign' (by conv => (lhs; whnf))) rfl ?_
  refine wl_nil ?_
  refine then_go ?_
  refine wc_ret (then_ret ?_)
  exact ret1 rfl ⟨st.touch, false, rfl, fun h => by cases h⟩
 ·refine wc_skip ?_
  refine then_go ?_
  refine wc_seq ?_
  refine wc_region ?_
  refine wl_val (v_assign' (by conv => (lhs; whnf))) rfl ?_
  refine wl_nil ?_
  refine then_go ?_
  refine wc_seq ?_
  refine wc_seq ?_
  refine wc_region ?_
  refine wl_val (v_assign' (by conv => (lhs; whnf))) rfl ?_
  refine wl_nil ?_
  refine then_go ?_
  refine wc_block ?_
  refine wc_loop (S := Nat) (fun q r w' => ∃ (i : Nat) (z : Int), q + i = L.length ∧ r 0 = .slice la L.length lc ∧ r 3 = .int .i64 z ∧ r 4 = .int .i64 i ∧ St m m [] wI w' []) id L.length ⟨0, 0, by omega, rfl, rfl, rfl, st⟩ ?_
  clear st
  rintro q r w2 ⟨i, z, hqi, g0, g3, g4, st⟩
  refine wc_o 0 g0 (wc_o 3 g3 (wc_o 4 g4 ?_))
  refine wc_seq ?_
  refine wc_seq ?_
  refine wc_region ?_
  refine wl_val (v_move' (by conv => (lhs; whnf))) rfl ?_
  refine wl_val (v_move' (by conv => (lhs; whnf))) rfl ?_
  refine wl_val (v_len_s Try.underlying22 rfl) rfl ?_
  refine wl_val (v_lss rfl rfl) rfl ?_
  refine wl_val (v_move' (by conv => (lhs; whnf))) rfl ?_
  refine wl_valg rfl rfl (fun e => (v_move' (by conv => (lhs; whnf)))) rfl ?_
  refine wl_valg rfl rfl (fun e => (v_leq (by first | rfl | exact gx e rfl) (by first | rfl | exact gx e rfl))) rfl ?_
  refine wl_val (v_pickA rfl rfl rfl) rfl ?_
  refine wl_nil ?_
  refine then_go ?_
  refine wc_cond rfl (fun h16 => ?_) (fun h16 => ?_)
  ·refine wc_skip ?_
   refine then_go ?_
   refine wc_seq ?_
   refine wc_block ?_
   refine wc_seq ?_
   have hi : i < L.length := by
    rw [Bool.and_eq_true, decide_eq_true_eq] at h16
    omega
   obtain ⟨ba, oa, hba⟩ := hv.1.ptr (by omega) (by decide)
   subst hba
   obtain ⟨hB, hM⟩ := hv.2 _ (List.getElem_mem hi)
   have hMl := hLm _ (List.getElem_mem hi)
   obtain ⟨xa, xc, hxv, _⟩ := hB.opn
   obtain ⟨ya, yc, hyv⟩ := hM.sl
   have hrB : ∀ {w : World}, Im m w → Reads Try.prog w 30 ⟨ba, oa + i * 3 + 1, none⟩ (.slice xa L[i].B.length xc) := fun him => hv.1.rd rfl hi (by decide) TF.t30 (by rw [← hxv]; rfl) him
   have hrL : ∀ {w : World}, Im m w → Reads Try.prog w 29 ⟨ba, oa + i * 3 + 2, none⟩ (.slice ya L[i].M.length yc) := fun him => hv.1.rd rfl hi (by decide) TF.t29 (by rw [← hyv]; rfl) him
   refine wc_draw TF.mixed ?_
   have st := st.pure (touch_drew _)
   refine fl_val 0 rfl (fun _ => (v_move' (by conv => (lhs; whnf)))) rfl (by kernel_rfl) ?_
   refine fl_val 1 rfl (fun _ => (v_move' (by conv => (lhs; whnf)))) rfl (by kernel_rfl) ?_
   refine fl_val 2 rfl (fun _ => (v_move' (by conv => (lhs; whnf)))) rfl (by kernel_rfl) ?_
   refine fl_val 3 rfl (fun _ => (v_ias i Try.underlying22 TF.t32 rfl rfl (by first | rfl | omega) (by first | omega | (dsimp only at *; omega)))) rfl (by kernel_rfl) ?_
   refine fl_val 4 rfl (fun _ => (v_fa TF.f32_1 rfl)) rfl (by kernel_rfl) ?_
   refine fl_ld 5 rfl (v_load rfl (hrB st.im)) (by kernel_rfl) ?_
   refine fl_val 6 rfl (fun _ => (v_len_s Try.underlying30 rfl)) rfl (by kernel_rfl) ?_
   refine fl_val 7 rfl (fun _ => (v_add rfl rfl)) rfl (by kernel_rfl) ?_
   refine fl_val 8 rfl (fun _ => (v_move' (by conv => (lhs; whnf)))) rfl (by kernel_rfl) ?_
   refine fl_val 9 rfl (fun _ => (v_move' (by conv => (lhs; whnf)))) rfl (by kernel_rfl) ?_
   refine fl_val 10 rfl (fun _ => (v_ias i Try.underlying22 TF.t32 rfl rfl (by first | rfl | omega) (by first | omega | (dsimp only at *; omega)))) rfl (by kernel_rfl) ?_
   refine fl_val 11 rfl (fun _ => (v_fa TF.f32_2 rfl)) rfl (by kernel_rfl) ?_
   refine fl_ld 12 rfl (v_load rfl (hrL st.im)) (by kernel_rfl) ?_
   refine fl_val 13 rfl (fun _ => (v_len_s Try.underlying29 rfl)) rfl (by kernel_rfl) ?_
   refine fl_val 14 rfl (fun _ => (v_add rfl rfl)) rfl (by kernel_rfl) ?_
   refine fl_eff1 15 [] [] (by kernel_rfl) ⟨obl_ld rfl rfl rfl (v_load rfl (hrL st.im)), obl_ld rfl rfl rfl (v_load rfl (hrB st.im)), trivial⟩ rfl ?_
   refine wl_val (v_assign' (by conv => (lhs; whnf))) rfl ?_
   refine wl_nil ⟨rfl, ?_⟩
   refine fl_nil (by kernel_rfl) trivial ?_
   refine then_go ?_
   refine wc_seq ?_
   refine wc_region ?_
   refine wl_val (v_assign' (by conv => (lhs; whnf))) rfl ?_
   refine wl_nil ?_
   refine then_go ?_
   refine wc_block ?_
   obtain ⟨z1, hz1⟩ : ∃ z1 : Int, z1 = IntKind.i64.wrap (IntKind.i64.wrap (z + (L[i].B.length : Int)) + (L[i].M.length : Int)) := ⟨_, rfl⟩
   refine wc_loop (S := Nat) (fun q r w' => ∃ (j : Nat) (z : Int), q + j = L[i].M.length ∧ r 0 = .slice (some ⟨ba, oa, none⟩) L.length lc ∧ r 3 = .int .i64 z ∧ r 4 = .int .i64 i ∧ r 5 = .int .i64 j ∧ St m m [] wI w' []) id L[i].M.length ⟨0, z1, by omega, rfl, by rw [hz1]; rfl, rfl, rfl, st⟩ ?_
   clear st
   rintro q2 r w3 ⟨j, z2, hqj, g0, g3, g4, g5, st⟩
   refine wc_o 0 g0 (wc_o 3 g3 (wc_o 4 g4 (wc_o 5 g5 ?_)))
   refine wc_seq ?_
   refine wc_seq ?_
   refine wc_region ?_
   refine wl_val (v_move' (by conv => (lhs; whnf))) rfl ?_
   refine wl_val (v_move' (by conv => (lhs; whnf))) rfl ?_
   refine wl_val (v_move' (by conv => (lhs; whnf))) rfl ?_
   refine wl_val (v_ias i Try.underlying22 TF.t32 rfl rfl (by first | rfl | omega) (by first | omega | (dsimp only at *; omega))) rfl ?_
   refine wl_val (v_fa TF.f32_2 rfl) rfl ?_
   refine wl_val (v_load rfl (hrL st.im)) rfl ?_
   refine wl_val (v_len_s Try.underlying29 rfl) rfl ?_
   refine wl_val (v_lss rfl rfl) rfl ?_
   refine wl_val (v_move' (by conv => (lhs; whnf))) rfl ?_
   refine wl_valg rfl rfl (fun e => (v_move' (by conv => (lhs; whnf)))) rfl ?_
   refine wl_valg rfl rfl (fun e => (v_leq (by first | rfl | exact gx e rfl) (by first | rfl | exact gx e rfl))) rfl ?_
   refine wl_val (v_pickA rfl rfl rfl) rfl ?_
   refine wl_nil ?_
   refine then_go ?_
   refine wc_cond rfl (fun h45 => ?_) (fun h45 => ?_)
   ·refine wc_skip ?_
    refine then_go ?_
    refine wc_seq ?_
    refine wc_block ?_
    have hj : j < L[i].M.length := by
     rw [Bool.and_eq_true, decide_eq_true_eq] at h45
     omega
    rw [hyv] at hM
    obtain ⟨nb, no, _, hnv, hsk, hrk⟩ := hM.elem hj
    cases hnv
    obtain ⟨_, qa, qc, hqv, _⟩ := id hsk
    rw [hqv] at hrk
    refine wc_region ?_
    refine wl_val (v_move' (by conv => (lhs; whnf))) rfl ?_
    refine wl_val (v_move' (by conv => (lhs; whnf))) rfl ?_
    refine wl_val (v_move' (by conv => (lhs; whnf))) rfl ?_
    refine wl_val (v_ias i Try.underlying22 TF.t32 rfl rfl (by first | rfl | omega) (by first | omega | (dsimp only at *; omega))) rfl ?_
    refine wl_val (v_fa TF.f32_2 rfl) rfl ?_
    refine wl_val (v_load rfl (hrL st.im)) rfl ?_
    refine wl_val (v_move' (by conv => (lhs; whnf))) rfl ?_
    refine wl_val (v_ias j Try.underlying29 TF.t30 rfl rfl (by first | rfl | omega) (by first | omega | (dsimp only at *; omega))) rfl ?_
    refine wl_val (v_load rfl (hrk st.im)) rfl ?_
    refine wl_val (v_len_s Try.underlying30 rfl) rfl ?_
    refine wl_val (v_add rfl rfl) rfl ?_
    refine wl_val (v_assign' (by conv => (lhs; whnf))) rfl ?_
    refine wl_nil ?_
    refine block_go (then_go ?_)
    refine wc_region ?_
    refine wl_val (v_move' (by conv => (lhs; whnf))) rfl ?_
    refine wl_val (v_add' (c := ((j + 1 : Nat) : Int)) rfl rfl (by omega) (by omega) (by omega)) rfl ?_
    refine wl_val (v_assign' (by conv => (lhs; whnf))) rfl ?_
    refine wl_nil ?_
    refine then_go ?_
    exact ⟨q2 - 1, by simp; omega, j + 1, _, by omega, rfl, rfl, rfl, rfl, st⟩
   ·refine wc_exit (then_exit (then_exit (block_hit ?_)))
    refine block_go (then_go ?_)
    refine wc_region ?_
    refine wl_val (v_move' (by conv => (lhs; whnf))) rfl ?_
    refine wl_val (v_add' (c := ((i + 1 : Nat) : Int)) rfl rfl (by omega) (by omega) (by omega)) rfl ?_
    refine wl_val (v_assign' (by conv => (lhs; whnf))) rfl ?_
    refine wl_nil ?_
    refine then_go ?_
    exact ⟨q - 1, by simp; omega, i + 1, _, by omega, rfl, rfl, rfl, st⟩
  ·refine wc_exit (then_exit (then_exit (block_hit ?_)))
   refine then_go ?_
   refine wc_seq ?_
   refine wc_region ?_
   refine wl_val (v_move' (by conv => (lhs; whnf))) rfl ?_
   refine wl_val (v_leq rfl rfl) rfl ?_
   refine wl_val (v_assign' (by conv => (lhs; whnf))) rfl ?_
   refine wl_nil ?_
   refine then_go ?_
   refine wc_ret ?_
   exact ret1 rfl ⟨st.touch, _, rfl, fun _ => by omega⟩
theorem c_rappend {lv bv : Value} {N : List (By × Value)} {x : By} {n : Nat} (him : Im m wI) (hN : PcsM m lv N) (hNl : ∀ y ∈ N, y.1.length ≤ 1048576) (hNn : N.length ≤ 100000) (hx : SlM m bv 1 x.length (bs x)) (hn : n ≤ 1000000) (hn2 : 2 ≤ n) :
  Ret Try.prog 18 #[lv, bv, .int .i64 n] wI fun v' w' => Out m wI w' fun m' => ∃ mv, v' = .tuple #[mv, .int .i64 (appR (N.map (·.1)) x n : Nat)] ∧ PcsM m' mv (if appR (N.map (·.1)) x n = 0 then N ++ [(x, bv)] else N) := by
 have st := St.start him
 obtain ⟨la, lc, rfl⟩ := hN.sl
 obtain ⟨xa, xc, rfl, _⟩ := hx.opn
 refine ret_of Try.call18 Try.func18 rfl Try.ntmps18 Try.results18 rfl ?_
 refine wc_seq ?_
 refine wc_region ?_
 refine wl_val (v_assign' (by conv => (lhs; whnf))) rfl ?_
 refine wl_val (v_assign' (by conv => (lhs; whnf))) rfl ?_
 refine wl_nil ?_
 refine then_go ?_
 refine wc_seq ?_
 refine wc_seq ?_
 refine wc_region ?_
 refine wl_val (v_move' (by conv => (lhs; whnf))) rfl ?_
 refine wl_call rfl (c_rcheck st.im hx) rfl ?_
 rintro v11 w ⟨t11, rfl⟩
 have st := st.pure t11
 refine wl_val (v_assign' (by conv => (lhs; whnf))) rfl ?_
 refine wl_nil ?_
 refine then_go ?_
 refine wc_seq ?_
 refine wc_region ?_
 refine wl_val (v_move' (by conv => (lhs; whnf))) rfl ?_
 refine wl_val (v_neq rfl rfl) rfl ?_
 refine wl_nil ?_
 refine then_go ?_
 refine wc_cond rfl (fun h13 => ?_) (fun h13 => ?_)
 ·refine wc_seq ?_
  refine wc_region ?_
  refine wl_val (v_move' (by conv => (lhs; whnf))) rfl ?_
  refine wl_val (v_move' (by conv => (lhs; whnf))) rfl ?_
  refine wl_val (v_assign' (by conv => (lhs; whnf))) rfl ?_
  refine wl_val (v_assign' (by conv => (lhs; whnf))) rfl ?_
  refine wl_nil ?_
  refine then_go ?_
  refine wc_ret (then_ret ?_)
  have hz := of_decide_eq_true h13
  have h1 : checkE x = 1 := (checkE_or _).resolve_left fun h => hz (by rw [h]; rfl)
  have hR : appR (N.map (·.1)) x n = 1 := by unfold appR; rw [if_pos (by omega)]
  exact ret2 rfl rfl (st.out ⟨_, by rw [hR, h1]; rfl, by rw [hR, if_neg (by decide)]; exact hN⟩)
 ·refine wc_skip ?_
  refine then_go ?_
  refine wc_seq ?_
  refine wc_region ?_
  refine wl_val (v_assign' (by conv => (lhs; whnf))) rfl ?_
  refine wl_nil ?_
  refine then_go ?_
  refine wc_seq ?_
  have hc0 : ¬ checkE x ≠ 0 := fun h => of_decide_eq_false h13 (by omega)
  have hxm := checkE_len hc0
  have st := nilRow st 30 1
  refine wc_region ?_
  refine wl_val (v_move' (by conv => (lhs; whnf))) rfl ?_
  refine wl_val (v_move' (by conv => (lhs; whnf))) rfl ?_
  refine wl_append (news := N.map (fun y : By × Value => y.2)) (j := N.length) 0 st rfl Try.underlying29 Try.underlying29 (.inr ⟨_, rfl⟩) TF.t30 TF.z30 rfl rfl rfl (hN.1.src st.im fun u hu => by obtain ⟨y, hy, rfl⟩ := List.mem_map.1 hu; exact SlM.one1 (hN.2 y hy)) (by omega) (by omega) rfl ?_
  clear st
  intro v18 w _ st
  have st : St m m [] wI w [lrE v18 N] := by rw [Nat.zero_add, List.nil_append] at st; exact st
  refine wl_val (v_assign' (by conv => (lhs; whnf))) rfl ?_
  refine wl_nil ?_
  refine then_go ?_
  refine wc_seq ?_
  refine wc_region ?_
  refine wl_val (v_move' (by conv => (lhs; whnf))) rfl ?_
  refine wl_val (v_move' (by conv => (lhs; whnf))) rfl ?_
  refine wl_svOne (v := .slice xa x.length xc) Try.underlying29 TF.t30 TF.z30 rfl rfl st rfl ?_
  intro b21 w st
  refine wl_lrApp (x := x) 0 st rfl rfl rfl rfl (by omega) rfl ?_
  intro v22 w st
  obtain ⟨N1, hN1⟩ : ∃ N1, N1 = N ++ [(x, Value.slice xa x.length xc)] := ⟨_, rfl⟩
  rw [← hN1] at st
  have hP1 : Pcs m N1 := by rw [hN1]; exact Pcs.snoc hN.2 hx
  have hN1l : N1.length = N.length + 1 := by rw [hN1, List.length_append]; rfl
  have hN1x : ∀ y ∈ N1, y.1.length ≤ 1000000000 := fun y hy => by
   rw [hN1] at hy
   rcases List.mem_append.1 hy with hy | hy
   ·have := hNl y hy; omega
   ·rw [List.mem_singleton.1 hy]; show x.length ≤ _; omega
  have st0 := st
  obtain ⟨m1, hg1, hm1, st⟩ := st.freezeR (i := 0) rfl (by simp)
  have hNM : PcsM m1 v22 N1 := ⟨row_SlM (m := m1) (st0.at (i := 0) rfl) hm1, hP1.mono hg1.le⟩
  have st : St m m1 [] wI w [] := st
  have hR1 : N1.map (·.1) = N.map (·.1) ++ [x] := by rw [hN1, List.map_append]; rfl
  refine wl_val (v_assign' (by conv => (lhs; whnf))) rfl ?_
  refine wl_nil ?_
  refine then_go ?_
  refine wc_seq ?_
  refine wc_seq ?_
  refine wc_region ?_
  refine wl_val (v_move' (by conv => (lhs; whnf))) rfl ?_
  refine wl_val (v_move' (by conv => (lhs; whnf))) rfl ?_
  refine wl_call rfl (c_fits st.im hNM hN1x (by omega) hn hn2) rfl ?_
  rintro v25 w ⟨t25, rfl⟩
  have st := st.pure t25
  rw [hR1]
  refine wl_val (v_not rfl) rfl ?_
  refine wl_nil ?_
  refine then_go ?_
  refine wc_cond rfl (fun h26 => ?_) (fun h26 => ?_)
  ·refine wc_seq ?_
   refine wc_region ?_
   refine wl_val (v_move' (by conv => (lhs; whnf))) rfl ?_
   refine wl_val (v_assign' (by conv => (lhs; whnf))) rfl ?_
   refine wl_val (v_assign' (by conv => (lhs; whnf))) rfl ?_
   refine wl_nil ?_
   refine then_go ?_
   refine wc_ret (then_ret ?_)
   have hR : appR (N.map (·.1)) x n = 13 := by unfold appR; rw [if_neg hc0, if_neg (by simpa using h26)]
   exact ret2 rfl rfl (st.out ⟨_, by rw [hR]; rfl, by rw [hR, if_neg (by decide)]; exact hN.mono hg1.le⟩)
  ·refine wc_skip ?_
   refine then_go ?_
   refine wc_seq ?_
   refine wc_region ?_
   refine wl_val (v_move' (by conv => (lhs; whnf))) rfl ?_
   refine wl_val (v_assign' (by conv => (lhs; whnf))) rfl ?_
   refine wl_val (v_assign' (by conv => (lhs; whnf))) rfl ?_
   refine wl_nil ?_
   refine then_go ?_
   refine wc_ret ?_
   have hR : appR (N.map (·.1)) x n = 0 := by unfold appR; rw [if_neg hc0, if_pos (by simpa using h26)]
   exact ret2 rfl rfl (st.out ⟨_, by rw [hR]; rfl, by rw [hR, if_pos rfl, ← hN1]; exact hNM⟩)
theorem c_rrestart {lv mv : Value} {N M : List (By × Value)} {n : Nat} (him : Im m wI) (hN : PcsM m lv N) (hM : PcsM m mv M) (hMn : M.length ≤ 1048576) (hn : n ≤ 1000000) (hn2 : 2 ≤ n) :
  Ret Try.prog 38 #[lv, mv, .int .i64 n] wI fun v' w' => Tch wI w' [] [] ∧ v' = .tuple #[if resR (M.map (·.1)) n = 0 then mv else lv, .int .i64 (resR (M.map (·.1)) n : Nat)] := by
 have st := St.start him
 obtain ⟨la, lc, rfl⟩ := hN.sl
 obtain ⟨na, nc, rfl⟩ := hM.sl
 refine ret_of Try.call38 Try.func38 rfl Try.ntmps38 Try.results38 rfl ?_
 refine wc_seq ?_
 refine wc_region ?_
 refine wl_val (v_assign' (by conv => (lhs; whnf))) rfl ?_
 refine wl_val (v_assign' (by conv => (lhs; whnf))) rfl ?_
 refine wl_nil ?_
 refine then_go ?_
 refine wc_seq ?_
 refine wc_seq ?_
 refine wc_region ?_
 refine wl_val (v_assign' (by conv => (lhs; whnf))) rfl ?_
 refine wl_nil ?_
 refine then_go ?_
 refine wc_block ?_
 refine wc_loop (S := Nat) (fun q r w' => ∃ (i : Nat), q + i = M.length ∧ r 0 = .slice la N.length lc ∧ r 1 = .slice na M.length nc ∧ r 2 = .int .i64 n ∧ r 8 = .int .i64 i ∧ (∀ x ∈ M.take i, ¬ checkE x.1 ≠ 0) ∧ St m m [] wI w' []) id M.length ⟨0, by omega, rfl, rfl, rfl, rfl, by simp, st⟩ ?_
 clear st
 rintro q r w2 ⟨i, hqi, g0, g1, g2, g8, hck, st⟩
 refine wc_o 0 g0 (wc_o 1 g1 (wc_o 2 g2 (wc_o 8 g8 ?_)))
 refine wc_seq ?_
 refine wc_seq ?_
 refine wc_region ?_
 refine wl_val (v_move' (by conv => (lhs; whnf))) rfl ?_
 refine wl_val (v_move' (by conv => (lhs; whnf))) rfl ?_
 refine wl_val (v_len_s Try.underlying29 rfl) rfl ?_
 refine wl_val (v_lss rfl rfl) rfl ?_
 refine wl_nil ?_
 refine then_go ?_
 refine wc_if rfl (fun h13 => ?_) (fun h13 => ?_)
 ·refine wc_skip ?_
  refine then_go ?_
  refine wc_seq ?_
  refine wc_block ?_
  refine wc_seq ?_
  have hi : i < M.length := by omega
  obtain ⟨nb, no, _, hnv, hsk, hrk⟩ := hM.elem hi
  cases hnv
  refine wc_region ?_
  refine wl_val (v_move' (by conv => (lhs; whnf))) rfl ?_
  refine wl_val (v_move' (by conv => (lhs; whnf))) rfl ?_
  refine wl_val (v_ias i Try.underlying29 TF.t30 rfl rfl (by first | rfl | omega) (by first | omega | (dsimp only at *; omega))) rfl ?_
  refine wl_val (v_load rfl (hrk st.im)) rfl ?_
  refine wl_call rfl (c_rcheck st.im hsk) rfl ?_
  rintro v20 w ⟨t20, rfl⟩
  have st := st.pure t20
  refine wl_val (v_assign' (by conv => (lhs; whnf))) rfl ?_
  refine wl_nil ?_
  refine then_go ?_
  refine wc_seq ?_
  refine wc_region ?_
  refine wl_val (v_move' (by conv => (lhs; whnf))) rfl ?_
  refine wl_val (v_neq rfl rfl) rfl ?_
  refine wl_nil ?_
  refine then_go ?_
  refine wc_cond rfl (fun h22 => ?_) (fun h22 => ?_)
  ·refine wc_seq ?_
   refine wc_region ?_
   refine wl_val (v_move' (by conv => (lhs; whnf))) rfl ?_
   refine wl_val (v_move' (by conv => (lhs; whnf))) rfl ?_
   refine wl_val (v_assign' (by conv => (lhs; whnf))) rfl ?_
   refine wl_val (v_assign' (by conv => (lhs; whnf))) rfl ?_
   refine wl_nil ?_
   refine then_go ?_
   refine wc_ret (block_ret (then_ret (then_ret (block_ret (then_ret ?_)))))
   have hz := of_decide_eq_true h22
   have h1 : checkE M[i].1 = 1 := (checkE_or _).resolve_left fun h => hz (by rw [h]; rfl)
   have hR : resR (M.map (·.1)) n = 1 := by unfold resR; rw [if_pos ⟨_, List.mem_map.2 ⟨_, List.getElem_mem hi, rfl⟩, by omega⟩]
   exact ret2 rfl rfl ⟨st.touch, by rw [hR, h1, if_neg (by decide)]; rfl⟩
  ·refine wc_skip ?_
   refine block_go (then_go ?_)
   refine wc_region ?_
   refine wl_val (v_move' (by conv => (lhs; whnf))) rfl ?_
   refine wl_val (v_add' (c := ((i + 1 : Nat) : Int)) rfl rfl (by omega) (by omega) (by omega)) rfl ?_
   refine wl_val (v_assign' (by conv => (lhs; whnf))) rfl ?_
   refine wl_nil ?_
   refine then_go ?_
   refine ⟨q - 1, by simp; omega, i + 1, by omega, rfl, rfl, rfl, rfl, fun x hx => ?_, st⟩
   rw [List.take_succ_eq_append_getElem hi] at hx
   rcases List.mem_append.1 hx with hx | hx
   ·exact hck x hx
   ·rw [List.mem_singleton.1 hx]
    exact fun h => of_decide_eq_false h22 (by omega)
 ·refine wc_exit (then_exit (then_exit (block_hit ?_)))
  refine then_go ?_
  refine wc_seq ?_
  refine wc_seq ?_
  refine wc_region ?_
  refine wl_val (v_move' (by conv => (lhs; whnf))) rfl ?_
  refine wl_val (v_move' (by conv => (lhs; whnf))) rfl ?_
  have hiN : i = M.length := by omega
  subst hiN
  rw [List.take_length] at hck
  have hnb : ¬ ∃ b ∈ M.map (·.1), checkE b ≠ 0 := by
   rintro ⟨x, hx, hz⟩
   obtain ⟨y, hy, rfl⟩ := List.mem_map.1 hx
   exact hck y hy hz
  refine wl_call rfl (c_fits st.im hM (fun x hx => by have := (checkE_len (hck x hx)).2; omega) (by omega) hn hn2) rfl ?_
  rintro v27 w ⟨t27, rfl⟩
  have st := st.pure t27
  refine wl_val (v_not rfl) rfl ?_
  refine wl_nil ?_
  refine then_go ?_
  refine wc_cond rfl (fun h28 => ?_) (fun h28 => ?_)
  ·refine wc_seq ?_
   refine wc_region ?_
   refine wl_val (v_move' (by conv => (lhs; whnf))) rfl ?_
   refine wl_val (v_assign' (by conv => (lhs; whnf))) rfl ?_
   refine wl_val (v_assign' (by conv => (lhs; whnf))) rfl ?_
   refine wl_nil ?_
   refine then_go ?_
   refine wc_ret (then_ret ?_)
   have hR : resR (M.map (·.1)) n = 13 := by unfold resR; rw [if_neg hnb, if_neg (by simpa using h28)]
   exact ret2 rfl rfl ⟨st.touch, by rw [hR, if_neg (by decide)]; rfl⟩
  ·refine wc_skip ?_
   refine then_go ?_
   refine wc_seq ?_
   refine wc_region ?_
   refine wl_val (v_move' (by conv => (lhs; whnf))) rfl ?_
   refine wl_val (v_assign' (by conv => (lhs; whnf))) rfl ?_
   refine wl_val (v_assign' (by conv => (lhs; whnf))) rfl ?_
   refine wl_nil ?_
   refine then_go ?_
   refine wc_ret ?_
   have hR : resR (M.map (·.1)) n = 0 := by unfold resR; rw [if_neg hnb, if_pos (by simpa using h28)]
   exact ret2 rfl rfl ⟨st.touch, by rw [hR, if_pos rfl]; rfl⟩
end
end Go.Proofs.Ytnaoafogdplnaaa

namespace Go.Proofs.Ytnaoafogdplnaaa
open Go Go.RowKit Go.ChangeShapes Go.WideShapes K SH DK JR
section
variable {H : Type} {enc : TypeId × Value → H} {w : World} {sp : Nat → Bool} {held : Bool} {fuel : Nat} {x : DataW H × List MemPlace} {v : Value} {cs : List Value}
theorem trod_op (h : DataW.trod enc Try.prog w 0 sp held fuel 32 cs = some x) : ∃ o : OpV, cs = opC o ∧ OpOk (heapM w) o ∧ o.M.length ≤ Rows.uptoBulk x.1 := by
 have hl := trod_len Try.underlying32 TF.t32 h
 obtain ⟨_, _, e0⟩ := trod_seg TF.f32_0 TF.t4 h
 obtain ⟨_, _, e1⟩ := trod_seg TF.f32_1 TF.t30 h
 obtain ⟨_, y, e2, hy⟩ := trod_segB TF.f32_2 TF.t29 h
 match cs, hl with
 | [a, b, c], _ =>
  obtain ⟨ag, q0⟩ := trod_bo e0
  obtain ⟨B, hB, _⟩ := open_bytes (v := b) e1
  obtain ⟨M, hM, _, hMl⟩ := open_rowsB (v := c) e2
  have q0 : [a] = [.bool ag] := q0
  rw [List.cons.injEq] at q0
  exact ⟨⟨ag, B, b, M, c⟩, by rw [q0.1]; rfl, ⟨hB, hM⟩, Nat.le_trans hMl hy⟩
theorem open_jopsB (h : DataW.trod enc Try.prog w 0 sp held fuel 22 [v] = some x) : ∃ L : List OpV, OpsM (heapM w) v L ∧ ∀ o ∈ L, o.M.length ≤ Rows.uptoBulk x.1 := by
 obtain ⟨L, h1, h2, _⟩ := trod_listB (c := opC) (Q := fun o n => OpOk (heapM w) o ∧ o.M.length ≤ n) Try.underlying22 TF.t32 (by decide) (fun h => by obtain ⟨o, q1, q2, q3⟩ := trod_op h; exact ⟨o, q1, q2, q3⟩) (fun h hle => ⟨h.1, Nat.le_trans h.2 hle⟩) h
 exact ⟨L, ⟨h1, fun o ho => (h2 o ho).1⟩, fun o ho => (h2 o ho).2⟩
end
end Go.Proofs.Ytnaoafogdplnaaa

namespace Go.Proofs.Ytnaoafogdplnaaa
open Go Go.RowKit K
def objE (b : Nat) (o : Obj) : Ent where
 foot := [b]
 holds := fun w => w.heap[b]? = some o
 keep := fun h hw => by rw [h b (by simp)]; exact hw
 live := fun h k hk => by simp at hk; subst hk; exact lt_of_get h
section
variable {m0 m : Mem} {F : List Nat} {w0 w : World} {Es : List Ent}
theorem K.St.freezeO (h : St m0 m F w0 w Es) {i b : Nat} {ob : Obj} (hi : Es[i]? = some (objE b ob)) (hb : b ∉ F) :
  ∃ m', Grow m m' w0.heap.size ∧ m' b = some ob ∧ St m0 m' F w0 w (Es.eraseIdx i) := by
 have hmem := List.mem_of_getElem? hi
 have ho := h.own _ hmem b (by simp [objE])
 have hB : w0.heap.size ≤ b := ho.2.resolve_right hb
 have hg : Grow m (fun k => if k = b then some ob else m k) w0.heap.size := by
  refine ⟨fun k o hk => ?_, fun k o hk => ?_⟩
  ·have : k ≠ b := fun e => by rw [e, ho.1] at hk; cases hk
   simp [this, hk]
  ·by_cases hkb : k = b
   ·exact .inr (hkb ▸ hB)
   ·simp [hkb] at hk; exact .inl hk
 refine ⟨_, hg, by simp, ⟨h.touch, h.grow.trans hg (Nat.le_refl _), ?_, (h.drop i).holds, (h.drop i).sep, ?_⟩⟩
 ·intro k o hk
  by_cases hkb : k = b
  ·subst hkb
   simp at hk
   rw [← hk]
   exact h.at hi
  ·simp [hkb] at hk; exact h.im k o hk
 ·intro E hE k hk
  have hE' := List.mem_of_mem_eraseIdx hE
  refine ⟨?_, (h.own E hE' k hk).2⟩
  have hne : k ≠ b := by
   intro e
   subst e
   have hlt : i < Es.length := by
    rcases Nat.lt_or_ge i Es.length with h' | h'
    ·exact h'
    ·rw [List.getElem?_eq_none h'] at hi; cases hi
   have hget : Es[i] = objE k ob := by rw [List.getElem?_eq_getElem hlt] at hi; exact Option.some.inj hi
   obtain ⟨j, hj, hje⟩ := List.getElem_of_mem hE
   rw [List.getElem_eraseIdx] at hje
   have hpw := List.pairwise_iff_getElem.1 h.sep
   split at hje
   ·rename_i hji
    have hj' : j < Es.length := by omega
    exact hpw j i hj' hlt hji k (by rw [hje]; exact hk) (by rw [hget]; simp [objE])
   ·rename_i hji
    have hj' : j + 1 < Es.length := by rw [List.length_eraseIdx] at hj; split at hj <;> omega
    exact hpw i (j + 1) hlt hj' (by omega) k (by rw [hget]; simp [objE]) (by rw [hje]; exact hk)
  simp [hne, (h.own E hE' k hk).1]
end
section
variable {P : Program} {n : Nat} {ops : Array Oper} {Q : Po} {rest : List Oper} {r : Fr} {w : World} {d : Nat} {ty : TypeId} {pos : String} {after : Array Edge} {m0 m : Mem} {F : List Nat} {w0 : World} {Es : List Ent}
theorem wl_constB {T E b l c : Nat} {C : Array Value} {x : Operand} (hT : P.underlying T = some (.slice E)) (hE : P.underlying E = some (.int .u8)) (hx : ev r x = .slice (some ⟨b, 0, none⟩) l c) (st : St m0 m F w0 w (blk b C E :: Es)) (hF : b ∉ F) (hd : Nat.blt d n = true)
  (k : ∀ m' w', (∀ k o, m k = some o → m' k = some o) → m' b = some (.cells C E (C.size, C.size + 1)) → St m0 m' F w0 w' Es → WL P n ops Q rest (upd d (.slice (some ⟨b, 0, none⟩) l c) r) w') :
  WL P n ops Q (⟨some d, .convert T T x, ty, pos, after, none⟩ :: rest) r w := by
 have hb : w.heap[b]? = some (.cells C E (0, 0)) := st.at (i := 0) rfl
 have hlt : b < w.heap.size := lt_of_get hb
 have hsh : w.shape? b = some (E, C.size) := by unfold World.shape?; rw [hb]
 have hrun : (convert T T (.slice (some ⟨b, 0, none⟩) l c)).run P w = .ok (.slice (some ⟨b, 0, none⟩) l c) (w.freeze ⟨b, C.size, none⟩ 1) := by
  simp [convert, run_underlying hT, run_underlying hE, markStringish, hsh]
 have hnb : (w.freeze ⟨b, C.size, none⟩ 1).heap[b]? = some (.cells C E (C.size, C.size + 1)) := by
  unfold World.freeze
  rw [if_neg (by decide)]
  show (w.heap.modify b _)[b]? = _
  rw [Array.getElem?_modify, if_pos rfl, hb]
  rfl
 have ht : Tch w (w.freeze ⟨b, C.size, none⟩ 1) [b] [b] := by
  refine ⟨?_, ?_, ?_, ?_, fun k hk hkb => ?_, fun _ h => .inl h⟩
  ·unfold World.freeze; rw [if_neg (by decide)]
  ·unfold World.freeze; rw [if_neg (by decide)]
  ·unfold World.freeze; rw [if_neg (by decide)]
  ·unfold World.freeze
   rw [if_neg (by decide)]
   show w.heap.size ≤ (w.heap.modify b _).size
   simp
  ·unfold World.freeze
   rw [if_neg (by decide)]
   show (w.heap.modify b _)[k]? = _
   rw [Array.getElem?_modify, if_neg (fun e => hkb (by simp [e]))]
 have st1 := st.step (E' := objE b (.cells C E (C.size, C.size + 1))) 0 rfl ht hnb
 obtain ⟨m', hg, hm, st2⟩ := K.St.freezeO st1 (i := 0) rfl hF
 refine wl_val (v := .slice (some ⟨b, 0, none⟩) l c) (w' := w.freeze ⟨b, C.size, none⟩ 1) ?_ hd (k m' _ hg.le hm st2)
 intro _ _ _ _
 simp only [execOp, hx, Sem.run_bind, hrun, Result.andThen_ok, Sem.run_pure]
end
end Go.Proofs.Ytnaoafogdplnaaa

namespace Go.Proofs.Ytnaoafogdplnaaa
open Go Go.RowKit K SH DK JR
def actD (n : Nat) (d : DS) (s : LG) (L : List By) (o : OpV) : DS × LG × Int := if o.ag = true then resD n d s (o.M.map (·.1)) else appD n d s L o.B
def actR (W : List By) (o : OpV) (n : Nat) : Nat := if o.ag = true then resR (o.M.map (·.1)) n else appR W o.B n
def nxt (W : List By) (o : OpV) : List By := if o.ag = true then o.M.map (·.1) else W ++ [o.B]
def nxtV (W : List (By × Value)) (o : OpV) : List (By × Value) := if o.ag = true then o.M else W ++ [(o.B, o.bv)]
theorem nxtV_fst {W : List (By × Value)} {o : OpV} : (nxtV W o).map (·.1) = nxt (W.map (·.1)) o := by
 unfold nxtV nxt
 split
 ·rfl
 ·rw [List.map_append]; rfl
section
variable {m0 m : Mem} {w0 w : World} {Es : List Ent}
def DoOut (m0 m : Mem) (w0 w' : World) (Es : List Ent) (g b s n : Nat) (d : DS) (sl : LG) (L : List By) (W : List (By × Value)) (o : OpV) (v : Value) : Prop :=
 ∃ m' wv' lv' N' mv, (∀ k o, m k = some o → m' k = some o) ∧ v = .tuple #[mv, .int .i64 (actD n d sl L o).2.2, .int .i64 (actR (W.map (·.1)) o n : Nat)] ∧ Pcs m' N' ∧ N'.map (·.1) = (if (actD n d sl L o).2.2 = 0 then nxt L o else L) ∧
  PcsM m' mv (if actR (W.map (·.1)) o n = 0 then nxtV W o else W) ∧ St m0 m' [] w0 w' (logB g b (actD n d sl L o).2.1 lv' :: lrE lv' N' :: diskO b s n wv' (actD n d sl L o).1 :: Es)
theorem c_do {g b s n : Nat} {sl : LG} {lv wv wl : Value} {d : DS} {N W : List (By × Value)} {o : OpV} (st : St m0 m [] w0 w (logB g b sl lv :: lrE lv N :: diskO b s n wv d :: Es)) (hr : Rdy n d 100000) (hP : Pcs m N) (hn8 : 8 ≤ n) (hsl : sl.half ≤ 1) (hf1 : sl.fin ≤ n / 2 * 64) (hNn : N.length ≤ 100000)
  (hW : PcsM m wl W) (hWl : ∀ y ∈ W, y.1.length ≤ 1048576) (hWn : W.length ≤ 100000) (ho : OpOk m o) (hoM : o.M.length ≤ 1048576) :
  Ret Try.prog 11 #[.pointer (some ⟨g, 0, none⟩), wl, .agg (opC o).toArray, .int .i64 n] w fun v w' => DoOut m0 m w0 w' Es g b s n d sl (N.map (·.1)) W o v := by
 have hn := hr.ok.le
 obtain ⟨hB, hM⟩ := ho
 have hNl : (N.map (·.1)).length = N.length := List.length_map _
 refine ret_of Try.call11 Try.func11 rfl Try.ntmps11 Try.results11 rfl ?_
 refine wc_seq ?_
 refine wc_region ?_
 refine wl_box (v := .agg (opC o).toArray) rfl st rfl ?_
 intro b6 w st
 have st : St m0 m [] w0 w (logB g b sl lv :: lrE lv N :: diskO b s n wv d :: K.blk b6 (opC o).toArray 32 :: Es) := st.perm (List.perm_middle (l₁ := [_, _, _])).symm
 refine wl_val (v_assign' (by conv => (lhs; whnf))) rfl ?_
 refine wl_val (v_assign' (by conv => (lhs; whnf))) rfl ?_
 refine wl_val (v_assign' (by conv => (lhs; whnf))) rfl ?_
 refine wl_nil ?_
 refine then_go ?_
 refine wc_seq ?_
 refine wc_seq ?_
 refine wc_region ?_
 refine wl_val (v_fa TF.f32_0 rfl) rfl ?_
 refine wl_val (v_load rfl (st.reads (v := .bool o.ag) 3 rfl TF.t4 rfl)) rfl ?_
 refine wl_nil ?_
 refine then_go ?_
 refine wc_cond rfl (fun h16 => ?_) (fun h16 => ?_)
 ·refine wc_seq ?_
  refine wc_region ?_
  refine wl_val (v_move' (by conv => (lhs; whnf))) rfl ?_
  refine wl_val (v_fa TF.f32_2 rfl) rfl ?_
  refine wl_val (v_load rfl (st.reads (v := o.lv) 3 rfl TF.t29 rfl)) rfl ?_
  refine wl_val (v_move' (by conv => (lhs; whnf))) rfl ?_
  refine wl_call rfl (c_rrestart st.im hW hM hoM (by omega) (by omega)) rfl ?_
  rintro v22 w ⟨t22, rfl⟩
  have st := st.pure t22
  refine wl_val (v_move' (by conv => (lhs; whnf))) rfl ?_
  refine wl_val (v_extract rfl rfl) rfl ?_
  refine wl_val (v_extract rfl rfl) rfl ?_
  refine wl_val (v_assign' (by conv => (lhs; whnf))) rfl ?_
  refine wl_val (v_assign' (by conv => (lhs; whnf))) rfl ?_
  refine wl_nil ?_
  refine then_go ?_
  refine wc_seq ?_
  refine wc_region ?_
  refine wl_val (v_move' (by conv => (lhs; whnf))) rfl ?_
  refine wl_val (v_move' (by conv => (lhs; whnf))) rfl ?_
  refine wl_val (v_fa TF.f32_2 rfl) rfl ?_
  refine wl_val (v_load rfl (st.reads (v := o.lv) 3 rfl TF.t29 rfl)) rfl ?_
  refine wl_call rfl (c_restart st hr hP hn8 hsl hM hoM) rfl ?_
  rintro v29 w ⟨m1, wv1, lv1, N1, hmm1, rfl, hP1, hN1, st⟩
  refine wl_val (v_move' (by conv => (lhs; whnf))) rfl ?_
  refine wl_val (v_assign' (by conv => (lhs; whnf))) rfl ?_
  refine wl_val (v_assign' (by conv => (lhs; whnf))) rfl ?_
  refine wl_val (v_assign' (by conv => (lhs; whnf))) rfl ?_
  refine wl_nil ?_
  refine then_go ?_
  refine wc_ret (then_ret ?_)
  have e1 : actD n d sl (N.map (·.1)) o = resD n d sl (o.M.map (·.1)) := by unfold actD; rw [if_pos h16]
  have e2 : actR (W.map (·.1)) o n = resR (o.M.map (·.1)) n := by unfold actR; rw [if_pos h16]
  refine ret3 rfl rfl rfl ⟨m1, wv1, lv1, N1, _, hmm1, by rw [e1, e2]; rfl, hP1, by rw [e1, hN1]; unfold nxt; rw [if_pos h16], ?_, by rw [e1]; exact st.keepOnly (List.Sublist.cons_cons _ (List.Sublist.cons_cons _ (List.Sublist.cons_cons _ (List.sublist_cons_self _ _))))⟩
  rw [e2]
  unfold nxtV
  rw [if_pos h16]
  show PcsM m1 (if resR (o.M.map (·.1)) n = 0 then o.lv else wl) _
  split
  ·exact hM.mono hmm1
  ·exact hW.mono hmm1
 ·refine wc_skip ?_
  refine then_go ?_
  refine wc_seq ?_
  refine wc_region ?_
  refine wl_val (v_move' (by conv => (lhs; whnf))) rfl ?_
  refine wl_val (v_fa TF.f32_1 rfl) rfl ?_
  refine wl_val (v_load rfl (st.reads (v := o.bv) 3 rfl TF.t30 rfl)) rfl ?_
  refine wl_val (v_move' (by conv => (lhs; whnf))) rfl ?_
  refine wl_call rfl (c_rappend st.im hW hWl hWn hB (by omega) (by omega)) rfl ?_
  rintro v36 w ⟨t36, m1, hg1, hi1, mv, rfl, hmv⟩
  have st := st.grown hg1 t36 hi1
  have hP := hP.mono hg1.le
  have hB := hB.mono hg1.le
  refine wl_val (v_move' (by conv => (lhs; whnf))) rfl ?_
  refine wl_val (v_extract rfl rfl) rfl ?_
  refine wl_val (v_extract rfl rfl) rfl ?_
  refine wl_val (v_assign' (by conv => (lhs; whnf))) rfl ?_
  refine wl_val (v_assign' (by conv => (lhs; whnf))) rfl ?_
  refine wl_nil ?_
  refine then_go ?_
  refine wc_seq ?_
  refine wc_region ?_
  refine wl_val (v_move' (by conv => (lhs; whnf))) rfl ?_
  refine wl_val (v_move' (by conv => (lhs; whnf))) rfl ?_
  refine wl_val (v_fa TF.f32_1 rfl) rfl ?_
  refine wl_val (v_load rfl (st.reads (v := o.bv) 3 rfl TF.t30 rfl)) rfl ?_
  refine wl_call rfl (c_append st hr hP hB hsl hf1 (by omega)) rfl ?_
  rintro v43 w ⟨m2, wv1, lv1, N1, hmm1, rfl, hP1, hN1, st⟩
  refine wl_val (v_move' (by conv => (lhs; whnf))) rfl ?_
  refine wl_val (v_assign' (by conv => (lhs; whnf))) rfl ?_
  refine wl_val (v_assign' (by conv => (lhs; whnf))) rfl ?_
  refine wl_val (v_assign' (by conv => (lhs; whnf))) rfl ?_
  refine wl_nil ?_
  refine then_go ?_
  refine wc_ret ?_
  have h16' : ¬ o.ag = true := by rw [h16]; decide
  have e1 : actD n d sl (N.map (·.1)) o = appD n d sl (N.map (·.1)) o.B := by unfold actD; rw [if_neg h16']
  have e2 : actR (W.map (·.1)) o n = appR (W.map (·.1)) o.B n := by unfold actR; rw [if_neg h16']
  refine ret3 rfl rfl rfl ⟨m2, wv1, lv1, N1, mv, fun k o h => hmm1 k o (hg1.le k o h), by rw [e1, e2]; rfl, hP1, by rw [e1, hN1]; unfold nxt; rw [if_neg h16'], ?_, by rw [e1]; exact st.keepOnly (List.Sublist.cons_cons _ (List.Sublist.cons_cons _ (List.Sublist.cons_cons _ (List.sublist_cons_self _ _))))⟩
  rw [e2]
  unfold nxtV
  rw [if_neg h16']
  exact hmv.mono hmm1
theorem c_fresh {z : Int} (st : St m0 m [] w0 w Es) :
  Ret Try.prog 8 #[.int .i64 z] w fun v w' => ∃ m' b s wv g lv n S sl, 8 ≤ n ∧ n ≤ 47 ∧ LogOk n S sl [] ∧ sl.gen = 1 ∧ (∀ k o, m k = some o → m' k = some o) ∧ v = .tuple #[.pointer (some ⟨b, 0, none⟩), .pointer (some ⟨g, 0, none⟩)] ∧ St m0 m' [] w0 w' (logB g b sl lv :: lrE lv [] :: diskO b s n wv (calm S) :: Es) := by
 refine ret_of Try.call8 Try.func8 rfl Try.ntmps8 Try.results8 rfl ?_
 refine wc_seq ?_
 refine wc_region ?_
 refine wl_val (v_assign' (by conv => (lhs; whnf))) rfl ?_
 refine wl_val (v_assign' (by conv => (lhs; whnf))) rfl ?_
 refine wl_nil ?_
 refine then_go ?_
 refine wc_seq ?_
 obtain ⟨u, hu⟩ : ∃ u, u = IntKind.u64.wrap z := ⟨_, rfl⟩
 have hu0 : 0 ≤ u := by rw [hu, IntKind.wrap_u64]; omega
 obtain ⟨k, hk⟩ : ∃ k : Nat, u % 40 = k := ⟨(u % 40).toNat, (Int.toNat_of_nonneg (Int.emod_nonneg _ (by omega))).symm⟩
 have hkl : k < 40 := by omega
 refine wc_region ?_
 refine wl_val (v_move' (by conv => (lhs; whnf))) rfl ?_
 refine wl_val (v_to (v' := .int .u64 u) (v_conv Try.underlying3 Try.underlying42 rfl) (by rw [hu])) rfl ?_
 refine wl_val (v_rem' rfl rfl hu0 (by omega) hk) rfl ?_
 refine wl_val (v_to (v' := .int .i64 (k : Nat)) (v_conv Try.underlying42 Try.underlying3 rfl) (by rw [wrap_i64 (by omega) (by omega)])) rfl ?_
 refine wl_val (v_add' (c := ((8 + k : Nat) : Int)) rfl rfl (by omega) (by omega) (by omega)) rfl ?_
 refine wl_call rfl (c_new ((8 + k : Nat) : Int) st.im) rfl ?_
 intro v13 w h13
 rw [if_neg (by omega)] at h13
 obtain ⟨p, ⟨b, s, wv, rfl, t13, hE⟩, rfl⟩ := h13
 have st := st.new t13 hE
 obtain ⟨n, hn⟩ : ∃ n, n = 8 + k := ⟨_, rfl⟩
 have hn8 : 8 ≤ n := by omega
 have hn2 : n ≤ 47 := by omega
 have st : St m0 m [] w0 w (diskO b s n wv (calm (List.replicate (64 * n) 0)) :: Es) := by rw [hn]; exact st
 obtain ⟨S', s', ho, hlog, hgen⟩ := open_new hn8 (by omega : n ≤ 16384)
 refine wl_val (v_move' (by conv => (lhs; whnf))) rfl ?_
 refine wl_val (v_extract rfl rfl) rfl ?_
 refine wl_val (v_extract rfl rfl) rfl ?_
 refine wl_val (v_assign' (by conv => (lhs; whnf))) rfl ?_
 refine wl_val (v_assign' (by conv => (lhs; whnf))) rfl ?_
 refine wl_nil ?_
 refine then_go ?_
 refine wc_seq ?_
 refine wc_seq ?_
 refine wc_region ?_
 refine wl_val (v_move' (by conv => (lhs; whnf))) rfl ?_
 refine wl_val (wl_valD (v_neq rfl rfl) (q := false) rfl) rfl ?_
 refine wl_val (v_move' (by conv => (lhs; whnf))) rfl ?_
 refine wl_on rfl rfl ?_
 refine wl_val (v_move' (by conv => (lhs; whnf))) rfl ?_
 refine wl_on rfl rfl ?_
 refine wl_val (v_eq_nil (p := some ⟨b, 0, none⟩) Try.underlying23 rfl rfl) rfl ?_
 refine wl_val (v_pick rfl) rfl ?_
 refine wl_nil ?_
 refine then_go ?_
 refine wc_false rfl ?_
 refine wc_skip ?_
 refine then_go ?_
 refine wc_seq ?_
 refine wc_region ?_
 refine wl_val (v_move' (by conv => (lhs; whnf))) rfl ?_
 refine wl_call rfl (c_open st (by simp) hn8 (by omega) (by rw [ho])) rfl ?_
 rintro v24 w ⟨m1, wv1, g, lv, N', hmm1, rfl, hP, hN, st⟩
 rw [ho] at hN st ⊢
 have hN0 : N' = [] := List.map_eq_nil_iff.1 hN
 subst hN0
 refine wl_val (v_move' (by conv => (lhs; whnf))) rfl ?_
 refine wl_val (v_extract rfl rfl) rfl ?_
 refine wl_val (v_extract rfl rfl) rfl ?_
 refine wl_val (v_assign' (by conv => (lhs; whnf))) rfl ?_
 refine wl_val (v_assign' (by conv => (lhs; whnf))) rfl ?_
 refine wl_nil ?_
 refine then_go ?_
 refine wc_seq ?_
 refine wc_seq ?_
 refine wc_region ?_
 refine wl_val (v_move' (by conv => (lhs; whnf))) rfl ?_
 refine wl_val (v_neq rfl rfl) rfl ?_
 refine wl_nil ?_
 refine then_go ?_
 refine wc_false rfl ?_
 refine wc_skip ?_
 refine then_go ?_
 refine wc_seq ?_
 refine wc_region ?_
 refine wl_val (v_move' (by conv => (lhs; whnf))) rfl ?_
 refine wl_val (v_move' (by conv => (lhs; whnf))) rfl ?_
 refine wl_val (v_assign' (by conv => (lhs; whnf))) rfl ?_
 refine wl_val (v_assign' (by conv => (lhs; whnf))) rfl ?_
 refine wl_nil ?_
 refine then_go ?_
 refine wc_ret ?_
 exact ret2 rfl rfl ⟨m1, b, s, wv1, g, lv, n, S', s', hn8, hn2, hlog, hgen, hmm1, rfl, st⟩
theorem act_ok {n : Nat} {S : By} {s : LG} {L : List By} {o : OpV} (h : LogOk n S s L) (hg : s.gen.toNat + 1 < 18446744073709551616) : ∃ S' s', actD n (calm S) s L o = (calm S', s', ((actR L o n : Nat) : Int)) ∧ LogOk n S' s' (if actR L o n = 0 then nxt L o else L) ∧ s'.gen = (if o.ag = true ∧ actR L o n = 0 then s.gen + 1 else s.gen) := by
 unfold actD actR nxt
 by_cases ha : o.ag = true
 ·simp only [if_pos ha]
  obtain ⟨S', s', h1, h2, h3⟩ := h.res hg (M := o.M.map (·.1))
  exact ⟨S', s', h1, h2, by rw [h3]; simp [ha]⟩
 ·simp only [if_neg ha]
  obtain ⟨S', s', h1, h2, h3, _⟩ := h.app (x := o.B)
  exact ⟨S', s', h1, h2, by rw [h3, if_neg (fun h => ha h.1)]⟩
theorem JR.LogOk.few {n : Nat} {S : By} {s : LG} {L : List By} (h : LogOk n S s L) : L.length ≤ 8192 ∧ ∀ x ∈ L, x.length ≤ 1048576 := by
 have h1 := sizeL_ge (l := L)
 have h2 := h.fit
 have h3 := h.nle
 exact ⟨by omega, fun x hx => (h.okr x hx).2⟩
theorem JR.LogOk.finle {n : Nat} {S : By} {s : LG} {L : List By} (h : LogOk n S s L) : s.fin ≤ n / 2 * 64 := by rw [h.fin]; exact h.fit
theorem c_works14 (st : St m0 m [] w0 w Es) : Ret Try.prog 10 #[] w fun v w' => (∃ m', (∀ k o, m k = some o → m' k = some o) ∧ St m0 m' [] w0 w' Es) ∧ v = .bool true := by
 refine ret_of Try.call10 Try.func10 rfl Try.ntmps10 Try.results10 rfl ?_
 refine wc_seq ?_
 refine wc_region ?_
 refine wl_val (v_assign' (by conv => (lhs; whnf))) rfl ?_
 refine wl_nil ?_
 refine then_go ?_
 refine wc_seq ?_
 refine wc_region ?_
 refine wl_call rfl (c_new 8 st.im) rfl ?_
 intro v7 w h7
 rw [if_neg (by decide)] at h7
 obtain ⟨p, ⟨b, s, wv, rfl, t7, hE⟩, rfl⟩ := h7
 have st := st.new t7 hE
 have st : St m0 m [] w0 w (diskO b s 8 wv (calm (List.replicate (64 * 8) 0)) :: Es) := st
 obtain ⟨S1, s1, ho, hlog, hgen⟩ := open_new (n := 8) (by decide) (by decide)
 refine wl_val (v_move' (by conv => (lhs; whnf))) rfl ?_
 refine wl_val (v_extract rfl rfl) rfl ?_
 refine wl_val (v_extract rfl rfl) rfl ?_
 refine wl_val (v_assign' (by conv => (lhs; whnf))) rfl ?_
 refine wl_val (v_assign' (by conv => (lhs; whnf))) rfl ?_
 refine wl_nil ?_
 refine then_go ?_
 refine wc_seq ?_
 refine wc_seq ?_
 refine wc_region ?_
 refine wl_val (v_move' (by conv => (lhs; whnf))) rfl ?_
 refine wl_val (wl_valD (v_neq rfl rfl) (q := false) rfl) rfl ?_
 refine wl_val (v_move' (by conv => (lhs; whnf))) rfl ?_
 refine wl_on rfl rfl ?_
 refine wl_val (v_move' (by conv => (lhs; whnf))) rfl ?_
 refine wl_on rfl rfl ?_
 refine wl_val (v_eq_nil (p := some ⟨b, 0, none⟩) Try.underlying23 rfl rfl) rfl ?_
 refine wl_val (v_pick rfl) rfl ?_
 refine wl_nil ?_
 refine then_go ?_
 refine wc_false rfl ?_
 refine wc_skip ?_
 refine then_go ?_
 refine wc_seq ?_
 refine wc_region ?_
 refine wl_val (v_move' (by conv => (lhs; whnf))) rfl ?_
 refine wl_call rfl (c_open st List.length_replicate (by decide) (by decide) (by rw [ho])) rfl ?_
 rintro v18 w ⟨m1, wv1, g, lv, N', hmm1, rfl, hP, hN, st⟩
 rw [ho] at hN st ⊢
 have hN0 : N' = [] := List.map_eq_nil_iff.1 hN
 subst hN0
 have st : St m0 m1 [] w0 w (logB g b s1 lv :: lrE lv [] :: diskO b s 8 wv1 (calm S1) :: Es) := st
 refine wl_val (v_move' (by conv => (lhs; whnf))) rfl ?_
 refine wl_val (v_extract rfl rfl) rfl ?_
 refine wl_val (v_extract rfl rfl) rfl ?_
 refine wl_val (v_assign' (by conv => (lhs; whnf))) rfl ?_
 refine wl_val (v_assign' (by conv => (lhs; whnf))) rfl ?_
 refine wl_nil ?_
 refine then_go ?_
 refine wc_seq ?_
 refine wc_seq ?_
 refine wc_region ?_
 refine wl_val (v_move' (by conv => (lhs; whnf))) rfl ?_
 refine wl_val (wl_valD (v_neq rfl rfl) (q := false) rfl) rfl ?_
 refine wl_val (v_move' (by conv => (lhs; whnf))) rfl ?_
 refine wl_on rfl rfl ?_
 refine wl_val (v_move' (by conv => (lhs; whnf))) rfl ?_
 refine wl_on rfl rfl ?_
 refine wl_val (v_eq_nil (p := some ⟨g, 0, none⟩) Try.underlying24 rfl rfl) rfl ?_
 refine wl_val (v_pick rfl) rfl ?_
 refine wl_val (v_move' (by conv => (lhs; whnf))) rfl ?_
 refine wl_on rfl rfl ?_
 refine wl_val (v_move' (by conv => (lhs; whnf))) rfl ?_
 refine wl_on rfl rfl ?_
 refine wl_byte1 97 Try.underlying30 TF.t5 TF.z5 rfl st rfl ?_
 intro b29 w st
 refine wl_on rfl rfl ?_
 refine wl_constB Try.underlying30 Try.underlying5 rfl st (by simp) rfl ?_
 intro m2 w hmm2 hm2 st
 have hmm2 : ∀ k o, m k = some o → m2 k = some o := fun k o h => hmm2 k o (hmm1 k o h)
 have hb29 : SlM m2 (.slice (some ⟨b29, 0, none⟩) 1 1) 1 ([97] : By).length (bs [97]) := SlM.ofBlock (o := 0) (cap := 1) (l := [97]) (pre := []) (post := []) hm2 rfl rfl (Nat.le_refl _)
 refine wl_on rfl rfl ?_
 refine wl_call rfl (c_append (N := []) st (rdy_calm hlog.len (by decide) (by decide)) (by intro x hx; cases hx) hb29 hlog.half hlog.finle (Nat.zero_le _)) rfl ?_
 rintro v31 w ⟨m3, wv3, lv3, N3, hmm3, rfl, hP3, hN3, st⟩
 obtain ⟨S2, s2, ha, hlog2, hg2, _⟩ := hlog.app (x := [97])
 have hR : appR [] [97] 8 = 0 := by decide
 rw [hR, if_pos rfl] at hlog2
 have ha : appD 8 (calm S1) s1 (([] : List (By × Value)).map (·.1)) [97] = (calm S2, s2, 0) := by rw [hR] at ha; exact ha
 rw [ha] at hN3 st ⊢
 have hmm3 : ∀ k o, m k = some o → m3 k = some o := fun k o h => hmm3 k o (hmm2 k o h)
 have st : St m0 m3 [] w0 w (logB g b s2 lv3 :: lrE lv3 N3 :: diskO b s 8 wv3 (calm S2) :: Es) := st
 refine wl_on rfl rfl ?_
 refine wl_val (wl_valD (v_neq rfl rfl) (q := false) rfl) rfl ?_
 refine wl_val (v_pick rfl) rfl ?_
 refine wl_nil ?_
 refine then_go ?_
 refine wc_false rfl ?_
 refine wc_skip ?_
 refine then_go ?_
 refine wc_seq ?_
 refine wc_region ?_
 refine wl_val (v_move' (by conv => (lhs; whnf))) rfl ?_
 refine wl_call rfl (disk_callI 2 st rfl (c_crash (keep := []) st.im (st.at (i := 2) rfl) (st.none (i := 2) rfl) (ok_calm hlog2.len (by decide) (by decide)) (Nat.zero_le _) SlM.nil)) rfl ?_
 rintro v35 w ⟨wv4, d4, st, rfl⟩
 have st : St m0 m3 [] w0 w (diskO b s 8 wv4 (calm S2) :: Es) := (st.drop 0).drop 0
 have hop2 := hlog2.opens
 refine wl_nil ?_
 refine then_go ?_
 refine wc_seq ?_
 refine wc_region ?_
 refine wl_val (v_move' (by conv => (lhs; whnf))) rfl ?_
 refine wl_call rfl (c_open st hlog2.len (by decide) (by decide) (by rw [hop2])) rfl ?_
 rintro v38 w ⟨m4, wv5, g2, lv5, N5, hmm4, rfl, hP5, hN5, st⟩
 rw [hop2] at hN5 st ⊢
 have hmm4 : ∀ k o, m k = some o → m4 k = some o := fun k o h => hmm4 k o (hmm3 k o h)
 have st : St m0 m4 [] w0 w (logB g2 b s2 lv5 :: lrE lv5 N5 :: diskO b s 8 wv5 (calm S2) :: Es) := st
 have hN5 : N5.map (·.1) = [[97]] := hN5
 refine wl_val (v_move' (by conv => (lhs; whnf))) rfl ?_
 refine wl_val (v_extract rfl rfl) rfl ?_
 refine wl_val (v_extract rfl rfl) rfl ?_
 refine wl_val (v_assign' (by conv => (lhs; whnf))) rfl ?_
 refine wl_val (v_assign' (by conv => (lhs; whnf))) rfl ?_
 refine wl_nil ?_
 refine then_go ?_
 refine wc_seq ?_
 refine wc_seq ?_
 refine wc_region ?_
 refine wl_val (v_move' (by conv => (lhs; whnf))) rfl ?_
 refine wl_val (wl_valD (v_neq rfl rfl) (q := false) rfl) rfl ?_
 refine wl_val (v_move' (by conv => (lhs; whnf))) rfl ?_
 refine wl_on rfl rfl ?_
 refine wl_val (v_move' (by conv => (lhs; whnf))) rfl ?_
 refine wl_on rfl rfl ?_
 refine wl_val (v_eq_nil (p := some ⟨g2, 0, none⟩) Try.underlying24 rfl rfl) rfl ?_
 refine wl_val (v_pick rfl) rfl ?_
 refine wl_nil ?_
 refine then_go ?_
 refine wc_false rfl ?_
 refine wc_skip ?_
 refine then_go ?_
 refine wc_seq ?_
 refine wc_region ?_
 refine wl_val (v_move' (by conv => (lhs; whnf))) rfl ?_
 refine wl_call rfl (c_logAll st hP5 (fun x hx => (hlog2.few).2 x.1 (by show x.1 ∈ [[97]]; rw [← hN5]; exact List.mem_map.2 ⟨x, hx, rfl⟩)) (by have := congrArg List.length hN5; rw [List.length_map] at this; rw [this]; decide)) rfl ?_
 rintro v48 w ⟨A, hA, st⟩
 obtain ⟨x, hAx⟩ : ∃ x, A = [([97], x)] := by
  rw [hN5] at hA
  match A, hA with
  | [y], hA => exact ⟨y.2, by rw [List.map_singleton, List.cons.injEq] at hA; rw [← hA.1]⟩
  | _ :: _ :: _, hA => simp at hA
 subst hAx
 have st : St m0 m4 [] w0 w (lrE v48 [([97], x)] :: byE x [97] :: logB g2 b s2 lv5 :: lrE lv5 N5 :: diskO b s 8 wv5 (calm S2) :: Es) := st
 have hM := lr_PcsM (N := [([97], x)]) st 0 rfl
 obtain ⟨va, vc, hv48⟩ := row_sl (st.at (i := 0) rfl)
 subst hv48
 have hxS := byE_SlM st 1 rfl
 have hpc : PcsM (heapM w) (.slice va 1 vc) [([97], x)] := ⟨row_SlM (m := heapM w) (st.at (i := 0) rfl) (fun _ _ _ h => h), fun y hy => by rw [List.mem_singleton.1 hy]; exact hxS⟩
 obtain ⟨eb, eo, _, hev, hse, hre⟩ := hpc.elem (i := 0) Nat.zero_lt_one
 cases hev
 refine wl_val (v_assign' (by conv => (lhs; whnf))) rfl ?_
 refine wl_nil ?_
 refine then_go ?_
 refine wc_seq ?_
 refine wc_region ?_
 refine wl_val (v_move' (by conv => (lhs; whnf))) rfl ?_
 refine wl_val (v_len_s Try.underlying29 rfl) rfl ?_
 refine wl_val (v_eqlT (by rfl) rfl rfl) rfl ?_
 refine wl_val (v_move' (by conv => (lhs; whnf))) rfl ?_
 refine wl_on rfl rfl ?_
 refine wl_val (v_move' (by conv => (lhs; whnf))) rfl ?_
 refine wl_on rfl rfl ?_
 refine wl_val (v_ias 0 Try.underlying29 TF.t30 rfl rfl (by first | rfl | omega) Nat.zero_lt_one) rfl ?_
 refine wl_on rfl rfl ?_
 refine wl_val (v_load rfl (hre (im_heapM _))) rfl ?_
 refine wl_on rfl rfl ?_
 refine wl_val (v_b2s Try.underlying30 Try.underlying5 Try.underlying9 (im_heapM _) hse rfl) rfl ?_
 refine wl_on rfl rfl ?_
 refine wl_val (wl_valD (v_eqs (b := [97]) rfl rfl) (q := true) (decide_eq_true rfl)) rfl ?_
 refine wl_val (v_pick rfl) rfl ?_
 refine wl_val (v_move' (by conv => (lhs; whnf))) rfl ?_
 refine wl_on rfl rfl ?_
 refine wl_val (v_move' (by conv => (lhs; whnf))) rfl ?_
 refine wl_on rfl rfl ?_
 have st := (st.drop 0).drop 0
 refine wl_call rfl (c_logGen (lv := lv5) st) rfl ?_
 rintro v61 w ⟨t61, rfl⟩
 have st := st.pure t61
 refine wl_on rfl rfl ?_
 refine wl_val (wl_valD (v_eql64 (q := 1) rfl rfl) (q := true) (decide_eq_true (by rw [hg2, hgen]))) rfl ?_
 refine wl_val (v_pick rfl) rfl ?_
 refine wl_val (v_assign' (by conv => (lhs; whnf))) rfl ?_
 refine wl_nil ?_
 refine then_go ?_
 refine wc_ret ?_
 exact ret1 rfl ⟨⟨m4, hmm4, ((st.drop 0).drop 0).drop 0⟩, rfl⟩
end
end Go.Proofs.Ytnaoafogdplnaaa

namespace Go.Proofs.Ytnaoafogdplnaaa
open Go Go.RowKit K SH DK JR
section
variable {m : Mem} {wI : World}
theorem c_same14 {av bv : Value} {A B : List (By × Value)} (him : Im m wI) (ha : PcsM m av A) (hb : PcsM m bv B) (hAB : A.map (·.1) = B.map (·.1)) (hA : A.length ≤ 1000000000) :
  Ret Try.prog 14 #[av, bv] wI fun v w' => Tch wI w' [] [] ∧ v = .bool true := by
 have st := St.start him
 refine ret_of Try.call14 Try.func14 rfl Try.ntmps14 Try.results14 rfl ?_
 refine wc_seq ?_
 refine wc_region ?_
 refine wl_val (v_assign' (by conv => (lhs; whnf))) rfl ?_
 refine wl_nil ?_
 refine then_go ?_
 refine wc_seq ?_
 refine wc_region ?_
 refine wl_val (v_move' (by conv => (lhs; whnf))) rfl ?_
 refine wl_val (v_move' (by conv => (lhs; whnf))) rfl ?_
 refine wl_call rfl (c_sametexts st.im ha hb hAB hA) rfl ?_
 rintro v7 w ⟨t7, rfl⟩
 have st := st.pure t7
 refine wl_val (v_assign' (by conv => (lhs; whnf))) rfl ?_
 refine wl_nil ?_
 refine then_go ?_
 refine wc_ret ?_
 exact ret1 rfl ⟨st.touch, rfl⟩
end
end Go.Proofs.Ytnaoafogdplnaaa

namespace Go.Proofs.Ytnaoafogdplnaaa
open Go Go.RowKit K SH DK JR
section
variable {m : Mem} {wI : World}
theorem ops_read {va : Option Addr} {vc i : Nat} {L : List OpV} (hv : OpsM m (.slice va L.length vc) L) (hi : i < L.length) : ∃ b o, va = some ⟨b, o, none⟩ ∧ (∀ {w : World}, Im m w → Reads Try.prog w 32 ⟨b, o + i * 3, none⟩ (.agg (opC L[i]).toArray)) ∧ (∀ {w : World}, Im m w → Reads Try.prog w 4 ⟨b, o + i * 3 + 0, none⟩ (.bool L[i].ag)) := by
 obtain ⟨b, o, hva⟩ := hv.1.ptr (by omega) (by decide)
 subst hva
 exact ⟨b, o, rfl, fun him => hv.1.rd0 rfl hi (by decide) TF.t32 rfl him, fun him => hv.1.rd rfl hi (by decide) TF.t4 rfl him⟩
theorem c_journalDoes {z : Int} {lv : Value} {L : List OpV} (him : Im m wI) (hv : OpsM m lv L) (hLm : ∀ o ∈ L, o.M.length ≤ 1048576) :
  Ret Try.prog 6 #[.int .i64 z, lv] wI fun v w' => Tch wI w' [] [] ∧ v = .bool true := by
 have st := St.start him
 obtain ⟨la, lc, rfl⟩ := hv.1.sl
 refine ret_of Try.call6 Try.func6 rfl Try.ntmps6 Try.results6 rfl ?_
 refine wc_seq ?_
 refine wc_region ?_
 refine wl_val (v_assign' (by conv => (lhs; whnf))) rfl ?_
 refine wl_nil ?_
 refine then_go ?_
 refine wc_seq ?_
 refine wc_region ?_
 refine wl_val (v_move' (by conv => (lhs; whnf))) rfl ?_
 refine wl_call rfl (c_fresh st) rfl ?_
 rintro v18 w ⟨m1, db, ds, wv, g, glv, n, S, sl, hn8, hn47, hlog, hgen, hmm1, rfl, st⟩
 have hv := hv.mono hmm1
 refine wl_val (v_move' (by conv => (lhs; whnf))) rfl ?_
 refine wl_val (v_extract rfl rfl) rfl ?_
 refine wl_val (v_extract rfl rfl) rfl ?_
 refine wl_val (v_assign' (by conv => (lhs; whnf))) rfl ?_
 refine wl_val (v_assign' (by conv => (lhs; whnf))) rfl ?_
 refine wl_nil ?_
 refine then_go ?_
 refine wc_seq ?_
 refine wc_seq ?_
 refine wc_region ?_
 refine wl_val (v_move' (by conv => (lhs; whnf))) rfl ?_
 refine wl_val (v_eq_nil (p := some ⟨db, 0, none⟩) Try.underlying23 rfl rfl) rfl ?_
 refine wl_val (v_move' (by conv => (lhs; whnf))) rfl ?_
 refine wl_on rfl rfl ?_
 refine wl_val (v_move' (by conv => (lhs; whnf))) rfl ?_
 refine wl_on rfl rfl ?_
 refine wl_val (v_eq_nil (p := some ⟨g, 0, none⟩) Try.underlying24 rfl rfl) rfl ?_
 refine wl_val (v_pick rfl) rfl ?_
 refine wl_nil ?_
 refine then_go ?_
 refine wc_false rfl ?_
 refine wc_skip ?_
 refine then_go ?_
 refine wc_seq ?_
 refine wc_seq ?_
 refine wc_region ?_
 refine wl_val (v_move' (by conv => (lhs; whnf))) rfl ?_
 refine wl_call rfl (c_few14 st.im hv hLm) rfl ?_
 rintro v28 w ⟨t28, ⟨cf, rfl, hfew⟩⟩
 have st := st.pure t28
 refine wl_val (v_not rfl) rfl ?_
 refine wl_nil ?_
 refine then_go ?_
 refine wc_cond rfl (fun h29 => ?_) (fun h29 => ?_)
 ·refine wc_seq ?_
  refine wc_region ?_
  refine wl_call rfl (c_works14 (Es := []) (st.keepOnly (List.nil_sublist _))) rfl ?_
  rintro vw w ⟨⟨mw, hmw, st⟩, rfl⟩
  refine wl_val (v_assign' (by conv => (lhs; whnf))) rfl ?_
  refine wl_nil ?_
  refine then_go ?_
  refine wc_ret (then_ret ?_)
  exact ret1 rfl ⟨st.touch, rfl⟩
 ·refine wc_skip ?_
  refine then_go ?_
  refine wc_seq ?_
  have hL20 := hfew (by simpa using h29)
  refine wc_region ?_
  refine wl_val (v_assign' (by conv => (lhs; whnf))) rfl ?_
  refine wl_nil ?_
  refine then_go ?_
  refine wc_seq ?_
  refine wc_region ?_
  refine wl_val (v_assign' (by conv => (lhs; whnf))) rfl ?_
  refine wl_nil ?_
  refine then_go ?_
  refine wc_seq ?_
  refine wc_seq ?_
  refine wc_region ?_
  refine wl_val (v_assign' (by conv => (lhs; whnf))) rfl ?_
  refine wl_nil ?_
  refine then_go ?_
  refine wc_block ?_
  refine wc_loop (S := Nat) (fun q r w' => ∃ (i : Nat) (m' : Mem) (wl wv glv : Value) (W N : List (By × Value)) (S : By) (sl : LG), q + i = L.length ∧ r 1 = .slice la L.length lc ∧ r 5 = .pointer (some ⟨db, 0, none⟩) ∧ r 6 = .pointer (some ⟨g, 0, none⟩) ∧ r 7 = wl ∧ r 8 = u64 sl.gen ∧ r 9 = .int .i64 i ∧ sl.gen.toNat ≤ i + 1 ∧ LogOk n S sl (W.map (·.1)) ∧ N.map (·.1) = W.map (·.1) ∧ (∀ k o, m1 k = some o → m' k = some o) ∧ PcsM m' wl W ∧ Pcs m' N ∧ St m m' [] wI w' [logB g db sl glv, lrE glv N, diskO db ds n wv (calm S)]) id L.length ⟨0, m1, .slice none 0 0, wv, glv, [], [], S, sl, by omega, rfl, rfl, rfl, rfl, by rw [hgen]; rfl, rfl, by rw [hgen]; decide, hlog, rfl, fun _ _ h => h, ⟨SlM.nil, by intro x hx; cases hx⟩, (by intro x hx; cases hx), st⟩ ?_
  clear st hlog hgen
  rintro q r w2 ⟨i, m', wl, wv, glv, W, N, S, sl, hqi, g1, g5, g6, g7, g8, g9, hgen, hlog, hNW, hmm', hW, hN, st⟩
  refine wc_o 1 g1 (wc_o 5 g5 (wc_o 6 g6 (wc_o 7 g7 (wc_o 8 g8 (wc_o 9 g9 ?_)))))
  have hv := hv.mono hmm'
  obtain ⟨hWn, hWx⟩ := hlog.few
  rw [List.length_map] at hWn
  have hNl : N.length = W.length := by have := congrArg List.length hNW; rwa [List.length_map, List.length_map] at this
  refine wc_seq ?_
  refine wc_seq ?_
  refine wc_region ?_
  refine wl_val (v_move' (by conv => (lhs; whnf))) rfl ?_
  refine wl_val (v_move' (by conv => (lhs; whnf))) rfl ?_
  refine wl_val (v_len_s Try.underlying22 rfl) rfl ?_
  refine wl_val (v_lss rfl rfl) rfl ?_
  refine wl_nil ?_
  refine then_go ?_
  refine wc_if rfl (fun h34 => ?_) (fun h34 => ?_)
  ·refine wc_skip ?_
   refine then_go ?_
   refine wc_seq ?_
   refine wc_block ?_
   refine wc_seq ?_
   have hi : i < L.length := by omega
   obtain ⟨ba, oa, hba, hro, hra⟩ := ops_read hv hi
   subst hba
   have hr : Rdy n (calm S) 100000 := rdy_calm hlog.len (by omega) (by omega)
   refine wc_draw TF.mixed ?_
   have st := st.pure (touch_drew _)
   refine fl_val 0 rfl (fun _ => (v_move' (by conv => (lhs; whnf)))) rfl (by kernel_rfl) ?_
   refine fl_val 1 rfl (fun _ => (v_move' (by conv => (lhs; whnf)))) rfl (by kernel_rfl) ?_
   refine fl_val 2 rfl (fun _ => (v_move' (by conv => (lhs; whnf)))) rfl (by kernel_rfl) ?_
   refine fl_val 3 rfl (fun _ => (v_move' (by conv => (lhs; whnf)))) rfl (by kernel_rfl) ?_
   refine fl_val 4 rfl (fun _ => (v_ias i Try.underlying22 TF.t32 rfl rfl (by first | rfl | omega) (by first | omega | (dsimp only at *; omega)))) rfl (by kernel_rfl) ?_
   refine fl_ld 5 rfl (v_load rfl (hro st.im)) (by kernel_rfl) ?_
   refine fl_val 6 rfl (fun _ => (v_move' (by conv => (lhs; whnf)))) rfl (by kernel_rfl) ?_
   refine fl_eff1 7 [4, 3, 2, 1, 0] [5] (by kernel_rfl) ⟨obl_ld rfl rfl rfl (v_load rfl (hro st.im)), trivial⟩ rfl ?_
   refine wl_call rfl (c_size (im_heapM _) (disk_at 2 st rfl hr.ok)) rfl ?_
   rintro v45 w ⟨rfl, rfl⟩
   refine wl_nil ⟨rfl, ?_⟩
   refine fl_eff1 8 [4, 3, 2] [] (by kernel_rfl) ⟨obl_ld rfl rfl rfl (v_load rfl (hro st.im)), trivial⟩ rfl ?_
   refine wl_call rfl (c_do st hr hN hn8 hlog.half hlog.finle (by omega) hW (fun y hy => hWx y.1 (List.mem_map.2 ⟨y, hy, rfl⟩)) (by omega) (hv.2 _ (List.getElem_mem hi)) (hLm _ (List.getElem_mem hi))) rfl ?_
   rintro v46 w ⟨m2, wv2, glv2, N2, mv, hmm2, rfl, hN2, hN2e, hmv, st⟩
   obtain ⟨S2, s2, ha, hlog2, hg2⟩ := act_ok (o := L[i]) hlog (by omega)
   rw [hNW, ha] at hN2e st ⊢
   have hv := hv.mono hmm2
   obtain ⟨W2, hW2⟩ : ∃ W2, W2 = if actR (W.map (·.1)) L[i] n = 0 then nxtV W L[i] else W := ⟨_, rfl⟩
   rw [← hW2] at hmv
   have hW2e : W2.map (·.1) = if actR (W.map (·.1)) L[i] n = 0 then nxt (W.map (·.1)) L[i] else W.map (·.1) := by
    rw [hW2]
    split
    ·exact nxtV_fst
    ·rfl
   rw [← hW2e] at hlog2
   have hN2W : N2.map (·.1) = W2.map (·.1) := by
    rw [hN2e, hW2e]
    show (if ((actR (W.map (·.1)) L[i] n : Nat) : Int) = 0 then _ else _) = _
    by_cases h0 : actR (W.map (·.1)) L[i] n = 0
    ·rw [if_pos h0, if_pos (by rw [h0]; rfl)]
    ·rw [if_neg h0, if_neg (by omega)]
   have st : St m m2 [] wI w [logB g db s2 glv2, lrE glv2 N2, diskO db ds n wv2 (calm S2)] := st
   obtain ⟨e, he⟩ : ∃ e, e = actR (W.map (·.1)) L[i] n := ⟨_, rfl⟩
   rw [← he] at hg2 ⊢
   have hmm2 : ∀ k o, m1 k = some o → m2 k = some o := fun k o h => hmm2 k o (hmm' k o h)
   obtain ⟨hWn2, hWx2⟩ := hlog2.few
   rw [List.length_map] at hWn2
   have hN2l : N2.length = W2.length := by have := congrArg List.length hN2W; rwa [List.length_map, List.length_map] at this
   have hrd := hlog2.read
   have hr2 : Rdy n (calm S2) 100000 := rdy_calm hlog2.len (by omega) (by omega)
   refine wl_nil ⟨rfl, ?_⟩
   refine fl_val 9 rfl (fun _ => (v_move' (by conv => (lhs; whnf)))) rfl (by kernel_rfl) ?_
   refine fl_val 10 rfl (fun _ => (v_extract rfl rfl)) rfl (by kernel_rfl) ?_
   refine fl_val 11 rfl (fun _ => (v_extract rfl rfl)) rfl (by kernel_rfl) ?_
   refine fl_val 12 rfl (fun _ => (v_extract rfl rfl)) rfl (by kernel_rfl) ?_
   refine fl_eff1 13 [12, 11] [] (by kernel_rfl) trivial rfl ?_
   refine wl_val (v_assign' (by conv => (lhs; whnf))) rfl ?_
   refine wl_nil ⟨rfl, ?_⟩
   refine fl_eff1 14 [12] [] (by kernel_rfl) trivial rfl ?_
   refine wl_val (v_assign' (by conv => (lhs; whnf))) rfl ?_
   refine wl_nil ⟨rfl, ?_⟩
   refine fl_eff1 15 [] [] (by kernel_rfl) trivial rfl ?_
   refine wl_val (v_assign' (by conv => (lhs; whnf))) rfl ?_
   refine wl_nil ⟨rfl, ?_⟩
   refine fl_nil (by kernel_rfl) trivial ?_
   refine then_go ?_
   refine wc_seq ?_
   refine wc_seq ?_
   refine wc_region ?_
   refine wl_val (v_move' (by conv => (lhs; whnf))) rfl ?_
   refine wl_val (v_move' (by conv => (lhs; whnf))) rfl ?_
   refine wl_val (wl_valD (v_neq rfl rfl) (q := false) (by simp)) rfl ?_
   refine wl_nil ?_
   refine then_go ?_
   refine wc_false rfl ?_
   refine wc_skip ?_
   refine then_go ?_
   refine wc_seq ?_
   refine wc_seq ?_
   refine wc_region ?_
   refine wl_val (v_move' (by conv => (lhs; whnf))) rfl ?_
   refine wl_val (v_eql rfl rfl) rfl ?_
   refine wl_val (v_move' (by conv => (lhs; whnf))) rfl ?_
   refine wl_valg rfl rfl (fun e => (v_move' (by conv => (lhs; whnf)))) rfl ?_
   refine wl_valg rfl rfl (fun e => (v_move' (by conv => (lhs; whnf)))) rfl ?_
   refine wl_valg rfl rfl (fun e => (v_ias i Try.underlying22 TF.t32 (by first | rfl | exact gx e rfl) (by first | rfl | exact gx e rfl) (by first | rfl | omega) (by first | omega | (dsimp only at *; omega)))) rfl ?_
   refine wl_valg rfl rfl (fun e => (v_fa TF.f32_0 (by first | rfl | exact gx e rfl))) rfl ?_
   refine wl_valg rfl rfl (fun e => (v_load (by first | rfl | exact gx e rfl) (by obtain ⟨b', o', hb', _, hra'⟩ := ops_read hv hi; cases hb'; exact hra' st.im))) rfl ?_
   refine wl_val (v_pickA rfl rfl rfl) rfl ?_
   refine wl_nil ?_
   refine then_go ?_
   refine wc_mid (fun r w' => r 1 = .slice (some ⟨ba, oa, none⟩) L.length lc ∧ r 5 = .pointer (some ⟨db, 0, none⟩) ∧ r 6 = .pointer (some ⟨g, 0, none⟩) ∧ r 8 = u64 s2.gen ∧ r 9 = .int .i64 i ∧ r 10 = mv ∧ St m m2 [] wI w' [logB g db s2 glv2, lrE glv2 N2, diskO db ds n wv2 (calm S2)]) ?_ ?_
   ·refine wc_cond rfl (fun h61 => ?_) (fun h61 => ?_)
    ·refine wc_region ?_
     refine wl_val (v_move' (by conv => (lhs; whnf))) rfl ?_
     refine wl_val (v_add64 (q := 1) rfl rfl) rfl ?_
     refine wl_val (v_assign' (by conv => (lhs; whnf))) rfl ?_
     refine wl_nil ?_
     refine then_go ?_
     rw [Bool.and_eq_true, decide_eq_true_eq] at h61
     exact ⟨rfl, rfl, rfl, by rw [hg2, if_pos ⟨h61.2, by have h0 : ((e : Nat) : Int) = 0 := h61.1; have h1 := he; omega⟩]; rfl, rfl, rfl, st⟩
    ·refine wc_skip ?_
     refine then_go ?_
     rw [Bool.and_eq_false_iff, decide_eq_false_iff_not] at h61
     exact ⟨rfl, rfl, rfl, by rw [hg2, if_neg (fun h => by rcases h61 with h' | h'; exact h' (show ((e : Nat) : Int) = 0 by have h1 := he; have h2 := h.2; omega); rw [h.1] at h'; cases h')]; rfl, rfl, rfl, st⟩
   ·clear st
    rintro r w4 ⟨g1, g5, g6, g8, g9, g10, st⟩
    refine wc_o 1 g1 (wc_o 5 g5 (wc_o 6 g6 (wc_o 8 g8 (wc_o 9 g9 (wc_o 10 g10 ?_)))))
    have hgs : s2.gen.toNat ≤ i + 2 := by
     rw [hg2]
     split
     ·rw [UInt64.toNat_add]; show (sl.gen.toNat + 1) % 18446744073709551616 ≤ _; omega
     ·omega
    refine wc_seq ?_
    refine wc_region ?_
    refine wl_val (v_move' (by conv => (lhs; whnf))) rfl ?_
    refine wl_val (v_assign' (by conv => (lhs; whnf))) rfl ?_
    refine wl_nil ?_
    refine then_go ?_
    refine wc_seq ?_
    refine wc_region ?_
    refine wl_val (v_move' (by conv => (lhs; whnf))) rfl ?_
    refine wl_call rfl (c_dump (im_heapM _) (disk_at 2 st rfl hr2.ok)) rfl ?_
    rintro v67 w ⟨t67, m3, hf3, hi3, hS⟩
    obtain ⟨m4, hmm4, hm34, st⟩ := st.absorb t67 hf3 hi3
    have hS : SlM m4 v67 1 S2.length (bs S2) := hS.mono hm34
    have hmv := hmv.mono hmm4
    have hN2 := hN2.mono hmm4
    have hv := hv.mono hmm4
    have hS2l := hlog2.len
    have hnle := hlog2.nle
    refine wl_call rfl (c_rRead st.im hS (by omega)) rfl ?_
    rintro v68 w ⟨t68, m5, hg5, hi5, rv, RN, hRN, hRNe, rfl⟩
    have st := st.grown hg5 t68 hi5
    rw [hrd] at hRNe ⊢
    have hmv := hmv.mono hg5.le
    have hN2 := hN2.mono hg5.le
    have hv := hv.mono hg5.le
    have hmm5 : ∀ k o, m1 k = some o → m5 k = some o := fun k o h => hg5.le k o (hmm4 k o (hmm2 k o h))
    have hRNl : RN.length = W2.length := by have := congrArg List.length hRNe; rwa [List.length_map, List.length_map] at this
    refine wl_val (v_move' (by conv => (lhs; whnf))) rfl ?_
    refine wl_val (v_extract rfl rfl) rfl ?_
    refine wl_val (v_extract rfl rfl) rfl ?_
    refine wl_val (v_extract rfl rfl) rfl ?_
    refine wl_val (v_assign' (by conv => (lhs; whnf))) rfl ?_
    refine wl_val (v_assign' (by conv => (lhs; whnf))) rfl ?_
    refine wl_val (v_assign' (by conv => (lhs; whnf))) rfl ?_
    refine wl_nil ?_
    refine then_go ?_
    refine wc_seq ?_
    refine wc_region ?_
    refine wl_val (v_move' (by conv => (lhs; whnf))) rfl ?_
    refine wl_val (wl_valD (v_neq rfl rfl) (q := false) rfl) rfl ?_
    refine wl_val (v_move' (by conv => (lhs; whnf))) rfl ?_
    refine wl_on rfl rfl ?_
    refine wl_val (v_move' (by conv => (lhs; whnf))) rfl ?_
    refine wl_on rfl rfl ?_
    refine wl_val (v_move' (by conv => (lhs; whnf))) rfl ?_
    refine wl_on rfl rfl ?_
    refine wl_val (wl_valD (v_neq rfl rfl) (q := false) (by simp)) rfl ?_
    refine wl_val (v_pick rfl) rfl ?_
    refine wl_val (v_move' (by conv => (lhs; whnf))) rfl ?_
    refine wl_on rfl rfl ?_
    refine wl_val (v_move' (by conv => (lhs; whnf))) rfl ?_
    refine wl_on rfl rfl ?_
    refine wl_call rfl (c_logGen (lv := glv2) st) rfl ?_
    rintro v81 w ⟨t81, rfl⟩
    have st := st.pure t81
    refine wl_on rfl rfl ?_
    refine wl_val (v_move' (by conv => (lhs; whnf))) rfl ?_
    refine wl_on rfl rfl ?_
    refine wl_val (wl_valD (v_neq rfl rfl) (q := false) (by simp)) rfl ?_
    refine wl_val (v_pick rfl) rfl ?_
    refine wl_val (v_move' (by conv => (lhs; whnf))) rfl ?_
    refine wl_on rfl rfl ?_
    refine wl_val (v_move' (by conv => (lhs; whnf))) rfl ?_
    refine wl_on rfl rfl ?_
    refine wl_val (v_move' (by conv => (lhs; whnf))) rfl ?_
    refine wl_on rfl rfl ?_
    refine wl_call rfl (c_same14 st.im hRN hmv hRNe (by omega)) rfl ?_
    rintro v88 w ⟨t88, rfl⟩
    have st := st.pure t88
    refine wl_on rfl rfl ?_
    refine wl_val (v_not rfl) rfl ?_
    refine wl_val (v_pick rfl) rfl ?_
    refine wl_val (v_move' (by conv => (lhs; whnf))) rfl ?_
    refine wl_on rfl rfl ?_
    refine wl_val (v_move' (by conv => (lhs; whnf))) rfl ?_
    refine wl_on rfl rfl ?_
    refine wl_call rfl (c_logAll st hN2 (fun y hy => hWx2 y.1 (by rw [← hN2W]; exact List.mem_map.2 ⟨y, hy, rfl⟩)) (by omega)) rfl ?_
    rintro v93 w ⟨A, hA, st⟩
    obtain ⟨m7, hg7, hm7, st7⟩ := st.freezeR (i := 0) rfl (by simp)
    have hrow := row_SlM (m := m7) (st.at (i := 0) rfl) hm7
    obtain ⟨m8, hmm8, hPA, st⟩ := rows_freeze (A := A) st7
    have hAM : PcsM m8 v93 A := ⟨hrow.mono hmm8, hPA⟩
    have hmv := (hmv.mono hg7.le).mono hmm8
    have hN2 := (hN2.mono hg7.le).mono hmm8
    have hAl : A.length = W2.length := by have := congrArg List.length hA; rw [List.length_map, List.length_map] at this; omega
    have hmm8 : ∀ k o, m1 k = some o → m8 k = some o := fun k o h => hmm8 k o (hg7.le k o (hmm5 k o h))
    refine wl_on rfl rfl ?_
    refine wl_val (v_move' (by conv => (lhs; whnf))) rfl ?_
    refine wl_on rfl rfl ?_
    refine wl_call rfl (c_same14 st.im hAM hmv (by rw [hA, hN2W]) (by omega)) rfl ?_
    rintro v95 w ⟨t95, rfl⟩
    have st := st.pure t95
    refine wl_on rfl rfl ?_
    refine wl_val (v_not rfl) rfl ?_
    refine wl_val (v_pick rfl) rfl ?_
    refine wl_val (v_move' (by conv => (lhs; whnf))) rfl ?_
    refine wl_on rfl rfl ?_
    refine wl_val (v_move' (by conv => (lhs; whnf))) rfl ?_
    refine wl_on rfl rfl ?_
    refine wl_call rfl (c_pending (im_heapM _) (disk_at 2 st rfl hr2.ok)) rfl ?_
    rintro v100 w ⟨rfl, rfl⟩
    refine wl_on rfl rfl ?_
    refine wl_val (wl_valD (v_neq rfl rfl) (q := false) rfl) rfl ?_
    refine wl_val (v_pick rfl) rfl ?_
    refine wl_val (v_move' (by conv => (lhs; whnf))) rfl ?_
    refine wl_on rfl rfl ?_
    refine wl_val (v_move' (by conv => (lhs; whnf))) rfl ?_
    refine wl_on rfl rfl ?_
    refine wl_call rfl (c_logRoom (st.perm p132) hr2.ok hlog2.finle) rfl ?_
    rintro v105 w ⟨st, rfl⟩
    have st := st.perm p132
    refine wl_on rfl rfl ?_
    refine wl_val (v_move' (by conv => (lhs; whnf))) rfl ?_
    refine wl_on rfl rfl ?_
    refine wl_val (v_move' (by conv => (lhs; whnf))) rfl ?_
    refine wl_on rfl rfl ?_
    refine wl_call rfl (c_size (im_heapM _) (disk_at 2 st rfl hr2.ok)) rfl ?_
    rintro v108 w ⟨rfl, rfl⟩
    refine wl_on rfl rfl ?_
    refine wl_call rfl (c_rroom st.im hmv (fun y hy => by have := hWx2 y.1 (List.mem_map.2 ⟨y, hy, rfl⟩); omega) (by omega) (by omega) (by omega)) rfl ?_
    rintro v109 w ⟨t109, rfl⟩
    have st := st.pure t109
    have hroom : roomR (W2.map (·.1)) n = roomF n s2.fin := by have := hlog2.fin; unfold roomR roomF; rw [this]; omega
    rw [hroom]
    refine wl_on rfl rfl ?_
    refine wl_val (wl_valD (v_neq rfl rfl) (q := false) (by simp)) rfl ?_
    refine wl_val (v_pick rfl) rfl ?_
    refine wl_nil ?_
    refine then_go ?_
    refine wc_false rfl ?_
    refine wc_skip ?_
    refine block_go (then_go ?_)
    refine wc_region ?_
    refine wl_val (v_move' (by conv => (lhs; whnf))) rfl ?_
    refine wl_val (v_add' (c := ((i + 1 : Nat) : Int)) rfl rfl (by omega) (by omega) (by omega)) rfl ?_
    refine wl_val (v_assign' (by conv => (lhs; whnf))) rfl ?_
    refine wl_nil ?_
    refine then_go ?_
    exact ⟨q - 1, by simp; omega, i + 1, m8, mv, wv2, glv2, W2, N2, S2, s2, by omega, rfl, rfl, rfl, rfl, rfl, rfl, by omega, hlog2, hN2W, hmm8, hmv, hN2, st⟩
  ·refine wc_exit (then_exit (then_exit (block_hit ?_)))
   refine then_go ?_
   refine wc_seq ?_
   refine wc_region ?_
   refine wl_call rfl (c_works14 (Es := []) (st.keepOnly (List.nil_sublist _))) rfl ?_
   rintro vw w ⟨⟨mw, hmw, st⟩, rfl⟩
   refine wl_val (v_assign' (by conv => (lhs; whnf))) rfl ?_
   refine wl_nil ?_
   refine then_go ?_
   refine wc_ret ?_
   exact ret1 rfl ⟨st.touch, rfl⟩
end
end Go.Proofs.Ytnaoafogdplnaaa

namespace Go.Proofs.Ytnaoafogdplnaaa
open Go Go.ChangeShapes Go.WideShapes Go.ChangeAt Go.RowKit K SH JR
theorem Try.ownjb : ownKnob Try.prog.godebug = none := by kernel_rfl
theorem Try.laidOutjb : laidOutB Try.prog = true := by kernel_rfl
theorem Try.trodAlljb {H : Type} {enc : TypeId × Value → H} {w : World} {held : Bool} {P : Program} {base : Nat} {spare : Nat → Bool} {t0 t1 : TypeId} {args : Array Value} {ds : List (DataW H)} {ps : List MemPlace} (h : DataW.TrodAll enc P w base spare held [t0, t1] args.toList ds ps) :
  ∃ v0 v1 d0 d1 p0 p1, args = #[v0, v1] ∧ ds = [d0, d1] ∧ ps = p0 ++ p1 ∧ DataW.Trod enc P w base spare held t0 v0 d0 p0 ∧ DataW.Trod enc P w base spare held t1 v1 d1 p1 := by
 obtain ⟨v0, vs0, d0, ds0, p0, q0, hargs, rfl, rfl, hd0, h⟩ := trodAll_cons h
 obtain ⟨v1, vs1, d1, ds1, p1, q1, rfl, rfl, rfl, hd1, h⟩ := trodAll_cons h
 obtain ⟨rfl, rfl, rfl⟩ := trodAll_nil h
 exact ⟨v0, v1, d0, d1, p0, p1, by cases args; simp_all, rfl, by simp, hd0, hd1⟩
set_option maxRecDepth 100000 in
theorem journalDoes_lifted (os : Os) (started : os.Started) (H : Type) (enc : TypeId × Value → H) (Fi : Stop.Interp) :
  ReturnsInHanded {} Try.checked os 6 .any ((Rows.OpenSpec.upto Rows.journalDoesSpec).pre6 enc Try.prog Try.f6 Rows.journalDoesUptoRow.domain false) (((Rows.OpenSpec.upto Rows.journalDoesSpec).at Fi).post enc Try.prog Try.f6 false true false false) := by
 refine returnsInHanded_of_cond (C := Try.checked) (s := (Rows.OpenSpec.upto Rows.journalDoesSpec)) (k := Rows.uptoSmall) rfl Try.ownjb started (by kernel_rfl) Try.func6
  (OpenSpec.witness (enc := enc) (C := Try.checked) (s := (Rows.OpenSpec.upto Rows.journalDoesSpec)) (k := Rows.uptoSmall) rfl false ⟨#[], #[.int .i64 0, .slice none 0 0], []⟩ 12 (by kernel_rfl) (by kernel_rfl) (by kernel_rfl) (x := ([.lit (.int .i64 0), .nil], [], [])) (by kernel_rfl) rfl (by kernel_rfl)) ?_
 intro W base args ds gs before hval0 hW _ hk _
 have hval : ∀ (j : Nat) t v, Try.f6.params[j]? = some t → args[j]? = some v → Value.okWide Try.prog W .any base t v := hval0
 have hW' := hW
 obtain ⟨p, q, hA0, hV, rfl, hfz, hnd⟩ := hW
 have hkb := bulk_of hk
 have hA : DataW.TrodAll enc Try.prog W 0 (fun _ => true) true Try.f6.params.toList args.toList ds p := hA0
 rw [Try.params6] at hA hval
 obtain ⟨v0, v1, d0, d1, p0, p1, rfl, rfl, rfl, h0, h1⟩ := Try.trodAlljb hA
 obtain ⟨a0, rfl, rfl, rfl, wa0⟩ := open_int Try.underlying3 (hval 0 3 v0 rfl rfl) h0
 obtain ⟨fu1, hf1⟩ := h1
 obtain ⟨sa1, sl1, sc1, rfl⟩ := okWide_slice Try.underlying22 (hval 1 22 v1 rfl rfl)
 have hb1 := hkb d1 (by simp)
 obtain ⟨l1, hl1, hu1⟩ := open_jopsB hf1
 refine Calls.mono (P := Try.prog) (c_journalDoes (im_heapM W) hl1 (fun o ho => Nat.le_trans (hu1 o ho) hb1)).2 fun e W1 ⟨v, he, t, hv⟩ => ?_
 subst hv
 subst he
 exact ⟨_, rfl, post_true Try.laidOutjb (by kernel_rfl) rfl hW' t rfl rfl Try.underlying4⟩
theorem journalDoesUpto_holds : Rows.JournalDoesUptoSaid :=
 OpenClaim.holds_of_cond 6 Try.f6 rfl rfl rfl rfl rfl rfl rfl ⟨rfl, rfl, rfl, rfl, rfl⟩ rfl rfl rfl rfl rfl (by kernel_rfl) Try.func6 (by kernel_rfl)
  (of_decide_eq_true (by kernel_rfl)) (by unfold Func.isWrapper; first | (rw [if_pos (by decide +kernel)]; kernel_rfl) | (rw [if_neg (by decide +kernel)]; exact ⟨rfl, rfl⟩))
  (fun os started H enc _ Fi => journalDoes_lifted os started H enc Fi)
end Go.Proofs.Ytnaoafogdplnaaa
