/-
  Proved here: for every input of bulk at most 1048576 the law StoreDoes returns true, and what it was handed reads behind the call as before. No condition.
-/
import Derived.Shelf.SlMaps.Clone
import Derived.Test.YtladpaehbolghaaGreatRows
import Derived.JoinedCond
import Derived.Test.YtladpaehbolghaaGreatDoes4

namespace Go.Proofs.YtladpaehbolghaaGreat
open Go Go.RowKit K SH DK JR
structure OpV where
 ag : Bool
 B : By
 bv : Value
 M : List (By × Value)
 lv : Value
def opC (o : OpV) : List Value := [.bool o.ag, o.bv, o.lv]
def OpOk (m : Mem) (o : OpV) : Prop := SlM m o.bv 1 o.B.length (bs o.B) ∧ PcsM m o.lv o.M
def OpsM (m : Mem) (v : Value) (L : List OpV) : Prop := LsM m v opC 3 L ∧ ∀ o ∈ L, OpOk m o
theorem OpsM.mono {m m' : Mem} {v : Value} {L : List OpV} (h : OpsM m v L) (hm : ∀ k o, m k = some o → m' k = some o) : OpsM m' v L := ⟨h.1.mono hm, fun o ho => ⟨(h.2 o ho).1.mono hm, (h.2 o ho).2.mono hm⟩⟩
theorem PcsM.sl {m : Mem} {v : Value} {N : List (By × Value)} (h : PcsM m v N) : ∃ a c, v = .slice a N.length c := by obtain ⟨⟨_, a, c, h, _⟩, _⟩ := h; exact ⟨a, c, h⟩
section
variable {m : Mem} {wI : World}
def ApartR (m m' : Mem) (v : Value) (N : List (By × Value)) : Prop := ∃ m1, (∀ k o, m1 k = some o → m' k = some o ∧ m k = none) ∧ SlM m1 v 1 N.length (N.map (·.2))
theorem ApartR.mono {m n m' m'' : Mem} {v : Value} {N : List (By × Value)} (h : ApartR m m' v N) (hn : ∀ k o, n k = some o → m k = some o) (hm : ∀ k o, m' k = some o → m'' k = some o) : ApartR n m'' v N := by
 obtain ⟨m1, h1, h2⟩ := h
 refine ⟨m1, fun k o hk => ⟨hm k o (h1 k o hk).1, ?_⟩, h2⟩
 cases hq : n k with
 | none => rfl
 | some q => have := hn k q hq; rw [(h1 k o hk).2] at this; cases this
theorem row_apart {m0 m m' : Mem} {w0 w : World} {Es : List Ent} {v : Value} {N : List (By × Value)} (st : St m0 m [] w0 w (lrE v N :: Es)) (hm : ∀ k o, some k = v.ownBlock → w.heap[k]? = some o → m' k = some o) : ApartR m m' v N := by
 have hown := st.own (lrE v N) (by simp)
 refine ⟨fun k => if m k = none then m' k else none, fun k o hk => ?_, row_SlM (m := fun k => if m k = none then m' k else none) (st.at (i := 0) rfl) (fun k o hk ho => ?_)⟩
 ·by_cases h : m k = none
  ·simp [h] at hk; exact ⟨hk, h⟩
  ·simp [h] at hk
 ·have h1 := (hown k (by rw [← Option.mem_toList] at *; simp [rowE, ← hk])).1
  simp [h1, hm k o hk ho]
theorem c_rappend {lv bv : Value} {N : List (By × Value)} {x : By} {n : Nat} (him : Im m wI) (hN : PcsM m lv N) (hNl : ∀ y ∈ N, y.1.length ≤ 1048576) (hNn : N.length ≤ 100000) (hx : SlM m bv 1 x.length (bs x)) (hn : n ≤ 1000000) (hn2 : 2 ≤ n) :
  Ret Tryz.prog 48 #[lv, bv, .int .i64 n] wI fun v' w' => Out m wI w' fun m' => ∃ mv, v' = .tuple #[mv, .int .i64 (appR (N.map (·.1)) x n : Nat)] ∧ PcsM m' mv (if appR (N.map (·.1)) x n = 0 then N ++ [(x, bv)] else N) ∧ (appR (N.map (·.1)) x n = 0 → ApartR m m' mv (N ++ [(x, bv)])) ∧ (appR (N.map (·.1)) x n ≠ 0 → mv = lv) := by
 have st := St.start him
 obtain ⟨la, lc, rfl⟩ := hN.sl
 obtain ⟨xa, xc, rfl, _⟩ := hx.opn
 refine ret_of Tryz.call48 Tryz.func48 rfl Tryz.ntmps48 Tryz.results48 rfl ?_
 refine wc_seq ?_
 refine wc_region ?_
 refine wl_val (v_assign' (by conv => (lhs; whnf))) rfl ?_
 refine wl_val (v_assign' (by conv => (lhs; whnf))) rfl ?_
 refine wl_nil ?_
 refine then_go ?_
 refine wc_seq ?_
 refine wc_seq ?_
 refine wc_region ?_
 refine wl_val (v_move' (by conv => (lhs; whnf))) rfl ?_
 refine wl_call rfl (c_rcheck st.im hx) rfl ?_
 rintro v11 w ⟨t11, rfl⟩
 have st := st.pure t11
 refine wl_val (v_assign' (by conv => (lhs; whnf))) rfl ?_
 refine wl_nil ?_
 refine then_go ?_
 refine wc_seq ?_
 refine wc_region ?_
 refine wl_val (v_move' (by conv => (lhs; whnf))) rfl ?_
 refine wl_val (v_neq rfl rfl) rfl ?_
 refine wl_nil ?_
 refine then_go ?_
 refine wc_cond rfl (fun h13 => ?_) (fun h13 => ?_)
 ·refine wc_seq ?_
  refine wc_region ?_
  refine wl_val (v_move' (by conv => (lhs; whnf))) rfl ?_
  refine wl_val (v_move' (by conv => (lhs; whnf))) rfl ?_
  refine wl_val (v_assign' (by conv => (lhs; whnf))) rfl ?_
  refine wl_val (v_assign' (by conv => (lhs; whnf))) rfl ?_
  refine wl_nil ?_
  refine then_go ?_
  refine wc_ret (then_ret ?_)
  have hz := of_decide_eq_true h13
  have h1 : checkE x = 1 := (checkE_or _).resolve_left fun h => hz (by rw [h]; rfl)
  have hR : appR (N.map (·.1)) x n = 1 := by unfold appR; rw [if_pos (by omega)]
  exact ret2 rfl rfl (st.out ⟨_, by rw [hR, h1]; rfl, by rw [hR, if_neg (by decide)]; exact hN, fun h => absurd (hR ▸ h) (by decide), fun _ => rfl⟩)
 ·refine wc_skip ?_
  refine then_go ?_
  refine wc_seq ?_
  refine wc_region ?_
  refine wl_val (v_assign' (by conv => (lhs; whnf))) rfl ?_
  refine wl_nil ?_
  refine then_go ?_
  refine wc_seq ?_
  have hc0 : ¬ checkE x ≠ 0 := fun h => of_decide_eq_false h13 (by omega)
  have hxm := checkE_len hc0
  have st := nilRow st 23 1
  refine wc_region ?_
  refine wl_val (v_move' (by conv => (lhs; whnf))) rfl ?_
  refine wl_val (v_move' (by conv => (lhs; whnf))) rfl ?_
  refine wl_append (news := N.map (fun y : By × Value => y.2)) (j := N.length) 0 st rfl Tryz.underlying41 Tryz.underlying41 (.inr ⟨_, rfl⟩) TF.t23 TF.z23 rfl rfl rfl (hN.1.src st.im fun u hu => by obtain ⟨y, hy, rfl⟩ := List.mem_map.1 hu; exact SlM.one1 (hN.2 y hy)) (by omega) (by omega) rfl ?_
  clear st
  intro v18 w _ st
  have st : St m m [] wI w [lrE v18 N] := by rw [Nat.zero_add, List.nil_append] at st; exact st
  refine wl_val (v_assign' (by conv => (lhs; whnf))) rfl ?_
  refine wl_nil ?_
  refine then_go ?_
  refine wc_seq ?_
  refine wc_region ?_
  refine wl_val (v_move' (by conv => (lhs; whnf))) rfl ?_
  refine wl_val (v_move' (by conv => (lhs; whnf))) rfl ?_
  refine wl_svOne (v := .slice xa x.length xc) Tryz.underlying41 TF.t23 TF.z23 rfl rfl st rfl ?_
  intro b21 w st
  refine wl_lrApp (x := x) 0 st rfl rfl rfl rfl (by omega) rfl ?_
  intro v22 w st
  obtain ⟨N1, hN1⟩ : ∃ N1, N1 = N ++ [(x, Value.slice xa x.length xc)] := ⟨_, rfl⟩
  rw [← hN1] at st
  have hP1 : Pcs m N1 := by rw [hN1]; exact Pcs.snoc hN.2 hx
  have hN1l : N1.length = N.length + 1 := by rw [hN1, List.length_append]; rfl
  have hN1x : ∀ y ∈ N1, y.1.length ≤ 1000000000 := fun y hy => by
   rw [hN1] at hy
   rcases List.mem_append.1 hy with hy | hy
   ·have := hNl y hy; omega
   ·rw [List.mem_singleton.1 hy]; show x.length ≤ _; omega
  have st0 := st
  obtain ⟨m1, hg1, hm1, st⟩ := st.freezeR (i := 0) rfl (by simp)
  have hra : ApartR m m1 v22 N1 := row_apart st0 hm1
  have hNM : PcsM m1 v22 N1 := ⟨row_SlM (m := m1) (st0.at (i := 0) rfl) hm1, hP1.mono hg1.le⟩
  have st : St m m1 [] wI w [] := st
  have hR1 : N1.map (·.1) = N.map (·.1) ++ [x] := by rw [hN1, List.map_append]; rfl
  refine wl_val (v_assign' (by conv => (lhs; whnf))) rfl ?_
  refine wl_nil ?_
  refine then_go ?_
  refine wc_seq ?_
  refine wc_seq ?_
  refine wc_region ?_
  refine wl_val (v_move' (by conv => (lhs; whnf))) rfl ?_
  refine wl_val (v_move' (by conv => (lhs; whnf))) rfl ?_
  refine wl_call rfl (c_fits st.im hNM hN1x (by omega) hn hn2) rfl ?_
  rintro v25 w ⟨t25, rfl⟩
  have st := st.pure t25
  rw [hR1]
  refine wl_val (v_not rfl) rfl ?_
  refine wl_nil ?_
  refine then_go ?_
  refine wc_cond rfl (fun h26 => ?_) (fun h26 => ?_)
  ·refine wc_seq ?_
   refine wc_region ?_
   refine wl_val (v_move' (by conv => (lhs; whnf))) rfl ?_
   refine wl_val (v_assign' (by conv => (lhs; whnf))) rfl ?_
   refine wl_val (v_assign' (by conv => (lhs; whnf))) rfl ?_
   refine wl_nil ?_
   refine then_go ?_
   refine wc_ret (then_ret ?_)
   have hR : appR (N.map (·.1)) x n = 13 := by unfold appR; rw [if_neg hc0, if_neg (by simpa using h26)]
   exact ret2 rfl rfl (st.out ⟨_, by rw [hR]; rfl, by rw [hR, if_neg (by decide)]; exact hN.mono hg1.le, fun h => absurd (hR ▸ h) (by decide), fun _ => rfl⟩)
  ·refine wc_skip ?_
   refine then_go ?_
   refine wc_seq ?_
   refine wc_region ?_
   refine wl_val (v_move' (by conv => (lhs; whnf))) rfl ?_
   refine wl_val (v_assign' (by conv => (lhs; whnf))) rfl ?_
   refine wl_val (v_assign' (by conv => (lhs; whnf))) rfl ?_
   refine wl_nil ?_
   refine then_go ?_
   refine wc_ret ?_
   have hR : appR (N.map (·.1)) x n = 0 := by unfold appR; rw [if_neg hc0, if_pos (by simpa using h26)]
   exact ret2 rfl rfl (st.out ⟨_, by rw [hR]; rfl, by rw [hR, if_pos rfl, ← hN1]; exact hNM, fun _ => by rw [← hN1]; exact hra, fun h => (h hR).elim⟩)
theorem c_rrestart {lv mv : Value} {N M : List (By × Value)} {n : Nat} (him : Im m wI) (hN : PcsM m lv N) (hM : PcsM m mv M) (hMn : M.length ≤ 1048576) (hn : n ≤ 1000000) (hn2 : 2 ≤ n) :
  Ret Tryz.prog 50 #[lv, mv, .int .i64 n] wI fun v' w' => Tch wI w' [] [] ∧ v' = .tuple #[if resR (M.map (·.1)) n = 0 then mv else lv, .int .i64 (resR (M.map (·.1)) n : Nat)] := by
 have st := St.start him
 obtain ⟨la, lc, rfl⟩ := hN.sl
 obtain ⟨na, nc, rfl⟩ := hM.sl
 refine ret_of Tryz.call50 Tryz.func50 rfl Tryz.ntmps50 Tryz.results50 rfl ?_
 refine wc_seq ?_
 refine wc_region ?_
 refine wl_val (v_assign' (by conv => (lhs; whnf))) rfl ?_
 refine wl_val (v_assign' (by conv => (lhs; whnf))) rfl ?_
 refine wl_nil ?_
 refine then_go ?_
 refine wc_seq ?_
 refine wc_seq ?_
 refine wc_region ?_
 refine wl_val (v_assign' (by conv => (lhs; whnf))) rfl ?_
 refine wl_nil ?_
 refine then_go ?_
 refine wc_block ?_
 refine wc_loop (S := Nat) (fun q r w' => ∃ (i : Nat), q + i = M.length ∧ r 0 = .slice la N.length lc ∧ r 1 = .slice na M.length nc ∧ r 2 = .int .i64 n ∧ r 8 = .int .i64 i ∧ (∀ x ∈ M.take i, ¬ checkE x.1 ≠ 0) ∧ St m m [] wI w' []) id M.length ⟨0, by omega, rfl, rfl, rfl, rfl, by simp, st⟩ ?_
 clear st
 rintro q r w2 ⟨i, hqi, g0, g1, g2, g8, hck, st⟩
 refine wc_o 0 g0 (wc_o 1 g1 (wc_o 2 g2 (wc_o 8 g8 ?_)))
 refine wc_seq ?_
 refine wc_seq ?_
 refine wc_region ?_
 refine wl_val (v_move' (by conv => (lhs; whnf))) rfl ?_
 refine wl_val (v_move' (by conv => (lhs; whnf))) rfl ?_
 refine wl_val (v_len_s Tryz.underlying41 rfl) rfl ?_
 refine wl_val (v_lss rfl rfl) rfl ?_
 refine wl_nil ?_
 refine then_go ?_
 refine wc_if rfl (fun h13 => ?_) (fun h13 => ?_)
 ·refine wc_skip ?_
  refine then_go ?_
  refine wc_seq ?_
  refine wc_block ?_
  refine wc_seq ?_
  have hi : i < M.length := by omega
  obtain ⟨nb, no, _, hnv, hsk, hrk⟩ := hM.elem hi
  cases hnv
  refine wc_region ?_
  refine wl_val (v_move' (by conv => (lhs; whnf))) rfl ?_
  refine wl_val (v_move' (by conv => (lhs; whnf))) rfl ?_
  refine wl_val (v_ias i Tryz.underlying41 TF.t23 rfl rfl (by first | rfl | omega) (by first | omega | (dsimp only at *; omega))) rfl ?_
  refine wl_val (v_load rfl (hrk st.im)) rfl ?_
  refine wl_call rfl (c_rcheck st.im hsk) rfl ?_
  rintro v20 w ⟨t20, rfl⟩
  have st := st.pure t20
  refine wl_val (v_assign' (by conv => (lhs; whnf))) rfl ?_
  refine wl_nil ?_
  refine then_go ?_
  refine wc_seq ?_
  refine wc_region ?_
  refine wl_val (v_move' (by conv => (lhs; whnf))) rfl ?_
  refine wl_val (v_neq rfl rfl) rfl ?_
  refine wl_nil ?_
  refine then_go ?_
  refine wc_cond rfl (fun h22 => ?_) (fun h22 => ?_)
  ·refine wc_seq ?_
   refine wc_region ?_
   refine wl_val (v_move' (by conv => (lhs; whnf))) rfl ?_
   refine wl_val (v_move' (by conv => (lhs; whnf))) rfl ?_
   refine wl_val (v_assign' (by conv => (lhs; whnf))) rfl ?_
   refine wl_val (v_assign' (by conv => (lhs; whnf))) rfl ?_
   refine wl_nil ?_
   refine then_go ?_
   refine wc_ret (block_ret (then_ret (then_ret (block_ret (then_ret ?_)))))
   have hz := of_decide_eq_true h22
   have h1 : checkE M[i].1 = 1 := (checkE_or _).resolve_left fun h => hz (by rw [h]; rfl)
   have hR : resR (M.map (·.1)) n = 1 := by unfold resR; rw [if_pos ⟨_, List.mem_map.2 ⟨_, List.getElem_mem hi, rfl⟩, by omega⟩]
   exact ret2 rfl rfl ⟨st.touch, by rw [hR, h1, if_neg (by decide)]; rfl⟩
  ·refine wc_skip ?_
   refine block_go (then_go ?_)
   refine wc_region ?_
   refine wl_val (v_move' (by conv => (lhs; whnf))) rfl ?_
   refine wl_val (v_add' (c := ((i + 1 : Nat) : Int)) rfl rfl (by omega) (by omega) (by omega)) rfl ?_
   refine wl_val (v_assign' (by conv => (lhs; whnf))) rfl ?_
   refine wl_nil ?_
   refine then_go ?_
   refine ⟨q - 1, by simp; omega, i + 1, by omega, rfl, rfl, rfl, rfl, fun x hx => ?_, st⟩
   rw [List.take_succ_eq_append_getElem hi] at hx
   rcases List.mem_append.1 hx with hx | hx
   ·exact hck x hx
   ·rw [List.mem_singleton.1 hx]
    exact fun h => of_decide_eq_false h22 (by omega)
 ·refine wc_exit (then_exit (then_exit (block_hit ?_)))
  refine then_go ?_
  refine wc_seq ?_
  refine wc_seq ?_
  refine wc_region ?_
  refine wl_val (v_move' (by conv => (lhs; whnf))) rfl ?_
  refine wl_val (v_move' (by conv => (lhs; whnf))) rfl ?_
  have hiN : i = M.length := by omega
  subst hiN
  rw [List.take_length] at hck
  have hnb : ¬ ∃ b ∈ M.map (·.1), checkE b ≠ 0 := by
   rintro ⟨x, hx, hz⟩
   obtain ⟨y, hy, rfl⟩ := List.mem_map.1 hx
   exact hck y hy hz
  refine wl_call rfl (c_fits st.im hM (fun x hx => by have := (checkE_len (hck x hx)).2; omega) (by omega) hn hn2) rfl ?_
  rintro v27 w ⟨t27, rfl⟩
  have st := st.pure t27
  refine wl_val (v_not rfl) rfl ?_
  refine wl_nil ?_
  refine then_go ?_
  refine wc_cond rfl (fun h28 => ?_) (fun h28 => ?_)
  ·refine wc_seq ?_
   refine wc_region ?_
   refine wl_val (v_move' (by conv => (lhs; whnf))) rfl ?_
   refine wl_val (v_assign' (by conv => (lhs; whnf))) rfl ?_
   refine wl_val (v_assign' (by conv => (lhs; whnf))) rfl ?_
   refine wl_nil ?_
   refine then_go ?_
   refine wc_ret (then_ret ?_)
   have hR : resR (M.map (·.1)) n = 13 := by unfold resR; rw [if_neg hnb, if_neg (by simpa using h28)]
   exact ret2 rfl rfl ⟨st.touch, by rw [hR, if_neg (by decide)]; rfl⟩
  ·refine wc_skip ?_
   refine then_go ?_
   refine wc_seq ?_
   refine wc_region ?_
   refine wl_val (v_move' (by conv => (lhs; whnf))) rfl ?_
   refine wl_val (v_assign' (by conv => (lhs; whnf))) rfl ?_
   refine wl_val (v_assign' (by conv => (lhs; whnf))) rfl ?_
   refine wl_nil ?_
   refine then_go ?_
   refine wc_ret ?_
   have hR : resR (M.map (·.1)) n = 0 := by unfold resR; rw [if_neg hnb, if_pos (by simpa using h28)]
   exact ret2 rfl rfl ⟨st.touch, by rw [hR, if_pos rfl]; rfl⟩
end
end Go.Proofs.YtladpaehbolghaaGreat

namespace Go.Proofs.YtladpaehbolghaaGreat
open Go Go.RowKit K SH GC JR OS
namespace OS
def plN (M : Kys) (k : By) : Nat := (M.takeWhile (fun x => decide (x.1 < k))).length
def thB (M : Kys) (k : By) : Bool := match M[plN M k]? with
 | some x => decide (x.1 = k)
 | none => false
theorem plN_le {M : Kys} {k : By} : plN M k ≤ M.length := (List.takeWhile_sublist _).length_le
theorem plN_is {k : By} : ∀ {M : Kys} {i : Nat}, (∀ x ∈ M.take i, x.1 < k) → i ≤ M.length → (∀ (h : i < M.length), ¬ M[i].1 < k) → plN M k = i
 | [], i, _, h2, _ => by simp at h2; subst h2; rfl
 | x :: M, 0, _, _, h3 => by
  have := h3 (by simp)
  unfold plN
  rw [List.takeWhile_cons, if_neg (by simpa using this)]
  rfl
 | x :: M, i + 1, h1, h2, h3 => by
  have hx : x.1 < k := h1 x (by simp)
  have := plN_is (k := k) (M := M) (i := i) (fun y hy => h1 y (by simp [hy])) (by simpa using h2) (fun h => h3 (by simpa using h))
  unfold plN at this ⊢
  rw [List.takeWhile_cons, if_pos (by simpa using hx), List.length_cons, this]
theorem pl_take {M : Kys} {k : By} (h : Risen M) : M.take (plN M k) = M.filter (fun x => decide (x.1 < k)) ∧ M.drop (plN M k + if thB M k then 1 else 0) = M.filter (fun x => decide (k < x.1)) ∧ (getKV k M).isSome = thB M k ∧ (thB M k = true → ∃ hi : plN M k < M.length, getKV k M = some M[plN M k].2) := by
 induction M with
 | nil => exact ⟨rfl, rfl, rfl, fun h => by cases h⟩
 | cons x M ih =>
  unfold Risen at h ih
  rw [List.map_cons, List.pairwise_cons] at h
  obtain ⟨h1, h2⟩ := h
  obtain ⟨i1, i2, i3, i4⟩ := ih h2
  by_cases hx : x.1 < k
  ·have e : plN (x :: M) k = plN M k + 1 := by unfold plN; rw [List.takeWhile_cons, if_pos (by simpa using hx)]; rfl
   have e2 : thB (x :: M) k = thB M k := by unfold thB; rw [e, List.getElem?_cons_succ]
   have hne : ¬ x.1 = k := fun e => by rw [e] at hx; exact List.lt_irrefl _ hx
   have hng : ¬ k < x.1 := fun h => List.lt_irrefl _ (List.lt_trans hx h)
   rw [e2, e, List.take_succ_cons, List.filter_cons, if_pos (by simpa using hx), i1, show plN M k + 1 + (if thB M k = true then 1 else 0) = plN M k + (if thB M k = true then 1 else 0) + 1 by omega, List.drop_succ_cons, i2, List.filter_cons, if_neg (by simpa using hng), getKV, if_neg hne]
   refine ⟨rfl, rfl, i3, fun h => ?_⟩
   obtain ⟨hi, hg⟩ := i4 h
   exact ⟨by simpa using hi, by rw [hg]; simp⟩
  ·have e : plN (x :: M) k = 0 := by unfold plN; rw [List.takeWhile_cons, if_neg (by simpa using hx)]; rfl
   have hgt : ∀ y ∈ M, k < y.1 := fun y hy => by
    have h3 := h1 y.1 (List.mem_map.2 ⟨y, hy, rfl⟩)
    rcases List.le_iff_lt_or_eq.1 (List.not_lt.1 hx) with h | h
    ·exact List.lt_trans h h3
    ·rw [h]; exact h3
   have f1 : M.filter (fun x => decide (x.1 < k)) = [] := List.filter_eq_nil_iff.2 fun y hy h => List.lt_irrefl _ (List.lt_trans (hgt y hy) (of_decide_eq_true h))
   have f2 : M.filter (fun x => decide (k < x.1)) = M := List.filter_eq_self.2 fun y hy => decide_eq_true (hgt y hy)
   have f3 : getKV k M = none := by
    rcases hg : getKV k M with _ | v
    ·rfl
    ·have := hgt _ ((mem_getKV (L := M) (h2.imp fun h => by rintro rfl; exact List.lt_irrefl _ h)).2 hg)
     exact (List.lt_irrefl _ this).elim
   rw [e, List.take_zero, List.filter_cons, if_neg (by simpa using hx), f1, List.filter_cons, f2, getKV]
   have e2 : thB (x :: M) k = decide (x.1 = k) := by unfold thB; rw [e]; rfl
   rw [e2]
   by_cases hk : x.1 = k
   ·rw [if_pos (by simpa using hk), if_neg (by rw [hk]; simp), if_pos hk]
    exact ⟨rfl, rfl, by simp [hk], fun _ => ⟨by simp, by simp⟩⟩
   ·have hlt : k < x.1 := (List.le_iff_lt_or_eq.1 (List.not_lt.1 hx)).resolve_right fun h => hk h.symm
    rw [if_neg (by simpa using hk), if_pos (by simpa using hlt), if_neg hk, f3]
    exact ⟨rfl, rfl, by simp [hk], fun h => absurd (of_decide_eq_true h) hk⟩
abbrev kstr (E : List (By × DV)) : List Value := E.map fun x => .string (strB x.1)
abbrev kval (E : List (By × DV)) : List Value := E.map fun x => x.2.2
def KyM (m : Mem) (kv vv : Value) (E : List (By × DV)) : Prop := SlM m kv 1 E.length (kstr E) ∧ SlM m vv 1 E.length (kval E) ∧ KvOk m E
theorem KyM.mono {m m' : Mem} {kv vv : Value} {E : List (By × DV)} (h : KyM m kv vv E) (hm : ∀ k o, m k = some o → m' k = some o) : KyM m' kv vv E := ⟨h.1.mono hm, h.2.1.mono hm, h.2.2.mono hm⟩
theorem KyM.nil {m : Mem} : KyM m (.slice none 0 0) (.slice none 0 0) [] := ⟨SlM.nil, SlM.nil, fun _ h => by cases h⟩
theorem KyM.sl {m : Mem} {kv vv : Value} {E : List (By × DV)} (h : KyM m kv vv E) : ∃ a c a' c', kv = .slice a E.length c ∧ vv = .slice a' E.length c' ∧ E.length ≤ c ∧ E.length ≤ c' := by
 obtain ⟨⟨_, a, c, h1, k1, _⟩, ⟨_, a', c', h2, k2, _⟩, _⟩ := h
 exact ⟨a, c, a', c', h1, h2, k1, k2⟩
theorem length_kvs {E : List (By × DV)} : (kvs E).length = E.length := List.length_map _
theorem kvs_at {E : List (By × DV)} {i : Nat} (h : i < E.length) : (kvs E)[i]'(by rw [length_kvs]; exact h) = (E[i].1, E[i].2.1) := by simp [kvs]
end OS
section
variable {m : Mem} {wI : World}
theorem OS.KyM.str {kv vv : Value} {E : List (By × DV)} (h : KyM m kv vv E) {i : Nat} (hi : i < E.length) : ∃ b o c, kv = .slice (some ⟨b, o, none⟩) E.length c ∧ ∀ {w : World} (_ : Im m w), Reads Tryz.prog w 9 ⟨b, o + i * 1, none⟩ (.string (strB E[i].1)) := by
 obtain ⟨b, o, c, hv, _, hr⟩ := h.1.elem Tryz.prog (i := i) hi (by omega)
 refine ⟨b, o, c, hv, fun {w} him => ?_⟩
 have := hr him (off := 0) (v' := .string (strB E[i].1)) TF.t9 (by
  have e : cellsAt (kstr E) 1 i = [.string (strB E[i].1)] := by simp [cellsAt, List.drop_eq_getElem_cons, hi]
  rw [e]
  rfl)
 simpa using this
theorem OS.KyM.val {kv vv : Value} {E : List (By × DV)} (h : KyM m kv vv E) {i : Nat} (hi : i < E.length) : ∃ b o c, vv = .slice (some ⟨b, o, none⟩) E.length c ∧ ∀ {w : World} (_ : Im m w), Reads Tryz.prog w 23 ⟨b, o + i * 1, none⟩ E[i].2.2 := by
 obtain ⟨b, o, c, hv, _, hr⟩ := h.2.1.elem Tryz.prog (i := i) hi (by omega)
 refine ⟨b, o, c, hv, fun {w} him => ?_⟩
 have := hr him (off := 0) (v' := E[i].2.2) TF.t23 (by
  have e : cellsAt (kval E) 1 i = [E[i].2.2] := by simp [cellsAt, List.drop_eq_getElem_cons, hi]
  rw [e]
  rfl)
 simpa using this
theorem c_place {kv vv : Value} {E : List (By × DV)} {k : By} (him : Im m wI) (hE : KyM m kv vv E) (hEl : E.length ≤ 1000000) :
  Ret Tryz.prog 82 #[.agg #[kv, vv], .string (strB k)] wI fun v w' => Tch wI w' [] [] ∧ v = .tuple #[.int .i64 (plN (kvs E) k : Nat), .bool (thB (kvs E) k)] := by
 have st := St.start him
 obtain ⟨ka, kc, va, vc, rfl, rfl, hkc, hvc⟩ := hE.sl
 refine ret_of Tryz.call82 Tryz.func82 rfl Tryz.ntmps82 Tryz.results82 rfl ?_
 refine wc_seq ?_
 refine wc_region ?_
 refine wl_box (v := .agg #[.slice ka E.length kc, .slice va E.length vc]) rfl st rfl ?_
 intro b2 w st
 refine wl_val (v_assign' (by conv => (lhs; whnf))) rfl ?_
 refine wl_val (v_assign' (by conv => (lhs; whnf))) rfl ?_
 refine wl_nil ?_
 refine then_go ?_
 refine wc_seq ?_
 refine wc_region ?_
 refine wl_val (v_assign' (by conv => (lhs; whnf))) rfl ?_
 refine wl_nil ?_
 refine then_go ?_
 refine wc_seq ?_
 refine wc_block ?_
 refine wc_loop (S := Nat) (fun q r w' => ∃ (i : Nat), q + i = E.length ∧ r 1 = .string (strB k) ∧ r 2 = .pointer (some ⟨b2, 0, none⟩) ∧ r 6 = .int .i64 i ∧ (∀ x ∈ (kvs E).take i, x.1 < k) ∧ St m m [] wI w' [K.blk b2 #[.slice ka E.length kc, .slice va E.length vc] 43]) id E.length ⟨0, by omega, rfl, rfl, rfl, by simp, st⟩ ?_
 clear st
 rintro q r w2 ⟨i, hqi, g1, g2, g6, hlt, st⟩
 refine wc_o 1 g1 (wc_o 2 g2 (wc_o 6 g6 ?_))
 refine wc_seq ?_
 refine wc_seq ?_
 by_cases hi : i < E.length
 ·obtain ⟨lb, lo, _, hla, hrk⟩ := hE.str hi
  cases hla
  refine wc_region ?_
  refine wl_val (v_move' (by conv => (lhs; whnf))) rfl ?_
  refine wl_val (v_fa TF.f43_0 rfl) rfl ?_
  refine wl_val (v_load rfl (st.reads 0 rfl TF.t40 rfl)) rfl ?_
  refine wl_val (v_len_s Tryz.underlying40 rfl) rfl ?_
  refine wl_val (wl_valD (v_lss rfl rfl) (q := true) (decide_eq_true (by omega))) rfl ?_
  refine wl_val (v_move' (by conv => (lhs; whnf))) rfl ?_
  refine wl_on rfl rfl ?_
  refine wl_val (v_fa TF.f43_0 rfl) rfl ?_
  refine wl_on rfl rfl ?_
  refine wl_val (v_load rfl (st.reads (v := .slice (some ⟨lb, lo, none⟩) E.length kc) 0 rfl TF.t40 rfl)) rfl ?_
  refine wl_on rfl rfl ?_
  refine wl_val (v_move' (by conv => (lhs; whnf))) rfl ?_
  refine wl_on rfl rfl ?_
  refine wl_val (v_ias i Tryz.underlying40 TF.t9 rfl rfl (by first | rfl | omega) (by first | omega | (dsimp only at *; omega))) rfl ?_
  refine wl_on rfl rfl ?_
  refine wl_val (v_load rfl (hrk st.im)) rfl ?_
  refine wl_on rfl rfl ?_
  refine wl_val (v_move' (by conv => (lhs; whnf))) rfl ?_
  refine wl_on rfl rfl ?_
  refine wl_val (v_ltStr rfl rfl) rfl ?_
  refine wl_val (v_pick rfl) rfl ?_
  refine wl_nil ?_
  refine then_go ?_
  refine wc_cond rfl (fun h20 => ?_) (fun h20 => ?_)
  ·refine wc_skip ?_
   refine then_go ?_
   refine wc_block ?_
   refine wc_region ?_
   refine wl_val (v_move' (by conv => (lhs; whnf))) rfl ?_
   refine wl_val (v_add' (c := ((i + 1 : Nat) : Int)) rfl rfl (by omega) (by omega) (by omega)) rfl ?_
   refine wl_val (v_assign' (by conv => (lhs; whnf))) rfl ?_
   refine wl_nil ?_
   refine block_go (then_go ?_)
   refine ⟨q - 1, by simp; omega, i + 1, by omega, rfl, rfl, rfl, fun x hx => ?_, st⟩
   rw [List.take_succ_eq_append_getElem (by rw [length_kvs]; exact hi)] at hx
   rcases List.mem_append.1 hx with hx | hx
   ·exact hlt x hx
   ·rw [List.mem_singleton.1 hx, kvs_at hi]
    exact of_decide_eq_true h20
  ·refine wc_exit (then_exit (then_exit (block_hit ?_)))
   refine then_go ?_
   refine wc_seq ?_
   refine wc_draw TF.mixed ?_
   have st := st.pure (touch_drew _)
   refine fl_val 0 rfl (fun _ => (v_move' (by conv => (lhs; whnf)))) rfl (by kernel_rfl) ?_
   refine fl_val 1 rfl (fun _ => (v_move' (by conv => (lhs; whnf)))) rfl (by kernel_rfl) ?_
   refine fl_val 2 rfl (fun _ => (v_fa TF.f43_0 rfl)) rfl (by kernel_rfl) ?_
   refine fl_ld 3 rfl (v_load rfl (st.reads (v := .slice (some ⟨lb, lo, none⟩) E.length kc) 0 rfl TF.t40 rfl)) (by kernel_rfl) ?_
   refine fl_val 4 rfl (fun _ => (v_len_s Tryz.underlying40 rfl)) rfl (by kernel_rfl) ?_
   refine fl_val 5 rfl (fun _ => (wl_valD (v_lss rfl rfl) (q := true) (decide_eq_true (by omega)))) rfl (by kernel_rfl) ?_
   refine fl_val 6 rfl (fun _ => (v_move' (by conv => (lhs; whnf)))) rfl (by kernel_rfl) ?_
   refine fl_on 7 rfl rfl rfl rfl (fun _ => (v_fa TF.f43_0 rfl)) rfl (by kernel_rfl) ?_
   refine fl_ond 8 rfl rfl rfl rfl (v_load rfl (st.reads (v := .slice (some ⟨lb, lo, none⟩) E.length kc) 0 rfl TF.t40 rfl)) rfl (by kernel_rfl) ?_
   refine fl_on 9 rfl rfl rfl rfl (fun _ => (v_move' (by conv => (lhs; whnf)))) rfl (by kernel_rfl) ?_
   refine fl_on 10 rfl rfl rfl rfl (fun _ => (v_ias i Tryz.underlying40 TF.t9 rfl rfl (by first | rfl | omega) (by first | omega | (dsimp only at *; omega)))) rfl (by kernel_rfl) ?_
   refine fl_ond 11 rfl rfl rfl rfl (v_load rfl (hrk st.im)) rfl (by kernel_rfl) ?_
   refine fl_on 12 rfl rfl rfl rfl (fun _ => (v_move' (by conv => (lhs; whnf)))) rfl (by kernel_rfl) ?_
   refine fl_on 13 rfl rfl rfl rfl (fun _ => (v_eqs rfl rfl)) rfl (by kernel_rfl) ?_
   refine fl_val 14 rfl (fun _ => (v_pick rfl)) rfl (by kernel_rfl) ?_
   refine fl_eff1 15 [14, 13, 12, 10, 9, 7, 5, 4, 2, 1] [11, 8, 3] (by kernel_rfl) ⟨obl_on rfl rfl rfl rfl rfl (v_load rfl (hrk st.im)), obl_on rfl rfl rfl rfl rfl (v_load rfl (st.reads (v := .slice (some ⟨lb, lo, none⟩) E.length kc) 0 rfl TF.t40 rfl)), obl_ld rfl rfl rfl (v_load rfl (st.reads (v := .slice (some ⟨lb, lo, none⟩) E.length kc) 0 rfl TF.t40 rfl)), trivial⟩ rfl ?_
   refine wl_val (v_assign' (by conv => (lhs; whnf))) rfl ?_
   refine wl_nil ⟨rfl, ?_⟩
   refine fl_eff1 16 [] [] (by kernel_rfl) ⟨obl_on rfl rfl rfl rfl rfl (v_load rfl (hrk st.im)), obl_on rfl rfl rfl rfl rfl (v_load rfl (st.reads (v := .slice (some ⟨lb, lo, none⟩) E.length kc) 0 rfl TF.t40 rfl)), obl_ld rfl rfl rfl (v_load rfl (st.reads (v := .slice (some ⟨lb, lo, none⟩) E.length kc) 0 rfl TF.t40 rfl)), trivial⟩ rfl ?_
   refine wl_val (v_assign' (by conv => (lhs; whnf))) rfl ?_
   refine wl_nil ⟨rfl, ?_⟩
   refine fl_nil (by kernel_rfl) trivial ?_
   refine then_go ?_
   refine wc_ret ?_
   have hp : plN (kvs E) k = i := plN_is hlt (by rw [length_kvs]; omega) fun h => by rw [kvs_at hi]; exact of_decide_eq_false h20
   have ht : thB (kvs E) k = decide (E[i].1 = k) := by
    unfold thB
    rw [hp, List.getElem?_eq_getElem (by rw [length_kvs]; exact hi), kvs_at hi]
   exact ret2 (v := .int .i64 i) (v' := .bool (decide (E[i].1 = k))) rfl rfl ⟨(st.keepOnly (l := []) (List.nil_sublist _)).touch, by rw [hp, ht]⟩
 ·refine wc_region ?_
  refine wl_val (v_move' (by conv => (lhs; whnf))) rfl ?_
  refine wl_val (v_fa TF.f43_0 rfl) rfl ?_
  refine wl_val (v_load rfl (st.reads 0 rfl TF.t40 rfl)) rfl ?_
  refine wl_val (v_len_s Tryz.underlying40 rfl) rfl ?_
  refine wl_val (wl_valD (v_lss rfl rfl) (q := false) (decide_eq_false (by omega))) rfl ?_
  refine wl_val (v_move' (by conv => (lhs; whnf))) rfl ?_
  refine wl_off rfl rfl rfl rfl ?_
  refine wl_off rfl rfl rfl rfl ?_
  refine wl_off rfl rfl rfl rfl ?_
  refine wl_off rfl rfl rfl rfl ?_
  refine wl_off rfl rfl rfl rfl ?_
  refine wl_off rfl rfl rfl rfl ?_
  refine wl_off rfl rfl rfl rfl ?_
  refine wl_val (v_pick rfl) rfl ?_
  refine wl_nil ?_
  refine then_go ?_
  refine wc_false rfl ?_
  refine wc_exit (then_exit (then_exit (block_hit ?_)))
  refine then_go ?_
  refine wc_seq ?_
  refine wc_draw TF.mixed ?_
  have st := st.pure (touch_drew _)
  refine fl_val 0 rfl (fun _ => (v_move' (by conv => (lhs; whnf)))) rfl (by kernel_rfl) ?_
  refine fl_val 1 rfl (fun _ => (v_move' (by conv => (lhs; whnf)))) rfl (by kernel_rfl) ?_
  refine fl_val 2 rfl (fun _ => (v_fa TF.f43_0 rfl)) rfl (by kernel_rfl) ?_
  refine fl_ld 3 rfl (v_load rfl (st.reads (v := .slice ka E.length kc) 0 rfl TF.t40 rfl)) (by kernel_rfl) ?_
  refine fl_val 4 rfl (fun _ => (v_len_s Tryz.underlying40 rfl)) rfl (by kernel_rfl) ?_
  refine fl_val 5 rfl (fun _ => (wl_valD (v_lss rfl rfl) (q := false) (decide_eq_false (by omega)))) rfl (by kernel_rfl) ?_
  refine fl_val 6 rfl (fun _ => (v_move' (by conv => (lhs; whnf)))) rfl (by kernel_rfl) ?_
  refine fl_off 7 rfl rfl rfl rfl rfl rfl (by kernel_rfl) ?_
  refine fl_offd 8 rfl rfl rfl rfl rfl rfl (by kernel_rfl) ?_
  refine fl_off 9 rfl rfl rfl rfl rfl rfl (by kernel_rfl) ?_
  refine fl_off 10 rfl rfl rfl rfl rfl rfl (by kernel_rfl) ?_
  refine fl_offd 11 rfl rfl rfl rfl rfl rfl (by kernel_rfl) ?_
  refine fl_off 12 rfl rfl rfl rfl rfl rfl (by kernel_rfl) ?_
  refine fl_off 13 rfl rfl rfl rfl rfl rfl (by kernel_rfl) ?_
  refine fl_val 14 rfl (fun _ => (v_pick rfl)) rfl (by kernel_rfl) ?_
  refine fl_eff1 15 [14, 13, 12, 10, 9, 7, 5, 4, 2, 1] [11, 8, 3] (by kernel_rfl) ⟨obl_off rfl rfl rfl rfl rfl rfl, obl_off rfl rfl rfl rfl rfl rfl, obl_ld rfl rfl rfl (v_load rfl (st.reads (v := .slice ka E.length kc) 0 rfl TF.t40 rfl)), trivial⟩ rfl ?_
  refine wl_val (v_assign' (by conv => (lhs; whnf))) rfl ?_
  refine wl_nil ⟨rfl, ?_⟩
  refine fl_eff1 16 [] [] (by kernel_rfl) ⟨obl_off rfl rfl rfl rfl rfl rfl, obl_off rfl rfl rfl rfl rfl rfl, obl_ld rfl rfl rfl (v_load rfl (st.reads (v := .slice ka E.length kc) 0 rfl TF.t40 rfl)), trivial⟩ rfl ?_
  refine wl_val (v_assign' (by conv => (lhs; whnf))) rfl ?_
  refine wl_nil ⟨rfl, ?_⟩
  refine fl_nil (by kernel_rfl) trivial ?_
  refine then_go ?_
  refine wc_ret ?_
  have hp : plN (kvs E) k = i := plN_is hlt (by rw [length_kvs]; omega) fun h => (hi (by rw [length_kvs] at h; exact h)).elim
  have ht : thB (kvs E) k = false := by
   unfold thB
   rw [hp, List.getElem?_eq_none (by rw [length_kvs]; omega)]
  exact ret2 rfl rfl ⟨(st.keepOnly (l := []) (List.nil_sublist _)).touch, by rw [hp, ht]; rfl⟩
theorem c_rget {kv vv : Value} {E : List (By × DV)} {k : By} (him : Im m wI) (hE : KyM m kv vv E) (hEl : E.length ≤ 1000000) (hr : Risen (kvs E)) :
  Ret Tryz.prog 57 #[.agg #[kv, vv], .string (strB k)] wI fun v w' => Tch wI w' [] [] ∧ ∃ u, v = .tuple #[u, .bool (getKV k (kvs E)).isSome] ∧ SlM m u 1 ((getKV k (kvs E)).getD []).length (bs ((getKV k (kvs E)).getD [])) := by
 have st := St.start him
 obtain ⟨ka, kc, va, vc, rfl, rfl, hkc, hvc⟩ := hE.sl
 obtain ⟨_, _, hs, hgt⟩ := pl_take (k := k) hr
 refine ret_of Tryz.call57 Tryz.func57 rfl Tryz.ntmps57 Tryz.results57 rfl ?_
 refine wc_seq ?_
 refine wc_region ?_
 refine wl_box (v := .agg #[.slice ka E.length kc, .slice va E.length vc]) rfl st rfl ?_
 intro b2 w st
 refine wl_val (v_assign' (by conv => (lhs; whnf))) rfl ?_
 refine wl_val (v_assign' (by conv => (lhs; whnf))) rfl ?_
 refine wl_nil ?_
 refine then_go ?_
 refine wc_seq ?_
 refine wc_region ?_
 refine wl_val (v_load rfl (st.reads (v := .agg #[.slice ka E.length kc, .slice va E.length vc]) 0 rfl TF.t43 (getV_all rfl))) rfl ?_
 refine wl_val (v_move' (by conv => (lhs; whnf))) rfl ?_
 refine wl_call rfl (c_place st.im hE hEl) rfl ?_
 rintro v11 w ⟨t11, rfl⟩
 have st := st.pure t11
 refine wl_val (v_move' (by conv => (lhs; whnf))) rfl ?_
 refine wl_val (v_extract rfl rfl) rfl ?_
 refine wl_val (v_extract rfl rfl) rfl ?_
 refine wl_val (v_assign' (by conv => (lhs; whnf))) rfl ?_
 refine wl_val (v_assign' (by conv => (lhs; whnf))) rfl ?_
 refine wl_nil ?_
 refine then_go ?_
 refine wc_seq ?_
 refine wc_seq ?_
 refine wc_region ?_
 refine wl_val (v_move' (by conv => (lhs; whnf))) rfl ?_
 refine wl_val (v_not rfl) rfl ?_
 refine wl_nil ?_
 refine then_go ?_
 refine wc_cond rfl (fun h15 => ?_) (fun h15 => ?_)
 ·refine wc_seq ?_
  refine wc_region ?_
  refine wl_val (v_assign' (by conv => (lhs; whnf))) rfl ?_
  refine wl_val (v_assign' (by conv => (lhs; whnf))) rfl ?_
  refine wl_nil ?_
  refine then_go ?_
  refine wc_ret (then_ret ?_)
  have h0 : thB (kvs E) k = false := by simpa using h15
  have hn : getKV k (kvs E) = none := Option.isNone_iff_eq_none.1 (by rw [h0] at hs; simpa using hs)
  rw [hn]
  exact ret2 rfl rfl ⟨(st.keepOnly (l := []) (List.nil_sublist _)).touch, _, rfl, SlM.nil⟩
 ·refine wc_skip ?_
  refine then_go ?_
  refine wc_seq ?_
  have h1 : thB (kvs E) k = true := by simpa using h15
  obtain ⟨hi, hg⟩ := hgt h1
  obtain ⟨i, hie⟩ : ∃ i, i = plN (kvs E) k := ⟨_, rfl⟩
  have hi' : i < E.length := by rw [hie]; rw [length_kvs] at hi; exact hi
  obtain ⟨lb, lo, _, hla, hrk⟩ := hE.val hi'
  cases hla
  have hg : getKV k (kvs E) = some E[i].2.1 := by rw [hg]; simp [kvs, hie]
  rw [hg, ← hie]
  refine wc_region ?_
  refine wl_val (v_fa TF.f43_1 rfl) rfl ?_
  refine wl_val (v_load rfl (st.reads (v := .slice (some ⟨lb, lo, none⟩) E.length vc) 0 rfl TF.t41 rfl)) rfl ?_
  refine wl_val (v_move' (by conv => (lhs; whnf))) rfl ?_
  refine wl_val (v_ias i Tryz.underlying41 TF.t23 rfl rfl (by first | rfl | omega) (by first | omega | (dsimp only at *; omega))) rfl ?_
  refine wl_val (v_load rfl (hrk st.im)) rfl ?_
  refine wl_val (v_assign' (by conv => (lhs; whnf))) rfl ?_
  refine wl_val (v_assign' (by conv => (lhs; whnf))) rfl ?_
  refine wl_nil ?_
  refine then_go ?_
  refine wc_ret ?_
  exact ret2 rfl rfl ⟨(st.keepOnly (l := []) (List.nil_sublist _)).touch, _, rfl, (hE.2.2 _ (List.getElem_mem hi')).2.2⟩
end
end Go.Proofs.YtladpaehbolghaaGreat

namespace Go.Proofs.YtladpaehbolghaaGreat
open Go Go.RowKit K SH GC JR OS
open DK hiding By
section
variable {m0 m : Mem} {F : List Nat} {w0 w : World} {Es : List Ent}
abbrev lgE (g b s n : Nat) (sl : LG) (lv wv : Value) (S : By) (N : List (By × Value)) (Es : List Ent) : List Ent := logB g b sl lv :: lrE lv N :: diskO b s n wv (calm S) :: Es
abbrev stE (sb g mb : Nat) (L : List (By × DV)) (Es : List Ent) : List Ent := K.blk sb #[.pointer (some ⟨g, 0, none⟩), .map (some mb)] 95 :: kmE mb L :: Es
def LgOut (m0 m : Mem) (w0 w' : World) (Es : List Ent) (g b s n : Nat) (sl : LG) (N : List (By × Value)) (a : Nat) (X : List By) (v : Value) : Prop :=
 ∃ m' wv' lv' N' S' sl', (∀ k o, m k = some o → m' k = some o) ∧ v = .int .i64 (a : Nat) ∧ Pcs m' N' ∧ PcsN m m' N N' ∧ N'.map (·.1) = (if a = 0 then X else N.map (·.1)) ∧ LogOk n S' sl' (N'.map (·.1)) ∧ sl'.gen.toNat ≤ sl.gen.toNat + 1 ∧ St m0 m' [] w0 w' (lgE g b s n sl' lv' wv' S' N' Es)
theorem lg_of {g b s n a : Nat} {sl sl' : LG} {N : List (By × Value)} {d : DS} {X : List By} {v : Value} {w' : World} {S' : By} (h : LogOut m0 m w0 w' Es g b s n (d, sl', ((a : Nat) : Int)) N (N.map (·.1)) X v) (hd : d = calm S') (ok : LogOk n S' sl' (if a = 0 then X else N.map (·.1))) (hg : sl'.gen.toNat ≤ sl.gen.toNat + 1) : LgOut m0 m w0 w' Es g b s n sl N a X v := by
 obtain ⟨m', wv', lv', N', hmm, hv, hP, hPn, hN, st⟩ := h
 subst hd
 have e : (if ((a : Nat) : Int) = 0 then X else N.map (·.1)) = (if a = 0 then X else N.map (·.1)) := by
  by_cases h : a = 0
  ·rw [if_pos h, if_pos (by omega)]
  ·rw [if_neg h, if_neg (by omega)]
 have hN : N'.map (·.1) = (if a = 0 then X else N.map (·.1)) := hN.trans e
 exact ⟨m', wv', lv', N', S', sl', hmm, hv, hP, hPn, hN, by rw [hN]; exact ok, hg, st⟩
theorem LgOut.drop {E : Ent} {m' : Mem} {g b s n a : Nat} {sl : LG} {N : List (By × Value)} {X : List By} {v : Value} {w' : World} (h : LgOut m0 m' w0 w' (E :: Es) g b s n sl N a X v) : LgOut m0 m' w0 w' Es g b s n sl N a X v := by
 obtain ⟨m', wv', lv', N', S', sl', hmm, hv, hP, hPn, hN, ok, hg, st⟩ := h
 exact ⟨m', wv', lv', N', S', sl', hmm, hv, hP, hPn, hN, ok, hg, st.drop 3⟩
theorem LgOut.from {m' : Mem} {g b s n a : Nat} {sl : LG} {N : List (By × Value)} {X : List By} {v : Value} {w' : World} (h : LgOut m0 m' w0 w' Es g b s n sl N a X v) (hm : ∀ k o, m k = some o → m' k = some o) : LgOut m0 m w0 w' Es g b s n sl N a X v := by
 obtain ⟨m2, wv', lv', N', S', sl', hmm, hv, hP, hPn, hN, ok, hg, st⟩ := h
 exact ⟨m2, wv', lv', N', S', sl', fun k o h => hmm k o (hm k o h), hv, hP, fun y hy => (hPn y hy).imp id fun h => h.mono hm fun _ _ h => h, hN, ok, hg, st⟩
theorem c_lrestart {g b s n : Nat} {sl : LG} {lv wv nv : Value} {S : By} {N M : List (By × Value)} (st : St m0 m [] w0 w (lgE g b s n sl lv wv S N Es)) (ok : LogOk n S sl (N.map (·.1))) (hg : sl.gen.toNat + 1 < 18446744073709551616) (hP : Pcs m N) (hM : PcsM m nv M) (hMn : M.length ≤ 1048576) :
  Ret Tryz.prog 78 #[.pointer (some ⟨g, 0, none⟩), nv] w fun v w' => LgOut m0 m w0 w' Es g b s n sl N (resR (M.map (·.1)) n) (M.map (·.1)) v := by
 obtain ⟨S', sl', hr, ok', hg'⟩ := ok.res hg (M := M.map (·.1))
 refine (c_restart st (rdy_calm ok.len (by have := ok.n8; omega) ok.nle) hP ok.n8 ok.half hM hMn).mono fun v w' h => ?_
 rw [hr] at h
 refine lg_of h rfl ok' ?_
 rw [hg']
 split
 ·rw [UInt64.toNat_add, show (1 : UInt64).toNat = 1 from rfl]; omega
 ·omega
theorem c_lappend {g b s n : Nat} {sl : LG} {lv wv bv : Value} {S : By} {N : List (By × Value)} {x : By} (st : St m0 m [] w0 w (lgE g b s n sl lv wv S N Es)) (ok : LogOk n S sl (N.map (·.1))) (hP : Pcs m N) (hx : SlM m bv 1 x.length (bs x)) :
  Ret Tryz.prog 51 #[.pointer (some ⟨g, 0, none⟩), bv] w fun v w' => LgOut m0 m w0 w' Es g b s n sl N (appR (N.map (·.1)) x n) (N.map (·.1) ++ [x]) v := by
 obtain ⟨S', sl', hr, ok', hg', hh'⟩ := ok.app (x := x)
 have hl := sizeL_ge (l := N.map (·.1))
 have h1 := ok.fit
 have h2 := ok.nle
 rw [List.length_map] at hl
 refine (c_append st (rdy_calm ok.len (by have := ok.n8; omega) ok.nle) hP hx ok.half (by rw [ok.fin]; exact ok.fit) (by omega)).mono fun v w' h => ?_
 rw [hr] at h
 exact lg_of h rfl ok' (by rw [hg']; omega)
theorem c_kclone {mb : Nat} {L : List (By × DV)} (i : Nat) (st : St m0 m F w0 w Es) (hi : Es[i]? = some (kmE mb L)) :
  Ret Tryz.prog 77 #[.map (some mb)] w fun v w' => ∃ mc, v = .map (some mc) ∧ St m0 m F w0 w' (kmE mc L :: Es) := by
 obtain ⟨es, cl, hb, he⟩ := st.at hi
 exact ⟨Tryz.call77, Calls.mono (AnyW.maps_Clone cloneMap mb es cl w hb) fun e w' ⟨he, hw⟩ => ⟨_, he, _, rfl, hw ▸ mapE_copy (b' := 0) st hi hb⟩⟩
def OS.overN (M : Kys) (n : Nat) : Nat := if chkL (actsOf M) ≠ 0 ∨ resR (anewOf M) n ≠ 0 then 13 else 0
theorem c_sover {sb mb g b s n : Nat} {sl : LG} {lv wv v : Value} {S : By} {N : List (By × Value)} {L : List (By × DV)} {A : List AcT} {M : Kys}
  (st : St m0 m [] w0 w (lgE g b s n sl lv wv S N (stE sb g mb L Es))) (ok : LogOk n S sl (N.map (·.1))) (hg : sl.gen.toNat + 1 < 18446744073709551616) (hP : Pcs m N) (hL : KvOk m L) (hM : Risen M) (hp : M.Perm (kvs L)) (hA : AcsM m v A) (hok : okL (A.map (·.1))) (hn : L.length ≤ 100000) (hb : bulkK M + bulkA (A.map (·.1)) ≤ 1000000000) :
  Ret Tryz.prog 52 #[.pointer (some ⟨sb, 0, none⟩), v] w fun v' w' => LgOut m0 m w0 w' (stE sb g mb L Es) g b s n sl N (overN (doneS M (A.map (·.1))) n) (anewOf (doneS M (A.map (·.1)))) v' := by
 obtain ⟨M1, hM1⟩ : ∃ M1, M1 = doneS M (A.map (·.1)) := ⟨_, rfl⟩
 rw [← hM1]
 have hAl : A.length ≤ 4096 := by have := hok.1; simpa using this
 have hMl : M.length = L.length := by have := hp.length_eq; simpa using this
 have hr1 : Risen M1 := by rw [hM1]; exact doneS_rise hM
 obtain ⟨hb1, hl1⟩ := bulk_done (M := M) (A := A.map (·.1))
 rw [← hM1] at hb1 hl1
 rw [List.length_map] at hl1
 have hnd : ((kvs L).map (·.1)).Nodup := (hp.map (·.1)).nodup hM.nodup
 have h8 := ok.n8
 refine ret_of Tryz.call52 Tryz.func52 rfl Tryz.ntmps52 Tryz.results52 rfl ?_
 refine wc_seq ?_
 refine wc_region ?_
 refine wl_val (v_assign' (by conv => (lhs; whnf))) rfl ?_
 refine wl_nil ?_
 refine then_go ?_
 refine wc_seq ?_
 refine wc_region ?_
 refine wl_val (v_move' (by conv => (lhs; whnf))) rfl ?_
 refine wl_val (v_nil rfl) rfl ?_
 refine wl_val (v_fa TF.f95_1 rfl) rfl ?_
 refine wl_val (v_load rfl (st.reads (v := .map (some mb)) 3 rfl TF.t93 rfl)) rfl ?_
 refine wl_call rfl (c_kclone 4 st rfl) rfl ?_
 rintro v12 w ⟨mc, rfl, st⟩
 refine wl_val (v_assign' (by conv => (lhs; whnf))) rfl ?_
 refine wl_nil ?_
 refine then_go ?_
 refine wc_seq ?_
 refine wc_region ?_
 refine wl_val (v_move' (by conv => (lhs; whnf))) rfl ?_
 refine wl_val (v_move' (by conv => (lhs; whnf))) rfl ?_
 refine wl_call rfl (c_done st hA (fun a ha => hok.2.1 _ (List.mem_map.2 ⟨a, ha, rfl⟩)) hL (by omega)) rfl ?_
 rintro v15 w ⟨m1, L1, hmm1, hL1, _, hK1, st⟩
 have hpm : M1.Perm (kvs L1) := by rw [hM1, hK1]; exact doneS_perm hp hnd
 have hL1l : L1.length = M1.length := by have := hpm.length_eq; simpa using this.symm
 refine wl_nil ?_
 refine then_go ?_
 refine wc_seq ?_
 refine wc_region ?_
 refine wl_val (v_move' (by conv => (lhs; whnf))) rfl ?_
 refine wl_call rfl (c_swhole st hL1 (by omega)) rfl ?_
 rintro v17 w ⟨A1, hp1, hrs, st⟩
 have hAM : A1.map (·.1) = actsOf M1 := whole_one hp1 hrs hr1 hpm
 have hA1l : A1.length = M1.length := by have := congrArg List.length hAM; simpa [actsOf] using this
 have hao : ∀ a ∈ A1, AcOk m1 a.1 a.2 := fun a ha => by
  obtain ⟨z, hz, rfl⟩ := List.mem_map.1 (hp1.mem_iff.1 ha)
  obtain ⟨h1, h2, h3⟩ := hL1 z hz
  exact ⟨by show z.1.length ≤ _; omega, h3⟩
 obtain ⟨la, lc, hv17⟩ := row_sl (st.at (i := 0) rfl)
 subst hv17
 refine wl_val (v_assign' (by conv => (lhs; whnf))) rfl ?_
 refine wl_nil ?_
 refine then_go ?_
 refine wc_seq ?_
 refine wc_seq ?_
 refine wc_region ?_
 refine wl_val (v_move' (by conv => (lhs; whnf))) rfl ?_
 refine wl_val (v_len_s Tryz.underlying22 rfl) rfl ?_
 refine wl_val (v_eql rfl rfl) rfl ?_
 refine wl_nil ?_
 refine then_go ?_
 refine wc_cond rfl (fun h20 => ?_) (fun h20 => ?_)
 ·refine wc_seq ?_
  refine wc_region ?_
  refine wl_val (v_move' (by conv => (lhs; whnf))) rfl ?_
  refine wl_val (v_nil rfl) rfl ?_
  refine wl_val (v_fa TF.f95_0 rfl) rfl ?_
  refine wl_val (v_load rfl (st.reads (v := .pointer (some ⟨g, 0, none⟩)) 5 rfl TF.t92 rfl)) rfl ?_
  have hM0 : M1 = [] := by have := of_decide_eq_true h20; exact List.eq_nil_of_length_eq_zero (by omega)
  have st : St m0 m1 [] w0 w (lgE g b s n sl lv wv S N (stE sb g mb L Es)) := (st.drop 0).drop 0
  refine wl_call rfl (c_lrestart st ok hg (hP.mono hmm1) (M := []) ⟨SlM.nil, by simp⟩ (by simp)) rfl ?_
  intro v25 w ho
  refine wl_val (v_assign' (by conv => (lhs; whnf))) rfl ?_
  refine wl_nil ?_
  refine then_go ?_
  refine wc_ret (then_ret ?_)
  refine ret1 rfl ?_
  have e1 : anewOf M1 = [] := by unfold anewOf; rw [if_pos hM0]
  have e2 : overN M1 n = resR [] n := by
   have h3 : resR [] n = 0 := by unfold resR; rw [if_neg (by simp), if_pos (by simp [sizeL])]
   unfold overN
   rw [e1, h3, hM0, if_neg]
   rintro (h | h)
   ·exact h (by unfold chkL; rw [if_pos ⟨by simp [actsOf], by simp [actsOf], by simp [actsOf]⟩])
   ·exact h rfl
  rw [e1, e2]
  exact ho.from hmm1
 ·refine wc_skip ?_
  refine then_go ?_
  refine wc_seq ?_
  have hM0 : M1 ≠ [] := fun e => by have := of_decide_eq_false h20; rw [e] at hA1l; exact this (by rw [hA1l]; rfl)
  obtain ⟨m2, hg2, hls, st⟩ := st.keepLs (i := 0) rfl (fun _ _ => rfl)
  have hA1 : AcsM m2 (.slice la A1.length lc) A1 := ⟨hls, fun a ha => (hao a ha).mono hg2.le⟩
  refine wc_region ?_
  refine wl_val (v_move' (by conv => (lhs; whnf))) rfl ?_
  refine wl_call rfl (c_batch st hA1 (by omega) (by rw [hAM, bulk_acts]; omega)) rfl ?_
  rintro v27 w ⟨m3, hmm3, st⟩
  rw [hAM] at st
  have hA1 := hA1.mono hmm3
  have hmm13 : ∀ k o, m k = some o → m3 k = some o := fun k o h => hmm3 k o (hg2.le k o (hmm1 k o h))
  have ean : anewOf M1 = [batB (actsOf M1)] := by unfold anewOf; rw [if_neg hM0]
  refine wl_val (v_assign' (by conv => (lhs; whnf))) rfl ?_
  refine wl_nil ?_
  refine then_go ?_
  refine wc_seq ?_
  refine wc_seq ?_
  by_cases hck : checkE (batB (actsOf M1)) ≠ 0
  ·refine wc_region ?_
   refine wl_val (v_move' (by conv => (lhs; whnf))) rfl ?_
   refine wl_call rfl (c_jcheck (im_heapM _) (byE_SlM st 0 rfl)) rfl ?_
   rintro v29 w ⟨t29, rfl⟩
   have st := st.pure t29
   have hcq : (if 1 ≤ (batB (actsOf M1)).length ∧ (batB (actsOf M1)).length ≤ 1048576 then (0 : Int) else 1) = ((checkE (batB (actsOf M1)) : Nat) : Int) := by unfold checkE; split <;> rfl
   rw [hcq]
   refine wl_val (v_neqT (by omega) rfl rfl) rfl ?_
   refine wl_val (v_move' (by conv => (lhs; whnf))) rfl ?_
   refine wl_off rfl rfl rfl rfl ?_
   refine wl_off rfl rfl rfl rfl ?_
   refine wl_off rfl rfl rfl rfl ?_
   refine wl_val (v_pick rfl) rfl ?_
   refine wl_nil ?_
   refine then_go ?_
   refine wc_true rfl ?_
   refine wc_seq ?_
   refine wc_region ?_
   refine wl_val (v_assign' (by conv => (lhs; whnf))) rfl ?_
   refine wl_nil ?_
   refine then_go ?_
   refine wc_ret (then_ret ?_)
   have e2 : overN M1 n = 13 := by
    unfold overN
    have h : resR (anewOf M1) n ≠ 0 := by
     rw [ean]
     unfold resR
     rw [if_pos ⟨_, List.mem_singleton.2 rfl, hck⟩]
     decide
    rw [if_pos (.inr h)]
   refine ret1 (v := .int .i64 13) rfl ?_
   rw [e2]
   exact ⟨m3, wv, lv, N, S, sl, hmm13, rfl, hP.mono hmm13, .refl, by rw [if_neg (by decide)], ok, by omega, (st.drop 0).drop 0⟩
  ·refine wc_region ?_
   refine wl_val (v_move' (by conv => (lhs; whnf))) rfl ?_
   refine wl_call rfl (c_jcheck (im_heapM _) (byE_SlM st 0 rfl)) rfl ?_
   rintro v29 w ⟨t29, rfl⟩
   have st := st.pure t29
   have hcq : (if 1 ≤ (batB (actsOf M1)).length ∧ (batB (actsOf M1)).length ≤ 1048576 then (0 : Int) else 1) = ((checkE (batB (actsOf M1)) : Nat) : Int) := by unfold checkE; split <;> rfl
   rw [hcq]
   refine wl_val (v_neqF (by omega) rfl rfl) rfl ?_
   refine wl_val (v_move' (by conv => (lhs; whnf))) rfl ?_
   refine wl_on rfl rfl ?_
   refine wl_val (v_move' (by conv => (lhs; whnf))) rfl ?_
   have hAk : A1.length ≤ 1099511627776 := by omega
   have hcall := c_chk st.im hA1 hAk
   refine wl_on rfl rfl ?_
   refine wl_call rfl hcall rfl ?_
   rintro v33 w ⟨t33, rfl⟩
   have st := st.pure t33
   rw [hAM]
   refine wl_on rfl rfl ?_
   refine wl_val (v_neq rfl rfl) rfl ?_
   refine wl_val (v_pick rfl) rfl ?_
   refine wl_nil ?_
   refine then_go ?_
   refine wc_cond rfl (fun h35 => ?_) (fun h35 => ?_)
   ·refine wc_seq ?_
    refine wc_region ?_
    refine wl_val (v_assign' (by conv => (lhs; whnf))) rfl ?_
    refine wl_nil ?_
    refine then_go ?_
    refine wc_ret (then_ret ?_)
    have hz := of_decide_eq_true h35
    have e2 : overN M1 n = 13 := by
     unfold overN
     rw [if_pos (.inl (by omega))]
    refine ret1 (v := .int .i64 13) rfl ?_
    rw [e2]
    exact ⟨m3, wv, lv, N, S, sl, hmm13, rfl, hP.mono hmm13, .refl, by rw [if_neg (by decide)], ok, by omega, (st.drop 0).drop 0⟩
   ·refine wc_skip ?_
    refine then_go ?_
    refine wc_seq ?_
    refine wc_region ?_
    refine wl_val (v_move' (by conv => (lhs; whnf))) rfl ?_
    refine wl_val (v_nil rfl) rfl ?_
    refine wl_val (v_fa TF.f95_0 rfl) rfl ?_
    refine wl_val (v_load rfl (st.reads (v := .pointer (some ⟨g, 0, none⟩)) 5 rfl TF.t92 rfl)) rfl ?_
    refine wl_val (v_move' (by conv => (lhs; whnf))) rfl ?_
    have ho := byE_one st 0 rfl
    have st : St m0 m3 [] w0 w (byE v27 (batB (actsOf M1)) :: kmE mc L1 :: lgE g b s n sl lv wv S N (stE sb g mb L Es)) := st
    obtain ⟨m4, hg4, hm4, st2⟩ := st.freezeR (i := 0) rfl (by simp)
    have hx : SlM m4 v27 1 (batB (actsOf M1)).length (bs (batB (actsOf M1))) := row_SlM (m := m4) (st.at (i := 0) rfl) hm4
    have st : St m0 m4 [] w0 w (kmE mc L1 :: lgE g b s n sl lv wv S N (stE sb g mb L Es)) := st2
    refine wl_svOne (v := v27) Tryz.underlying41 TF.t23 TF.z23 ho rfl st rfl ?_
    intro b41 w st
    have st := st.rowShut 0 (b := b41) (k := 1) (cap := 1) (size := 1) (xs := [v27]) rfl (by omega) rfl (by omega) rfl
    have hP1 : Pcs m4 [(batB (actsOf M1), v27)] := fun y hy => by rw [List.mem_singleton.1 hy]; exact hx
    obtain ⟨m5, hg5, hm5, st5⟩ := st.freezeR (i := 0) rfl (by simp)
    have hrow : SlM m5 (.slice (some ⟨b41, 0, none⟩) 1 1) 1 1 [v27] := row_SlM (m := m5) (st.at (i := 0) rfl) hm5
    have st := st5
    have hmm15 : ∀ k o, m k = some o → m5 k = some o := fun k o h => hg5.le k o (hg4.le k o (hmm13 k o h))
    have hPM : PcsM m5 (.slice (some ⟨b41, 0, none⟩) 1 1) [(batB (actsOf M1), v27)] := ⟨hrow, hP1.mono hg5.le⟩
    have st : St m0 m5 [] w0 w (lgE g b s n sl lv wv S N (stE sb g mb L Es)) := st.drop 0
    refine wl_call rfl (c_lrestart st ok hg (hP.mono hmm15) hPM (by simp)) rfl ?_
    intro v42 w ho
    refine wl_val (v_assign' (by conv => (lhs; whnf))) rfl ?_
    refine wl_nil ?_
    refine then_go ?_
    refine wc_ret ?_
    refine ret1 rfl ?_
    have hz := of_decide_eq_false h35
    have e2 : overN M1 n = if resR (anewOf M1) n = 0 then 0 else 13 := by
     unfold overN
     by_cases h : resR (anewOf M1) n = 0
     ·rw [if_pos h, if_neg (by omega)]
     ·rw [if_neg h, if_pos (.inr h)]
    have e3 : resR (anewOf M1) n = 0 ∨ resR (anewOf M1) n = 13 := by
     rw [ean]
     unfold resR
     rw [if_neg (by rintro ⟨y, hy, hc⟩; rw [List.mem_singleton.1 hy] at hc; exact hck hc)]
     split
     ·exact .inl rfl
     ·exact .inr rfl
    have e4 : overN M1 n = resR (anewOf M1) n := by rcases e3 with e | e <;> rw [e2, e] <;> rfl
    rw [e4]
    have ho := ho.from hmm15
    rw [ean]
    exact ho
end
end Go.Proofs.YtladpaehbolghaaGreat

namespace Go.Proofs.YtladpaehbolghaaGreat
open Go Go.RowKit K SH GC JR OS
open DK hiding By
section
variable {m0 m : Mem} {F : List Nat} {w0 w : World} {Es : List Ent}
theorem OS.KvN.trans {m m1 m2 : Mem} {L L1 L2 : List (By × DV)} (h1 : KvN m m1 L L1) (h2 : KvN m1 m2 L1 L2) (hm : ∀ k o, m k = some o → m1 k = some o) (hm2 : ∀ k o, m1 k = some o → m2 k = some o) : KvN m m2 L L2 := fun x hx => (h2 x hx).elim (fun h => (h1 x h).imp id fun h => h.mono (fun _ _ h => h) hm2) fun h => .inr (h.mono hm fun _ _ h => h)
theorem PcsN.trans' {m m1 m2 : Mem} {L L1 L2 : List (By × Value)} (h1 : PcsN m m1 L L1) (h2 : PcsN m1 m2 L1 L2) (hm : ∀ k o, m k = some o → m1 k = some o) (hm2 : ∀ k o, m1 k = some o → m2 k = some o) : PcsN m m2 L L2 := fun x hx => (h2 x hx).elim (fun h => (h1 x h).imp id fun h => h.mono (fun _ _ h => h) hm2) fun h => .inr (h.mono hm fun _ _ h => h)
def StOut (m0 m : Mem) (w0 w' : World) (Es : List Ent) (sb mb g b s n : Nat) (sl : LG) (N : List (By × Value)) (L : List (By × DV)) (o : Kys × List By × Nat) (v : Value) : Prop :=
 ∃ m' wv' lv' N' S' sl' L', (∀ k o, m k = some o → m' k = some o) ∧ v = .int .i64 (o.2.2 : Nat) ∧ Pcs m' N' ∧ PcsN m m' N N' ∧ N'.map (·.1) = o.2.1 ∧ LogOk n S' sl' (N'.map (·.1)) ∧ sl'.gen.toNat ≤ sl.gen.toNat + 2 ∧ KvOk m' L' ∧ KvN m m' L L' ∧ o.1.Perm (kvs L') ∧ St m0 m' [] w0 w' (lgE g b s n sl' lv' wv' S' N' (stE sb g mb L' Es))
theorem appR_or {R : List By} {x : By} {n : Nat} : appR R x n = 0 ∨ appR R x n = 1 ∨ appR R x n = 13 := by
 unfold appR
 split
 ·exact .inr (.inl rfl)
 ·split
  ·exact .inl rfl
  ·exact .inr (.inr rfl)
theorem c_sapply {sb mb g b s n : Nat} {sl : LG} {lv wv v : Value} {S : By} {N : List (By × Value)} {L : List (By × DV)} {A : List AcT} {M : Kys}
  (st : St m0 m [] w0 w (lgE g b s n sl lv wv S N (stE sb g mb L Es))) (ok : LogOk n S sl (N.map (·.1))) (hg : sl.gen.toNat + 2 < 18446744073709551616) (hP : Pcs m N) (hL : KvOk m L) (hM : Risen M) (hp : M.Perm (kvs L)) (hA : AcsM m v A) (hAl : A.length ≤ 1000000) (hn : L.length ≤ 100000) (hb : bulkK M + bulkA (A.map (·.1)) ≤ 1000000000) :
  Ret Tryz.prog 22 #[.pointer (some ⟨sb, 0, none⟩), v] w fun v' w' => StOut m0 m w0 w' Es sb mb g b s n sl N L (applyR M (N.map (·.1)) (A.map (·.1)) n) v' := by
 have hmm0 : ∀ k o, m k = some o → m k = some o := fun _ _ h => h
 obtain ⟨la, lc, rfl⟩ := hA.1.sl
 have hnd : ((kvs L).map (·.1)).Nodup := (hp.map (·.1)).nodup hM.nodup
 refine ret_of Tryz.call22 Tryz.func22 rfl Tryz.ntmps22 Tryz.results22 rfl ?_
 refine wc_seq ?_
 refine wc_region ?_
 refine wl_val (v_assign' (by conv => (lhs; whnf))) rfl ?_
 refine wl_nil ?_
 refine then_go ?_
 refine wc_seq ?_
 refine wc_seq ?_
 refine wc_region ?_
 refine wl_val (v_move' (by conv => (lhs; whnf))) rfl ?_
 refine wl_call rfl (c_chk st.im hA (by omega)) rfl ?_
 rintro v8 w ⟨t8, rfl⟩
 have st := st.pure t8
 refine wl_val (v_assign' (by conv => (lhs; whnf))) rfl ?_
 refine wl_nil ?_
 refine then_go ?_
 refine wc_seq ?_
 refine wc_region ?_
 refine wl_val (v_move' (by conv => (lhs; whnf))) rfl ?_
 refine wl_val (v_neq rfl rfl) rfl ?_
 refine wl_val (v_move' (by conv => (lhs; whnf))) rfl ?_
 refine wl_valg rfl rfl (fun e => (v_move' (by conv => (lhs; whnf)))) rfl ?_
 refine wl_valg rfl rfl (fun e => (v_len_s Tryz.underlying22 (by first | rfl | exact gx e rfl))) rfl ?_
 refine wl_valg rfl rfl (fun e => (v_eql (by first | rfl | exact gx e rfl) (by first | rfl | exact gx e rfl))) rfl ?_
 refine wl_val (v_pickO rfl rfl rfl) rfl ?_
 refine wl_nil ?_
 refine then_go ?_
 refine wc_cond rfl (fun h15 => ?_) (fun h15 => ?_)
 ·refine wc_seq ?_
  refine wc_region ?_
  refine wl_val (v_move' (by conv => (lhs; whnf))) rfl ?_
  refine wl_val (v_assign' (by conv => (lhs; whnf))) rfl ?_
  refine wl_nil ?_
  refine then_go ?_
  refine wc_ret (then_ret ?_)
  have h : chkL (A.map (·.1)) ≠ 0 ∨ A.map (·.1) = [] := by
   rcases (Bool.or_eq_true _ _).mp h15 with h | h
   ·have := of_decide_eq_true h; exact .inl (by omega)
   ·have := of_decide_eq_true h; exact .inr (by rw [List.eq_nil_of_length_eq_zero (l := A) (by omega)]; rfl)
  refine ret1 (v := .int .i64 (chkL (A.map (·.1)) : Nat)) rfl ?_
  unfold applyR
  rw [if_pos h]
  exact ⟨m, wv, lv, N, S, sl, L, hmm0, rfl, hP, .refl, rfl, ok, by omega, hL, .refl, hp, st⟩
 ·refine wc_skip ?_
  refine then_go ?_
  refine wc_seq ?_
  have h2 := (Bool.or_eq_false_iff.mp h15)
  have hc0 : chkL (A.map (·.1)) = 0 := by have := of_decide_eq_false h2.1; omega
  have hok : okL (A.map (·.1)) := by
   unfold chkL at hc0
   split at hc0
   ·assumption
   ·cases hc0
  have hA0 : ¬ (chkL (A.map (·.1)) ≠ 0 ∨ A.map (·.1) = []) := by
   rintro (h | h)
   ·exact h hc0
   ·exact of_decide_eq_false h2.2 (by rw [List.map_eq_nil_iff.1 h]; rfl)
  refine wc_draw TF.mixed ?_
  have st := st.pure (touch_drew _)
  refine fl_val 0 rfl (fun _ => (v_move' (by conv => (lhs; whnf)))) rfl (by kernel_rfl) ?_
  refine fl_val 1 rfl (fun _ => (v_nil rfl)) rfl (by kernel_rfl) ?_
  refine fl_val 2 rfl (fun _ => (v_fa TF.f95_0 rfl)) rfl (by kernel_rfl) ?_
  refine fl_ld 3 rfl (v_load rfl (st.reads (v := .pointer (some ⟨g, 0, none⟩)) 3 rfl TF.t92 rfl)) (by kernel_rfl) ?_
  refine fl_val 4 rfl (fun _ => (v_move' (by conv => (lhs; whnf)))) rfl (by kernel_rfl) ?_
  refine fl_eff1 5 [2, 1, 0] [3] (by kernel_rfl) ⟨obl_ld rfl rfl rfl (v_load rfl (st.reads (v := .pointer (some ⟨g, 0, none⟩)) 3 rfl TF.t92 rfl)), trivial⟩ rfl ?_
  refine wl_call rfl (c_batch st hA (by omega) (by omega)) rfl ?_
  rintro v22 w ⟨m1, hmm1, st⟩
  obtain ⟨m2, hg2, hm2, st2⟩ := st.freezeR (i := 0) rfl (by simp)
  have hx : SlM m2 v22 1 (batB (A.map (·.1))).length (bs (batB (A.map (·.1)))) := row_SlM (m := m2) (st.at (i := 0) rfl) hm2
  have st : St m0 m2 [] w0 w (lgE g b s n sl lv wv S N (stE sb g mb L Es)) := st2
  have hmm2 : ∀ k o, m k = some o → m2 k = some o := fun k o h => hg2.le k o (hmm1 k o h)
  refine wl_nil ⟨rfl, ?_⟩
  refine fl_eff1 6 [2, 1, 0] [] (by kernel_rfl) ⟨obl_ld rfl rfl rfl (v_load rfl (st.reads (v := .pointer (some ⟨g, 0, none⟩)) 3 rfl TF.t92 rfl)), trivial⟩ rfl ?_
  refine wl_call rfl (c_lappend st ok (hP.mono hmm2) hx) rfl ?_
  rintro v23 w ⟨m3, wv3, lv3, N3, S3, sl3, hmm3, rfl, hP3, hPn3, hN3, ok3, hg3, st⟩
  have hmm3 : ∀ k o, m k = some o → m3 k = some o := fun k o h => hmm3 k o (hmm2 k o h)
  refine wl_nil ⟨rfl, ?_⟩
  refine fl_eff1 7 [] [] (by kernel_rfl) trivial rfl ?_
  refine wl_val (v_assign' (by conv => (lhs; whnf))) rfl ?_
  refine wl_nil ⟨rfl, ?_⟩
  refine fl_nil (by kernel_rfl) trivial ?_
  refine then_go ?_
  refine wc_seq ?_
  refine wc_seq ?_
  refine wc_region ?_
  refine wl_val (v_move' (by conv => (lhs; whnf))) rfl ?_
  refine wl_val (v_eql rfl rfl) rfl ?_
  refine wl_val (v_move' (by conv => (lhs; whnf))) rfl ?_
  refine wl_valg rfl rfl (fun e => (v_move' (by conv => (lhs; whnf)))) rfl ?_
  refine wl_valg rfl rfl (fun e => (v_eql (by first | rfl | exact gx e rfl) (by first | rfl | exact gx e rfl))) rfl ?_
  refine wl_val (v_pickO rfl rfl rfl) rfl ?_
  refine wl_nil ?_
  refine then_go ?_
  refine wc_mid (fun r w' => ∃ (a : Nat) (m' : Mem) (wv' lv' : Value) (N' : List (By × Value)) (S' : By) (sl' : LG), r 0 = .pointer (some ⟨sb, 0, none⟩) ∧ r 1 = .slice la A.length lc ∧ r 6 = .int .i64 a ∧ (∀ k o, m k = some o → m' k = some o) ∧ Pcs m' N' ∧ PcsN m m' N N' ∧ applyR M (N.map (·.1)) (A.map (·.1)) n = (if a = 0 then doneS M (A.map (·.1)) else M, N'.map (·.1), a) ∧ LogOk n S' sl' (N'.map (·.1)) ∧ sl'.gen.toNat ≤ sl.gen.toNat + 2 ∧ St m0 m' [] w0 w' (lgE g b s n sl' lv' wv' S' N' (stE sb g mb L Es))) ?_ ?_
  ·refine wc_cond rfl (fun h29 => ?_) (fun h29 => ?_)
   ·refine wc_region ?_
    refine wl_val (v_move' (by conv => (lhs; whnf))) rfl ?_
    refine wl_val (v_move' (by conv => (lhs; whnf))) rfl ?_
    have hne : ¬ appR (N.map (·.1)) (batB (A.map (·.1))) n = 0 := fun e => by rw [e] at h29; cases h29
    rw [if_neg hne] at hN3
    rw [hN3] at ok3
    refine wl_call rfl (c_sover st (by rw [hN3]; exact ok3) (by omega) hP3 (hL.mono hmm3) hM hp (hA.mono hmm3) hok hn hb) rfl ?_
    rintro v32 w ⟨m4, wv4, lv4, N4, S4, sl4, hmm4, rfl, hP4, hPn4, hN4, ok4, hg4, st⟩
    refine wl_val (v_assign' (by conv => (lhs; whnf))) rfl ?_
    refine wl_nil ?_
    refine then_go ?_
    refine ⟨_, m4, wv4, lv4, N4, S4, sl4, rfl, rfl, rfl, fun k o h => hmm4 k o (hmm3 k o h), hP4, PcsN.trans' (fun y hy => (hPn3 y hy).imp id fun h => h.mono hmm2 fun _ _ h => h) hPn4 hmm3 hmm4, ?_, ok4, by omega, st⟩
    unfold applyR
    rw [if_neg hA0, if_neg hne, hN4, hN3]
    unfold overN
    split
    ·rw [if_neg (by decide), if_neg (by decide)]
    ·rw [if_pos rfl, if_pos rfl]
   ·refine wc_skip ?_
    refine then_go ?_
    have h2 := (Bool.or_eq_false_iff.mp h29)
    have he : appR (N.map (·.1)) (batB (A.map (·.1))) n = 0 := (appR_or).resolve_right fun h => h.elim (fun h => of_decide_eq_false h2.2 (by rw [h]; rfl)) fun h => of_decide_eq_false h2.1 (by rw [h]; rfl)
    refine ⟨0, m3, wv3, lv3, N3, S3, sl3, rfl, rfl, by rw [← he]; rfl, hmm3, hP3, fun y hy => (hPn3 y hy).imp id fun h => h.mono hmm2 fun _ _ h => h, ?_, ok3, by omega, st⟩
    unfold applyR
    rw [if_neg hA0, if_pos he, hN3, if_pos he, if_pos rfl]
  ·clear st
   rintro r w ⟨a, m4, wv4, lv4, N4, S4, sl4, g0, g1, g6, hmm4, hP4, hPn4, hap, ok4, hg4, st⟩
   refine wc_o 0 g0 (wc_o 1 g1 (wc_o 6 g6 ?_))
   rw [hap]
   refine wc_seq ?_
   refine wc_seq ?_
   refine wc_region ?_
   refine wl_val (v_move' (by conv => (lhs; whnf))) rfl ?_
   refine wl_val (v_eql rfl rfl) rfl ?_
   refine wl_nil ?_
   refine then_go ?_
   refine wc_cond rfl (fun h34 => ?_) (fun h34 => ?_)
   ·refine wc_region ?_
    refine wl_val (v_move' (by conv => (lhs; whnf))) rfl ?_
    refine wl_val (v_nil rfl) rfl ?_
    refine wl_val (v_fa TF.f95_1 rfl) rfl ?_
    refine wl_val (v_load rfl (st.reads (v := .map (some mb)) 3 rfl TF.t93 rfl)) rfl ?_
    refine wl_val (v_move' (by conv => (lhs; whnf))) rfl ?_
    have st := st.perm (List.perm_middle (l₁ := [_, _, _, _]))
    refine wl_call rfl (c_done st (hA.mono hmm4) (fun a ha => hok.2.1 _ (List.mem_map.2 ⟨a, ha, rfl⟩)) (hL.mono hmm4) (by omega)) rfl ?_
    rintro v40 w ⟨m5, L5, hmm5, hL5, hN5, hK5, st⟩
    have st : St m0 m5 [] w0 w (lgE g b s n sl4 lv4 wv4 S4 N4 (stE sb g mb L5 Es)) := st.perm (List.perm_middle (l₁ := [_, _, _, _])).symm
    refine wl_nil ?_
    refine then_go ?_
    refine wc_seq ?_
    refine wc_region ?_
    refine wl_val (v_move' (by conv => (lhs; whnf))) rfl ?_
    refine wl_val (v_assign' (by conv => (lhs; whnf))) rfl ?_
    refine wl_nil ?_
    refine then_go ?_
    refine wc_ret ?_
    have ha : a = 0 := by have := of_decide_eq_true h34; omega
    refine ret1 (v := .int .i64 (a : Nat)) rfl ?_
    refine ⟨m5, wv4, lv4, N4, S4, sl4, L5, fun k o h => hmm5 k o (hmm4 k o h), rfl, hP4.mono hmm5, fun y hy => (hPn4 y hy).imp id fun h => h.mono (fun _ _ h => h) hmm5, rfl, ok4, hg4, hL5, fun y hy => (hN5 y hy).imp id fun h => h.mono hmm4 fun _ _ h => h, ?_, st⟩
    rw [if_pos ha, hK5]
    exact doneS_perm hp hnd
   ·refine wc_skip ?_
    refine then_go ?_
    refine wc_seq ?_
    refine wc_region ?_
    refine wl_val (v_move' (by conv => (lhs; whnf))) rfl ?_
    refine wl_val (v_assign' (by conv => (lhs; whnf))) rfl ?_
    refine wl_nil ?_
    refine then_go ?_
    refine wc_ret ?_
    have ha : ¬ a = 0 := by have := of_decide_eq_false h34; omega
    refine ret1 (v := .int .i64 (a : Nat)) rfl ?_
    refine ⟨m4, wv4, lv4, N4, S4, sl4, L, hmm4, rfl, hP4, hPn4, rfl, ok4, hg4, hL.mono hmm4, .refl, ?_, st⟩
    rw [if_neg ha]
    exact hp
end
end Go.Proofs.YtladpaehbolghaaGreat

namespace Go.Proofs.YtladpaehbolghaaGreat
open Go Go.RowKit K SH GC JR OS
open DK hiding By
namespace OS
def oneE (E : List (By × DV)) (a : Ac) (dv : Value) : List (By × DV) := E.take (plN (kvs E) a.key) ++ ((if a.set then [(a.key, a.data, dv)] else []) ++ E.drop (plN (kvs E) a.key + if thB (kvs E) a.key then 1 else 0))
theorem kvs_one {E : List (By × DV)} {a : Ac} {dv : Value} (h : Risen (kvs E)) : kvs (oneE E a dv) = oneS (kvs E) a := by
 obtain ⟨h1, h2, _⟩ := pl_take (k := a.key) h
 unfold oneE oneS
 rw [← h1, ← h2]
 unfold kvs
 rw [List.map_append, List.map_append, List.map_take, List.map_drop]
 split <;> rfl
theorem kvok_app {m : Mem} {A B : List (By × DV)} (hA : KvOk m A) (hB : KvOk m B) : KvOk m (A ++ B) := fun x hx => (List.mem_append.1 hx).elim (hA x) (hB x)
theorem KvOk.take {m : Mem} {E : List (By × DV)} (h : KvOk m E) (i : Nat) : KvOk m (E.take i) := fun x hx => h x (List.mem_of_mem_take hx)
theorem KvOk.drop {m : Mem} {E : List (By × DV)} (h : KvOk m E) (i : Nat) : KvOk m (E.drop i) := fun x hx => h x (List.mem_of_mem_drop hx)
theorem one_str {E : List (By × DV)} : ∀ u ∈ kstr E, u.oneCell' = true := fun u hu => by obtain ⟨x, _, rfl⟩ := List.mem_map.1 hu; rfl
theorem one_val {m : Mem} {E : List (By × DV)} (h : KvOk m E) : ∀ u ∈ kval E, u.oneCell' = true := fun u hu => by obtain ⟨x, hx, rfl⟩ := List.mem_map.1 hu; exact SlM.one1 (h x hx).2.2
theorem thB_lt {M : Kys} {k : By} (h : thB M k = true) : plN M k < M.length := by
 unfold thB at h
 split at h
 ·rename_i x hx
  rcases Nat.lt_or_ge (plN M k) M.length with h' | h'
  ·exact h'
  ·rw [List.getElem?_eq_none h'] at hx; cases hx
 ·cases h
end OS
section
variable {m0 m : Mem} {wI w0 w : World} {Es : List Ent}
abbrev rwE {α : Type} (T : TypeId) (f : α → Value) (v : Value) (L : List α) : Ent := rowE v T 1 L.length (L.map f)
abbrev ksE (v : Value) (E : List (By × DV)) : Ent := rwE 9 (fun x => .string (strB x.1)) v E
abbrev vsE (v : Value) (E : List (By × DV)) : Ent := rwE 23 (fun x => x.2.2) v E
section
variable {α : Type} {P : Program} {n : Nat} {ops : Array Oper} {Q : Po} {rest : List Oper} {r : Fr} {d : Nat} {ty : TypeId} {pos : String} {after : Array Edge} {F : List Nat}
theorem wl_rwApp (f : α → Value) (i : Nat) {T E bytes : Nat} {z v x : Value} {s y : Operand} {A B : List α} (st : St m0 m F w0 w Es) (hi : Es[i]? = some (rwE E f v A)) (hT : P.underlying T = some (.slice E)) (tf : TyF P E false 1 bytes) (hz : TyZ P E z) (hzs : z.cells.size = 1)
  (hs : ev r s = v) (hy : ev r y = x) (src : Src P w x 1 B.length (B.map f)) (hb : (A.length + B.length) * bytes ≤ 140737488355328) (h63 : A.length + B.length ≤ 9223372036854775807) (hd : Nat.blt d n = true)
  (k : ∀ v' w', St m0 m F w0 w' (Es.set i (rwE E f v' (A ++ B))) → v'.oneCell' = true → WL P n ops Q rest (upd d v' r) w') :
  WL P n ops Q (⟨some d, .call ⟨.builtin .append, #[s, y], #[T, T]⟩, ty, pos, after, none⟩ :: rest) r w := by
 refine wl_append (news := B.map f) i st hi hT hT (.inr ⟨_, rfl⟩) tf hz hzs hs hy src h63 hb hd ?_
 intro v' w' _ st'
 have st2 := st'
 have e1 : A.map f ++ B.map f = (A ++ B).map f := by simp
 have e2 : A.length + B.length = (A ++ B).length := by simp
 rw [e1, e2] at st2
 have hlt : i < Es.length := by
  rcases Nat.lt_or_ge i Es.length with h | h
  ·exact h
  ·rw [List.getElem?_eq_none h] at hi; cases hi
 have hrow : (rwE E f v' (A ++ B)).holds w' := st2.at (i := i) (List.getElem?_set_self hlt)
 exact k v' w' st2 (row_one hrow)
theorem wl_rwPut (f : α → Value) (i : Nat) {T E bytes b cap : Nat} {z v : Value} {s y : Operand} {A : List α} {e : α} (st : St m0 m F w0 w (K.blk b #[f e] E :: Es)) (hi : Es[i]? = some (rwE E f v A)) (hT : P.underlying T = some (.slice E)) (tf : TyF P E false 1 bytes) (hz : TyZ P E z) (hzs : z.cells.size = 1) (ho : (f e).oneCell' = true)
  (hs : ev r s = v) (hy : ev r y = .slice (some ⟨b, 0, none⟩) 1 cap) (hb : (A.length + 1) * bytes ≤ 140737488355328) (h63 : A.length + 1 ≤ 9223372036854775807) (hd : Nat.blt d n = true)
  (k : ∀ v' w', St m0 m F w0 w' (Es.set i (rwE E f v' (A ++ [e]))) → v'.oneCell' = true → WL P n ops Q rest (upd d v' r) w') :
  WL P n ops Q (⟨some d, .call ⟨.builtin .append, #[s, y], #[T, T]⟩, ty, pos, after, none⟩ :: rest) r w := by
 refine wl_rwApp f (i + 1) (B := [e]) st hi hT tf hz hzs hs hy (st.srcArr (off := 0) 0 rfl rfl (fun j u hj => by simpa using hj) (fun u hu => by rw [List.mem_singleton.1 hu]; exact ho)) hb h63 hd ?_
 intro v' w' st' h1
 exact k v' w' (st'.drop 0) h1
theorem wl_rwOne {T E : TypeId} {bytes : Nat} {z v : Value} {x : Operand} (hT : P.underlying T = some (.slice E)) (tf : TyF P E false 1 bytes) (hz : TyZ P E z) (hzs : z.cells.size = 1) (ho : v.oneCell' = true) (hx : ev r x = v) (st : St m0 m F w0 w Es) (hd : Nat.blt d n = true)
  (k : ∀ b w', St m0 m F w0 w' (K.blk b #[v] E :: Es) → WL P n ops Q rest (upd d (.slice (some ⟨b, 0, none⟩) 1 1) r) w') :
  WL P n ops Q (⟨some d, .buildSlice T 1 #[(0, x)], ty, pos, after, none⟩ :: rest) r w := by
 refine wl_buildSlice (c' := #[v]) [(0, v)] hT tf hz (by decide) (by decide) (by simp [hx]) ⟨0, 1, rfl, by rw [cells_one ho]; rfl, by simp [size_madeCells, hzs], ?_⟩ st hd k
 rw [cells_one ho]
 exact setSeg_all (by simp [size_madeCells, hzs])
theorem SlM.subM {β : Type} (f : β → Value) {a : Option Addr} {cap : Nat} {L : List β} (i j : Nat) (hx : SlM m (.slice a L.length cap) 1 L.length (L.map f)) (hij : i ≤ j) (hj : j ≤ L.length) :
  SlM m (.slice (sliceOff a cap i 1) (j - i) (cap - i)) 1 ((L.drop i).take (j - i)).length (((L.drop i).take (j - i)).map f) := by
 have hs := hx.sub rfl (l := i) (h := j) hij hj (by omega)
 have e : ((L.map f).drop (i * 1)).take ((j - i) * 1) = ((L.drop i).take (j - i)).map f := by rw [List.map_take, List.map_drop, Nat.mul_one, Nat.mul_one]
 rw [e] at hs
 rw [List.length_take, List.length_drop, Nat.min_eq_left (by omega)]
 exact hs
end
theorem c_rone {kv vv dv : Value} {E : List (By × DV)} {x : Ac} (him : Im m wI) (hE : KyM m kv vv E) (hEl : E.length ≤ 1000000) (hok : AcOk m x dv) (hk : x.key.length ≤ 64) (hd : x.data.length ≤ 1048576) :
  Ret Tryz.prog 70 #[.agg #[kv, vv], .agg (acC x dv).toArray] wI fun v w' => Out m wI w' fun m' => ∃ kv' vv', v = .agg #[kv', vv'] ∧ KyM m' kv' vv' (oneE E x dv) := by
 have st := St.start him
 obtain ⟨ka, kc, va, vc, rfl, rfl, hkc, hvc⟩ := hE.sl
 obtain ⟨i, hie⟩ : ∃ i, i = plN (kvs E) x.key := ⟨_, rfl⟩
 obtain ⟨th, hth⟩ : ∃ t, t = thB (kvs E) x.key := ⟨_, rfl⟩
 obtain ⟨j, hj⟩ : ∃ j, j = i + if th = true then 1 else 0 := ⟨_, rfl⟩
 have hi : i ≤ E.length := by have := plN_le (M := kvs E) (k := x.key); rw [length_kvs] at this; omega
 have hjl : j ≤ E.length := by
  rw [hj]
  split
  ·have := thB_lt (M := kvs E) (k := x.key) (by rw [← hth]; assumption); rw [length_kvs] at this; omega
  ·omega
 have hone := cells_one (SlM.one1 hok.data)
 have hd1 := SlM.one1 hok.data
 obtain ⟨da, dc, rfl, hdc⟩ := hok.data.opn
 obtain ⟨L1, hL1⟩ : ∃ L, L = E.take i ++ (if x.set then [(x.key, x.data, (.slice da x.data.length dc : Value))] else []) := ⟨_, rfl⟩
 have hE' : oneE E x (.slice da x.data.length dc) = L1 ++ E.drop j := by
  unfold oneE
  rw [← hie, ← hth, ← hj, hL1, List.append_assoc]
 have tk : (E.drop 0).take (i - 0) = E.take i := rfl
 have dk : (E.drop j).take (E.length - j) = E.drop j := List.take_of_length_le (by simp)
 have sk1 := SlM.subM (fun x : By × DV => .string (strB x.1)) 0 i hE.1 (Nat.zero_le _) hi
 have sv1 := SlM.subM (fun x : By × DV => x.2.2) 0 i hE.2.1 (Nat.zero_le _) hi
 have sk2 := SlM.subM (fun x : By × DV => .string (strB x.1)) j E.length hE.1 hjl (Nat.le_refl _)
 have sv2 := SlM.subM (fun x : By × DV => x.2.2) j E.length hE.2.1 hjl (Nat.le_refl _)
 rw [tk] at sk1 sv1
 rw [dk] at sk2 sv2
 have ln1 : (E.take i).length = i := by rw [List.length_take]; omega
 have ln2 : (E.drop j).length = E.length - j := List.length_drop
 have lnL : L1.length ≤ i + 1 := by rw [hL1, List.length_append, ln1]; split <;> simp
 have hT1 : KvOk m (E.take i) := hE.2.2.take i
 have hL1ok : KvOk m L1 := by
  rw [hL1]
  refine kvok_app hT1 ?_
  split
  ·intro y hy; rw [List.mem_singleton.1 hy]; exact ⟨hk, hd, hok.data⟩
  ·intro y hy; cases hy
 refine ret_of Tryz.call70 Tryz.func70 rfl Tryz.ntmps70 Tryz.results70 rfl ?_
 refine wc_seq ?_
 refine wc_region ?_
 refine wl_box (v := .agg #[.slice ka E.length kc, .slice va E.length vc]) rfl st rfl ?_
 intro b2 w st
 refine wl_box (v := .agg (acC x (.slice da x.data.length dc)).toArray) rfl st rfl ?_
 intro b3 w st
 refine wl_alloc TF.z43 st rfl ?_
 intro b4 w st
 refine wl_nil ?_
 refine then_go ?_
 refine wc_seq ?_
 refine wc_region ?_
 refine wl_val (v_load rfl (st.reads (v := .agg #[.slice ka E.length kc, .slice va E.length vc]) 2 rfl TF.t43 (getV_all rfl))) rfl ?_
 refine wl_val (v_fa TF.f57_0 rfl) rfl ?_
 refine wl_val (v_load rfl (st.reads (v := .string (strB x.key)) 1 rfl TF.t9 (Ac.g0_1 hok))) rfl ?_
 refine wl_call rfl (c_place st.im hE hEl) rfl ?_
 rintro v12 w ⟨t12, rfl⟩
 have st := st.pure t12
 rw [← hie, ← hth]
 refine wl_val (v_move' (by conv => (lhs; whnf))) rfl ?_
 refine wl_val (v_extract rfl rfl) rfl ?_
 refine wl_val (v_extract rfl rfl) rfl ?_
 refine wl_val (v_assign' (by conv => (lhs; whnf))) rfl ?_
 refine wl_val (v_assign' (by conv => (lhs; whnf))) rfl ?_
 refine wl_nil ?_
 refine then_go ?_
 refine wc_seq ?_
 refine wc_region ?_
 refine wl_val (v_build (c' := #[.slice none 0 0, .slice none 0 0]) [] TF.z43 TF.p43 rfl rfl) rfl ?_
 refine wl_alloc TF.z43 st rfl ?_
 intro b7 w st
 refine wl_storeW (cs := #[.slice none 0 0, .slice none 0 0]) 0 st rfl TF.t43 rfl rfl rfl rfl (by simp [Value.oneCell']) ?_
 intro w st
 obtain ⟨bb2, hbb2⟩ : ∃ q, q = K.blk b2 #[.slice ka E.length kc, .slice va E.length vc] 43 := ⟨_, rfl⟩
 have st := nilRow st 23 1
 have st := nilRow st 9 1
 have st : St m m [] wI w [ksE (.slice none 0 0) [], vsE (.slice none 0 0) [], K.blk b7 #[.slice none 0 0, .slice none 0 0] 43, K.blk b4 #[.slice none 0 0, .slice none 0 0] 43, K.blk b3 (acC x (.slice da x.data.length dc)).toArray 57, K.blk b2 #[.slice ka E.length kc, .slice va E.length vc] 43] := st
 refine wl_nil ?_
 refine then_go ?_
 refine wc_seq ?_
 refine wc_draw TF.mixed ?_
 have st := st.pure (touch_drew _)
 refine fl_val 0 rfl (fun _ => (v_fa TF.f43_0 rfl)) rfl (by kernel_rfl) ?_
 refine fl_ld 1 rfl (v_load rfl (st.reads (v := .slice none 0 0) 2 rfl TF.t40 rfl)) (by kernel_rfl) ?_
 refine fl_val 2 rfl (fun _ => (v_fa TF.f43_0 rfl)) rfl (by kernel_rfl) ?_
 refine fl_ld 3 rfl (v_load rfl (st.reads (v := .slice ka E.length kc) 5 rfl TF.t40 rfl)) (by kernel_rfl) ?_
 refine fl_val 4 rfl (fun _ => (v_move' (by conv => (lhs; whnf)))) rfl (by kernel_rfl) ?_
 refine fl_val 5 rfl (fun _ => (v_slice_s (l := 0) (h := i) Tryz.underlying40 TF.t9 rfl rfl ⟨_, _, rfl, rfl⟩ (by omega) (by omega))) rfl (by kernel_rfl) ?_
 refine fl_eff1 6 [4, 2, 0] [3] (by kernel_rfl) ⟨obl_ld rfl rfl rfl (v_load rfl (st.reads (v := .slice ka E.length kc) 5 rfl TF.t40 rfl)), obl_ld rfl rfl rfl (v_load rfl (st.reads (v := .slice none 0 0) 2 rfl TF.t40 rfl)), trivial⟩ rfl ?_
 refine wl_rwApp _ 0 (B := E.take i) st rfl Tryz.underlying40 TF.t9 TF.z9 rfl rfl rfl (sk1.src st.im one_str) (by simp; omega) (by simp; omega) rfl ?_
 intro v22 w st o22
 refine wl_nil ⟨rfl, ?_⟩
 refine fl_val 7 rfl (fun _ => (v_fa TF.f43_0 rfl)) rfl (by kernel_rfl) ?_
 refine fl_eff1 8 [] [] (by kernel_rfl) ⟨obl_ld rfl rfl rfl (v_load rfl (st.reads (v := .slice ka E.length kc) 5 rfl TF.t40 rfl)), trivial⟩ rfl ?_
 refine wl_store1 (v := v22) 2 st rfl TF.t40 rfl rfl o22 (lt_ok rfl) ?_
 intro w st
 refine wl_nil ⟨rfl, ?_⟩
 refine fl_nil (by kernel_rfl) trivial ?_
 refine then_go ?_
 refine wc_seq ?_
 refine wc_draw TF.mixed ?_
 have st := st.pure (touch_drew _)
 refine fl_val 0 rfl (fun _ => (v_fa TF.f43_1 rfl)) rfl (by kernel_rfl) ?_
 refine fl_ld 1 rfl (v_load rfl (st.reads (v := .slice none 0 0) 2 rfl TF.t41 rfl)) (by kernel_rfl) ?_
 refine fl_val 2 rfl (fun _ => (v_fa TF.f43_1 rfl)) rfl (by kernel_rfl) ?_
 refine fl_ld 3 rfl (v_load rfl (st.reads (v := .slice va E.length vc) 5 rfl TF.t41 rfl)) (by kernel_rfl) ?_
 refine fl_val 4 rfl (fun _ => (v_move' (by conv => (lhs; whnf)))) rfl (by kernel_rfl) ?_
 refine fl_val 5 rfl (fun _ => (v_slice_s (l := 0) (h := i) Tryz.underlying41 TF.t23 rfl rfl ⟨_, _, rfl, rfl⟩ (by omega) (by omega))) rfl (by kernel_rfl) ?_
 refine fl_eff1 6 [4, 2, 0] [3] (by kernel_rfl) ⟨obl_ld rfl rfl rfl (v_load rfl (st.reads (v := .slice va E.length vc) 5 rfl TF.t41 rfl)), obl_ld rfl rfl rfl (v_load rfl (st.reads (v := .slice none 0 0) 2 rfl TF.t41 rfl)), trivial⟩ rfl ?_
 refine wl_rwApp _ 1 (B := E.take i) st rfl Tryz.underlying41 TF.t23 TF.z23 rfl rfl rfl (sv1.src st.im (one_val hT1)) (by simp; omega) (by simp; omega) rfl ?_
 intro v30 w st o30
 refine wl_nil ⟨rfl, ?_⟩
 refine fl_val 7 rfl (fun _ => (v_fa TF.f43_1 rfl)) rfl (by kernel_rfl) ?_
 refine fl_eff1 8 [] [] (by kernel_rfl) ⟨obl_ld rfl rfl rfl (v_load rfl (st.reads (v := .slice va E.length vc) 5 rfl TF.t41 rfl)), trivial⟩ rfl ?_
 refine wl_store1 (v := v30) 2 st rfl TF.t41 rfl rfl o30 (lt_ok rfl) ?_
 intro w st
 have st : St m m [] wI w [ksE v22 (E.take i), vsE v30 (E.take i), K.blk b7 #[v22, v30] 43, K.blk b4 #[.slice none 0 0, .slice none 0 0] 43, K.blk b3 (acC x (.slice da x.data.length dc)).toArray 57, K.blk b2 #[.slice ka E.length kc, .slice va E.length vc] 43] := st
 refine wl_nil ⟨rfl, ?_⟩
 refine fl_nil (by kernel_rfl) trivial ?_
 refine then_go ?_
 refine wc_seq ?_
 refine wc_seq ?_
 refine wc_region ?_
 refine wl_val (v_fa TF.f57_1 rfl) rfl ?_
 refine wl_val (v_load rfl (st.reads (v := .bool x.set) 4 rfl TF.t4 (Ac.g1_1 hok))) rfl ?_
 refine wl_nil ?_
 refine then_go ?_
 refine wc_mid (fun r w' => ∃ v1 v2, r 2 = .pointer (some ⟨b2, 0, none⟩) ∧ r 4 = .pointer (some ⟨b4, 0, none⟩) ∧ r 5 = .int .i64 i ∧ r 6 = .bool th ∧ r 7 = .pointer (some ⟨b7, 0, none⟩) ∧ v1.oneCell' = true ∧ v2.oneCell' = true ∧ St m m [] wI w' [ksE v1 L1, vsE v2 L1, K.blk b7 #[v1, v2] 43, K.blk b4 #[.slice none 0 0, .slice none 0 0] 43, K.blk b3 (acC x (.slice da x.data.length dc)).toArray 57, K.blk b2 #[.slice ka E.length kc, .slice va E.length vc] 43]) ?_ ?_
 ·refine wc_cond rfl (fun h33 => ?_) (fun h33 => ?_)
  ·refine wc_seq ?_
   refine wc_region ?_
   refine wl_val (v_fa TF.f43_0 rfl) rfl ?_
   refine wl_val (v_load rfl (st.reads (v := v22) 2 rfl TF.t40 rfl)) rfl ?_
   refine wl_val (v_fa TF.f57_0 rfl) rfl ?_
   refine wl_val (v_load rfl (st.reads (v := .string (strB x.key)) 4 rfl TF.t9 (Ac.g0_1 hok))) rfl ?_
   refine wl_rwOne (v := .string (strB x.key)) Tryz.underlying40 TF.t9 TF.z9 rfl rfl rfl st rfl ?_
   intro b38 w st
   refine wl_rwPut (fun x : By × DV => .string (strB x.1)) 0 (e := (x.key, x.data, .slice da x.data.length dc)) st rfl Tryz.underlying40 TF.t9 TF.z9 rfl rfl rfl rfl (by omega) (by omega) rfl ?_
   intro v39 w st o39
   refine wl_val (v_fa TF.f43_0 rfl) rfl ?_
   refine wl_store1 (v := v39) 2 st rfl TF.t40 rfl rfl o39 (lt_ok rfl) ?_
   intro w st
   refine wl_nil ?_
   refine then_go ?_
   refine wc_region ?_
   refine wl_val (v_fa TF.f43_1 rfl) rfl ?_
   refine wl_val (v_load rfl (st.reads (v := v30) 2 rfl TF.t41 rfl)) rfl ?_
   refine wl_val (v_fa TF.f57_2 rfl) rfl ?_
   refine wl_val (v_load rfl (st.reads (v := .slice da x.data.length dc) 4 rfl TF.t23 (Ac.g2_1 hok))) rfl ?_
   refine wl_rwOne (v := .slice da x.data.length dc) Tryz.underlying41 TF.t23 TF.z23 rfl rfl rfl st rfl ?_
   intro b45 w st
   refine wl_rwPut (fun x : By × DV => x.2.2) 1 (e := (x.key, x.data, .slice da x.data.length dc)) st rfl Tryz.underlying41 TF.t23 TF.z23 rfl rfl rfl rfl (by omega) (by omega) rfl ?_
   intro v46 w st o46
   refine wl_val (v_fa TF.f43_1 rfl) rfl ?_
   refine wl_store1 (v := v46) 2 st rfl TF.t41 rfl rfl o46 (lt_ok rfl) ?_
   intro w st
   refine wl_nil ?_
   refine then_go ?_
   exact ⟨v39, v46, rfl, rfl, rfl, rfl, rfl, o39, o46, by rw [hL1, if_pos h33]; exact st⟩
  ·refine wc_skip ?_
   refine then_go ?_
   exact ⟨v22, v30, rfl, rfl, rfl, rfl, rfl, o22, o30, by rw [hL1, if_neg (by rw [h33]; decide), List.append_nil]; exact st⟩
 ·clear st
  rintro r w ⟨v1, v2, g2, g4, g5, g6, g7, o1, o2, st⟩
  refine wc_o 2 g2 (wc_o 4 g4 (wc_o 5 g5 (wc_o 6 g6 (wc_o 7 g7 ?_))))
  refine wc_seq ?_
  refine wc_seq ?_
  refine wc_region ?_
  refine wl_val (v_move' (by conv => (lhs; whnf))) rfl ?_
  refine wl_nil ?_
  refine then_go ?_
  refine wc_mid (fun r w' => r 2 = .pointer (some ⟨b2, 0, none⟩) ∧ r 4 = .pointer (some ⟨b4, 0, none⟩) ∧ r 5 = .int .i64 j ∧ r 7 = .pointer (some ⟨b7, 0, none⟩) ∧ St m m [] wI w' [ksE v1 L1, vsE v2 L1, K.blk b7 #[v1, v2] 43, K.blk b4 #[.slice none 0 0, .slice none 0 0] 43, K.blk b3 (acC x (.slice da x.data.length dc)).toArray 57, K.blk b2 #[.slice ka E.length kc, .slice va E.length vc] 43]) ?_ ?_
  ·refine wc_cond rfl (fun h48 => ?_) (fun h48 => ?_)
   ·refine wc_region ?_
    refine wl_val (v_move' (by conv => (lhs; whnf))) rfl ?_
    refine wl_val (v_add' (c := ((i + 1 : Nat) : Int)) rfl rfl (by omega) (by omega) (by omega)) rfl ?_
    refine wl_val (v_assign' (by conv => (lhs; whnf))) rfl ?_
    refine wl_nil ?_
    refine then_go ?_
    exact ⟨rfl, rfl, by rw [hj, if_pos h48]; rfl, rfl, st⟩
   ·refine wc_skip ?_
    refine then_go ?_
    exact ⟨rfl, rfl, by rw [hj, if_neg (by rw [h48]; decide)]; rfl, rfl, st⟩
  ·clear st
   rintro r w ⟨g2, g4, g5, g7, st⟩
   refine wc_o 2 g2 (wc_o 4 g4 (wc_o 5 g5 (wc_o 7 g7 ?_)))
   refine wc_seq ?_
   refine wc_draw TF.mixed ?_
   have st := st.pure (touch_drew _)
   refine fl_val 0 rfl (fun _ => (v_fa TF.f43_0 rfl)) rfl (by kernel_rfl) ?_
   refine fl_ld 1 rfl (v_load rfl (st.reads (v := v1) 2 rfl TF.t40 rfl)) (by kernel_rfl) ?_
   refine fl_val 2 rfl (fun _ => (v_fa TF.f43_0 rfl)) rfl (by kernel_rfl) ?_
   refine fl_ld 3 rfl (v_load rfl (st.reads (v := .slice ka E.length kc) 5 rfl TF.t40 rfl)) (by kernel_rfl) ?_
   refine fl_val 4 rfl (fun _ => (v_move' (by conv => (lhs; whnf)))) rfl (by kernel_rfl) ?_
   refine fl_val 5 rfl (fun _ => (v_slice_s (l := j) (h := E.length) Tryz.underlying40 TF.t9 rfl ⟨_, _, rfl, rfl⟩ rfl (by omega) (by omega))) rfl (by kernel_rfl) ?_
   refine fl_eff1 6 [4, 2, 0] [3] (by kernel_rfl) ⟨obl_ld rfl rfl rfl (v_load rfl (st.reads (v := .slice ka E.length kc) 5 rfl TF.t40 rfl)), obl_ld rfl rfl rfl (v_load rfl (st.reads (v := v1) 2 rfl TF.t40 rfl)), trivial⟩ rfl ?_
   refine wl_rwApp _ 0 (B := E.drop j) st rfl Tryz.underlying40 TF.t9 TF.z9 rfl rfl rfl (sk2.src st.im one_str) (by omega) (by omega) rfl ?_
   intro v57 w st o57
   refine wl_nil ⟨rfl, ?_⟩
   refine fl_val 7 rfl (fun _ => (v_fa TF.f43_0 rfl)) rfl (by kernel_rfl) ?_
   refine fl_eff1 8 [] [] (by kernel_rfl) ⟨obl_ld rfl rfl rfl (v_load rfl (st.reads (v := .slice ka E.length kc) 5 rfl TF.t40 rfl)), trivial⟩ rfl ?_
   refine wl_store1 (v := v57) 2 st rfl TF.t40 rfl rfl o57 (lt_ok rfl) ?_
   intro w st
   refine wl_nil ⟨rfl, ?_⟩
   refine fl_nil (by kernel_rfl) trivial ?_
   refine then_go ?_
   refine wc_seq ?_
   refine wc_draw TF.mixed ?_
   have st := st.pure (touch_drew _)
   refine fl_val 0 rfl (fun _ => (v_fa TF.f43_1 rfl)) rfl (by kernel_rfl) ?_
   refine fl_ld 1 rfl (v_load rfl (st.reads (v := v2) 2 rfl TF.t41 rfl)) (by kernel_rfl) ?_
   refine fl_val 2 rfl (fun _ => (v_fa TF.f43_1 rfl)) rfl (by kernel_rfl) ?_
   refine fl_ld 3 rfl (v_load rfl (st.reads (v := .slice va E.length vc) 5 rfl TF.t41 rfl)) (by kernel_rfl) ?_
   refine fl_val 4 rfl (fun _ => (v_move' (by conv => (lhs; whnf)))) rfl (by kernel_rfl) ?_
   refine fl_val 5 rfl (fun _ => (v_slice_s (l := j) (h := E.length) Tryz.underlying41 TF.t23 rfl ⟨_, _, rfl, rfl⟩ rfl (by omega) (by omega))) rfl (by kernel_rfl) ?_
   refine fl_eff1 6 [4, 2, 0] [3] (by kernel_rfl) ⟨obl_ld rfl rfl rfl (v_load rfl (st.reads (v := .slice va E.length vc) 5 rfl TF.t41 rfl)), obl_ld rfl rfl rfl (v_load rfl (st.reads (v := v2) 2 rfl TF.t41 rfl)), trivial⟩ rfl ?_
   refine wl_rwApp _ 1 (B := E.drop j) st rfl Tryz.underlying41 TF.t23 TF.z23 rfl rfl rfl (sv2.src st.im (one_val (hE.2.2.drop j))) (by omega) (by omega) rfl ?_
   intro v65 w st o65
   refine wl_nil ⟨rfl, ?_⟩
   refine fl_val 7 rfl (fun _ => (v_fa TF.f43_1 rfl)) rfl (by kernel_rfl) ?_
   refine fl_eff1 8 [] [] (by kernel_rfl) ⟨obl_ld rfl rfl rfl (v_load rfl (st.reads (v := .slice va E.length vc) 5 rfl TF.t41 rfl)), trivial⟩ rfl ?_
   refine wl_store1 (v := v65) 2 st rfl TF.t41 rfl rfl o65 (lt_ok rfl) ?_
   intro w st
   refine wl_nil ⟨rfl, ?_⟩
   refine fl_nil (by kernel_rfl) trivial ?_
   refine then_go ?_
   refine wc_seq ?_
   refine wc_region ?_
   refine wl_val (v_load rfl (st.reads (v := .agg #[v57, v65]) 2 rfl TF.t43 (getV_all rfl))) rfl ?_
   refine wl_storeW (cs := #[v57, v65]) 3 st rfl TF.t43 rfl rfl rfl rfl (by intro u hu; simp at hu; rcases hu with rfl | rfl <;> assumption) ?_
   intro w st
   have st : St m m [] wI w [ksE v57 (L1 ++ E.drop j), vsE v65 (L1 ++ E.drop j), K.blk b7 #[v57, v65] 43, K.blk b4 #[v57, v65] 43, K.blk b3 (acC x (.slice da x.data.length dc)).toArray 57, K.blk b2 #[.slice ka E.length kc, .slice va E.length vc] 43] := st
   refine wl_nil ?_
   refine then_go ?_
   refine wc_ret ?_
   obtain ⟨m1, hg1, hm1, st1⟩ := st.freezeR (i := 0) rfl (by simp)
   have hk1 := row_SlM (m := m1) (st.at (i := 0) rfl) hm1
   obtain ⟨m2, hg2, hm2, st2⟩ := st1.freezeR (i := 0) rfl (by simp)
   have hv1 := row_SlM (m := m2) (st1.at (i := 0) rfl) hm2
   refine ret1c (p := ⟨b4, 0, none⟩) (v := .agg #[v57, v65]) rfl (st.reads (off := 0) 3 rfl TF.t43 (getV_all rfl)) ((st2.keepOnly (l := []) (List.nil_sublist _)).out ⟨v57, v65, rfl, ?_⟩)
   rw [hE']
   exact ⟨hk1.mono hg2.le, hv1, (kvok_app hL1ok (hE.2.2.drop j)).mono fun k o h => hg2.le k o (hg1.le k o h)⟩
end
end Go.Proofs.YtladpaehbolghaaGreat

namespace Go.Proofs.YtladpaehbolghaaGreat
open Go Go.RowKit K SH GC JR OS
open DK hiding By
section
variable {m0 m : Mem} {w0 w : World} {Es : List Ent}
theorem c_sget {sb mb g b s n : Nat} {sl : LG} {lv wv : Value} {S k : By} {N : List (By × Value)} {L : List (By × DV)} {M : Kys}
    (st : St m0 m [] w0 w (lgE g b s n sl lv wv S N (stE sb g mb L Es))) (hL : KvOk m L) (hM : Risen M) (hp : M.Perm (kvs L)) (hk : k.length ≤ 9223372036854775807) :
    Ret Tryz.prog 29 #[.pointer (some ⟨sb, 0, none⟩), .string (strB k)] w fun v w' => ∃ u, v = .tuple #[u, .bool (getKV k M).isSome] ∧ St m0 m [] w0 w' (byE u ((getKV k M).getD []) :: lgE g b s n sl lv wv S N (stE sb g mb L Es)) := by
  have hnd : ((kvs L).map (·.1)).Nodup := (hp.map (·.1)).nodup hM.nodup
  have hget : getKV k M = (getKV k L).map (·.1) := by
    rw [← kvs_get]
    refine Option.ext fun d => ?_
    rw [← mem_getKV hM.nodup, ← mem_getKV hnd]
    exact hp.mem_iff
  rw [hget]
  have hv : SlM m (((getKV k L).map (fun x : DV => x.2)).getD (.slice none 0 0)) 1 (((getKV k L).map (·.1)).getD []).length (bs (((getKV k L).map (·.1)).getD [])) ∧ (((getKV k L).map (·.1)).getD []).length ≤ 1048576 := by
    have hnL : (L.map (·.1)).Nodup := by have : (kvs L).map (·.1) = L.map (·.1) := by unfold kvs; rw [List.map_map]; rfl
                                         rw [← this]; exact hnd
    rcases h : getKV k L with _ | x
    · exact ⟨SlM.nil, by simp⟩
    · have := hL _ ((mem_getKV hnL).2 h)
      exact ⟨this.2.2, this.2.1⟩
  have hsome : (getKV k L).isSome = ((getKV k L).map (·.1)).isSome := by cases getKV k L <;> rfl
  refine ret_of Tryz.call29 Tryz.func29 rfl Tryz.ntmps29 Tryz.results29 rfl ?_
  refine wc_seq ?_
  refine wc_region ?_
  refine wl_val (v_assign' (by conv => (lhs; whnf))) rfl ?_
  refine wl_val (v_assign' (by conv => (lhs; whnf))) rfl ?_
  refine wl_nil ?_
  refine then_go ?_
  refine wc_seq ?_
  refine wc_region ?_
  refine wl_val (v_move' (by conv => (lhs; whnf))) rfl ?_
  refine wl_val (v_nil rfl) rfl ?_
  refine wl_val (v_fa TF.f95_1 rfl) rfl ?_
  refine wl_val (v_load rfl (st.reads (v := .map (some mb)) 3 rfl TF.t93 rfl)) rfl ?_
  refine wl_val (v_move' (by conv => (lhs; whnf))) rfl ?_
  refine wl_val (v_mapGetO 4 st rfl kt_str Tryz.underlying93 TF.z23 hL.keys hk rfl rfl true) rfl ?_
  refine wl_val (v_move' (by conv => (lhs; whnf))) rfl ?_
  refine wl_val (v_extract rfl rfl) rfl ?_
  refine wl_val (v_extract rfl rfl) rfl ?_
  refine wl_val (v_assign' (by conv => (lhs; whnf))) rfl ?_
  refine wl_val (v_assign' (by conv => (lhs; whnf))) rfl ?_
  refine wl_nil ?_
  refine then_go ?_
  refine wc_seq ?_
  refine wc_region ?_
  refine wl_val (v_move' (by conv => (lhs; whnf))) rfl ?_
  refine wl_call rfl (c_bcloneR st hv.1 (by have := hv.2; omega)) rfl ?_
  intro v18 w st
  refine wl_val (v_move' (by conv => (lhs; whnf))) rfl ?_
  refine wl_val (v_assign' (by conv => (lhs; whnf))) rfl ?_
  refine wl_val (v_assign' (by conv => (lhs; whnf))) rfl ?_
  refine wl_nil ?_
  refine then_go ?_
  refine wc_ret ?_
  exact ret2 (v := v18) (v' := .bool (getKV k L).isSome) rfl rfl ⟨v18, by rw [hsome], st⟩
theorem c_slen {sb mb g b s n : Nat} {sl : LG} {lv wv : Value} {S : By} {N : List (By × Value)} {L : List (By × DV)}
  (st : St m0 m [] w0 w (lgE g b s n sl lv wv S N (stE sb g mb L Es))) :
  Ret Tryz.prog 34 #[.pointer (some ⟨sb, 0, none⟩)] w fun v w' => Tch w w' [] [] ∧ v = .int .i64 L.length := by
 refine ret_of Tryz.call34 Tryz.func34 rfl Tryz.ntmps34 Tryz.results34 rfl ?_
 refine wc_seq ?_
 refine wc_region ?_
 refine wl_val (v_assign' (by conv => (lhs; whnf))) rfl ?_
 refine wl_nil ?_
 refine then_go ?_
 refine wc_seq ?_
 refine wc_region ?_
 refine wl_val (v_move' (by conv => (lhs; whnf))) rfl ?_
 refine wl_val (v_nil rfl) rfl ?_
 refine wl_val (v_fa TF.f95_1 rfl) rfl ?_
 refine wl_val (v_load rfl (st.reads (v := .map (some mb)) 3 rfl TF.t93 rfl)) rfl ?_
 refine wl_val (v_mapLen 4 st rfl Tryz.underlying93 rfl) rfl ?_
 refine wl_val (v_assign' (by conv => (lhs; whnf))) rfl ?_
 refine wl_nil ?_
 refine then_go ?_
 refine wc_ret ?_
 exact ret1 rfl ⟨Tch.refl _ _, rfl⟩
theorem c_sall {sb mb g b s n : Nat} {sl : LG} {lv wv : Value} {S : By} {N : List (By × Value)} {L : List (By × DV)} {M : Kys}
  (st : St m0 m [] w0 w (lgE g b s n sl lv wv S N (stE sb g mb L Es))) (hL : KvOk m L) (hM : Risen M) (hp : M.Perm (kvs L)) (hl : L.length ≤ 1000000) :
  Ret Tryz.prog 30 #[.pointer (some ⟨sb, 0, none⟩)] w fun v w' => ∃ b3 m' av A, v = .func (.func 64) #[] #[.pointer (some ⟨b3, 0, none⟩)] ∧ (∀ k o, m k = some o → m' k = some o) ∧ AcsM m' av A ∧ A.map (·.1) = actsOf M ∧ m' b3 = some (.cells #[av] 22 (0, 0)) ∧ St m0 m' [] w0 w' (lgE g b s n sl lv wv S N (stE sb g mb L Es)) := by
 refine ret_of Tryz.call30 Tryz.func30 rfl Tryz.ntmps30 Tryz.results30 rfl ?_
 refine wc_seq ?_
 refine wc_region ?_
 refine wl_val (v_assign' (by conv => (lhs; whnf))) rfl ?_
 refine wl_nil ?_
 refine then_go ?_
 refine wc_seq ?_
 refine wc_region ?_
 refine wl_val (v_move' (by conv => (lhs; whnf))) rfl ?_
 refine wl_val (v_nil rfl) rfl ?_
 refine wl_val (v_fa TF.f95_1 rfl) rfl ?_
 refine wl_val (v_load rfl (st.reads (v := .map (some mb)) 3 rfl TF.t93 rfl)) rfl ?_
 have st := st.perm (List.perm_middle (l₁ := [_, _, _, _]))
 refine wl_call rfl (c_swhole st hL hl) rfl ?_
 rintro v8 w ⟨A, hp1, hrs, st⟩
 have hAM : A.map (·.1) = actsOf M := whole_one hp1 hrs hM hp
 have hao : ∀ a ∈ A, AcOk m a.1 a.2 := fun a ha => by
  obtain ⟨z, hz, rfl⟩ := List.mem_map.1 (hp1.mem_iff.1 ha)
  obtain ⟨h1, h2, h3⟩ := hL z hz
  exact ⟨by show z.1.length ≤ _; omega, h3⟩
 obtain ⟨m1, hg1, hls, st⟩ := st.keepLs (i := 0) rfl (fun _ _ => rfl)
 have hA : AcsM m1 v8 A := ⟨hls, fun a ha => (hao a ha).mono hg1.le⟩
 obtain ⟨aa, ac, rfl⟩ := hA.1.sl
 refine wl_alloc TF.z22 st rfl ?_
 intro b3 w st
 refine wl_store1 (v := .slice aa A.length ac) 0 st rfl TF.t22 rfl rfl rfl (lt_ok rfl) ?_
 intro w st
 obtain ⟨m2, hg2, hm2, st⟩ := st.freeze (i := 0) rfl (by simp)
 have st : St m0 m2 [] w0 w (lgE g b s n sl lv wv S N (stE sb g mb L Es)) := st.perm (List.perm_middle (l₁ := [_, _, _, _])).symm
 refine wl_nil ?_
 refine then_go ?_
 refine wc_seq ?_
 refine wc_region ?_
 refine wl_val (v_mkfunc rfl rfl) rfl ?_
 refine wl_val (v_assign' (by conv => (lhs; whnf))) rfl ?_
 refine wl_nil ?_
 refine then_go ?_
 refine wc_ret ?_
 exact ret1 rfl ⟨b3, m2, _, A, rfl, fun k o h => hg2.le k o (hg1.le k o h), hA.mono hg2.le, hAM, hm2, st⟩
theorem c_sall1 {mA : Mem} {W : World} {l b1 : Nat} {av : Value} {A : List AcT} (J : Nat → World → Prop) (Jx : World → Prop) (him : ∀ i W, J i W → Im mA W)
  (hy : ∀ i W W2 u (hi : i < A.length), J i W → St (heapM W) (heapM W) [] W W2 [byE u A[i].1.data] → YieldR Tryz.prog l [.string (strB A[i].1.key), u] W2 fun v W' => (v = .bool true ∧ J (i + 1) W') ∨ (v = .bool false ∧ Jx W'))
  (hA : AcsM mA av A) (hAl : A.length ≤ 1000000) (hAd : ∀ a ∈ A, a.1.data.length ≤ 1048576) (hJ : J 0 W) (hrd : Reads Tryz.prog W 22 ⟨b1, 0, none⟩ av) :
  Ret Tryz.prog 64 #[.func (.yield l) #[] #[], .pointer (some ⟨b1, 0, none⟩)] W fun _ W' => J A.length W' ∨ Jx W' := by
 obtain ⟨la, lc, rfl⟩ := hA.1.sl
 refine ret_of Tryz.call64 Tryz.func64 rfl Tryz.ntmps64 Tryz.results64 rfl ?_
 refine wc_seq ?_
 refine wc_region ?_
 refine wl_val (v_load rfl hrd) rfl ?_
 refine wl_val (v_len_s Tryz.underlying22 rfl) rfl ?_
 refine wl_val (v_move' (by conv => (lhs; whnf))) rfl ?_
 refine wl_nil ?_
 refine then_go ?_
 refine wc_block ?_
 refine wc_loop (S := Nat) (fun q r w' => ∃ i, q + i = A.length ∧ r 0 = .func (.yield l) #[] #[] ∧ r 5 = .slice la A.length lc ∧ r 6 = .int .i64 A.length ∧ r 7 = .int .i64 i ∧ J i w') id A.length ⟨0, by omega, rfl, rfl, rfl, rfl, hJ⟩ ?_
 rintro q r w ⟨i, hqi, g0, g5, g6, g7, hJ⟩
 refine wc_o 0 g0 (wc_o 5 g5 (wc_o 6 g6 (wc_o 7 g7 ?_)))
 refine wc_seq ?_
 refine wc_region ?_
 refine wl_val (v_lss rfl rfl) rfl ?_
 refine wl_nil ?_
 refine then_go ?_
 refine wc_seq ?_
 refine wc_if rfl (fun h8 => ?_) (fun h8 => ?_)
 ·refine wc_skip ?_
  refine then_go ?_
  refine wc_seq ?_
  refine wc_block ?_
  refine wc_seq ?_
  have hi : i < A.length := by omega
  have st := St.start (im_heapM w)
  obtain ⟨lb, lo, da, dc, hla, hd, hrL, _⟩ := hA.at hi
  subst hla
  have hok : AcOk mA A[i].1 A[i].2 := hA.2 _ (List.getElem_mem hi)
  have hdl := hAd _ (List.getElem_mem hi)
  have hyy := fun W2 u => hy i w W2 u hi
  obtain ⟨x, hx⟩ : ∃ x, x = A[i].1 := ⟨_, rfl⟩
  rw [← hx] at hd hok hdl hyy
  rw [hd] at hok
  have hrX : ∀ {w' : World}, Im mA w' → Reads Tryz.prog w' 57 ⟨lb, lo + i * 3, none⟩ (.agg (acC x (.slice da x.data.length dc)).toArray) := by rw [← hd, hx]; exact hrL
  have hdm : SlM (heapM w) (.slice da x.data.length dc) 1 x.data.length (bs x.data) := hok.data.mono (him i w hJ)
  refine wc_region ?_
  refine wl_val (v_ias i Tryz.underlying22 TF.t57 rfl rfl (by first | rfl | omega) (by first | omega | (dsimp only at *; omega))) rfl ?_
  refine wl_val (v_load rfl (hrX (him i _ hJ))) rfl ?_
  refine wl_alloc TF.z57 st rfl ?_
  intro b4 w st
  refine wl_storeW (cs := (acC x (.slice da x.data.length dc)).toArray) 0 st rfl TF.t57 rfl rfl (by exact Ac.len hok) rfl (by exact Ac.one hok) ?_
  intro w3 st
  refine wl_nil ?_
  refine then_go ?_
  refine wc_seq ?_
  refine wc_drawI TF.mixed ?_
  have st := st.pure (touch_drew _)
  refine fli_val 0 rfl (fun _ => (v_move' (by conv => (lhs; whnf)))) rfl (by kernel_rfl) ?_
  refine fli_val 1 rfl (fun _ => (v_fa TF.f57_0 rfl)) rfl (by kernel_rfl) ?_
  refine fli_ld 2 rfl (v_load rfl (by first | exact st.reads (v := .string (strB x.key)) 0 rfl TF.t9 (Ac.g0_1 hok) | exact st.reads (v := .string (strB x.key)) 1 rfl TF.t9 (Ac.g0_1 hok))) (by kernel_rfl) ?_
  refine fli_val 3 rfl (fun _ => (v_fa TF.f57_2 rfl)) rfl (by kernel_rfl) ?_
  refine fli_ld 4 rfl (v_load rfl (st.reads (v := .slice da x.data.length dc) 0 rfl TF.t23 (Ac.g2_1 hok))) (by kernel_rfl) ?_
  refine fli_eff1 5 [3, 1, 0] [2] (by kernel_rfl) ⟨obl_ld rfl rfl rfl (v_load rfl (st.reads (v := .slice da x.data.length dc) 0 rfl TF.t23 (Ac.g2_1 hok))), obl_ld rfl rfl rfl (v_load rfl (by first | exact st.reads (v := .string (strB x.key)) 0 rfl TF.t9 (Ac.g0_1 hok) | exact st.reads (v := .string (strB x.key)) 1 rfl TF.t9 (Ac.g0_1 hok))), trivial⟩ rfl ?_
  refine wli_call rfl (c_bcloneR st hdm (by omega)) rfl ?_
  intro v16 w4 st
  refine wli_nil ⟨rfl, ?_⟩
  refine fli_eff1 6 [3, 1] [] (by kernel_rfl) ⟨obl_ld rfl rfl rfl (v_load rfl (by first | exact st.reads (v := .string (strB x.key)) 0 rfl TF.t9 (Ac.g0_1 hok) | exact st.reads (v := .string (strB x.key)) 1 rfl TF.t9 (Ac.g0_1 hok))), trivial⟩ rfl ?_
  refine wli_yield rfl rfl (hyy w4 v16 hJ (st.drop 1)) rfl ?_
  intro v17 w5 hR
  obtain ⟨bb, rfl, hR2⟩ : ∃ bb : Bool, v17 = .bool bb ∧ ((bb = true ∧ J (i + 1) w5) ∨ (bb = false ∧ Jx w5)) := by
   rcases hR with ⟨rfl, h⟩ | ⟨rfl, h⟩
   ·exact ⟨true, rfl, .inl ⟨rfl, h⟩⟩
   ·exact ⟨false, rfl, .inr ⟨rfl, h⟩⟩
  refine wli_nil ⟨rfl, ?_⟩
  refine fli_val 7 rfl (fun _ => (v_not rfl)) rfl (by kernel_rfl) ?_
  refine fli_nil (by kernel_rfl) trivial ?_
  refine then_go ?_
  refine wc_cond rfl (fun h18 => ?_) (fun h18 => ?_)
  ·refine wc_ret (block_ret (then_ret (then_ret (block_ret ?_))))
   refine ret0 ?_
   rcases hR2 with ⟨rfl, h⟩ | ⟨rfl, h⟩
   ·cases h18
   ·exact .inr h
  ·refine wc_skip ?_
   refine block_go (then_go ?_)
   refine wc_region ?_
   refine wl_val (v_add' (c := ((i + 1 : Nat) : Int)) rfl rfl (by omega) (by omega) (by omega)) rfl ?_
   refine wl_val (v_move' (by conv => (lhs; whnf))) rfl ?_
   refine wl_nil ?_
   refine then_go ?_
   rcases hR2 with ⟨rfl, h⟩ | ⟨rfl, h⟩
   ·exact ⟨q - 1, by simp; omega, i + 1, by omega, rfl, rfl, rfl, rfl, h⟩
   ·cases h18
 ·refine wc_exit (then_exit (then_exit (block_hit ?_)))
  refine end0 ?_
  have hiA : i = A.length := by omega
  subst hiA
  exact .inl hJ
end
end Go.Proofs.YtladpaehbolghaaGreat

namespace Go.Proofs.YtladpaehbolghaaGreat
open Go Go.RowKit K SH GC JR
end Go.Proofs.YtladpaehbolghaaGreat

namespace Go.Proofs.YtladpaehbolghaaGreat
open Go Go.RowKit K SH GC JR
end Go.Proofs.YtladpaehbolghaaGreat

namespace Go.Proofs.YtladpaehbolghaaGreat
open Go Go.RowKit K SH GC JR OS
def BatOut (m : Mem) (v : Value) : Option (List Ac) → Prop
 | none => v = .tuple #[.slice none 0 0, .int .i64 (3 : Nat)]
 | some M => ∃ lv L, v = .tuple #[lv, .int .i64 (0 : Nat)] ∧ AcsM m lv L ∧ L.map (·.1) = M
section
open OS
variable {m0 m : Mem} {w0 w : World} {Es : List Ent}
theorem c_readB {bv : Value} {b : List UInt8} (st : St m0 m [] w0 w Es) (hb : SlM m bv 1 b.length (bs b)) (hl : b.length ≤ 1099511627776) :
  Ret Tryz.prog 11 #[bv] w fun v w' => ∃ m', (∀ k o, m k = some o → m' k = some o) ∧ BatOut m' v (batR b) ∧ St m0 m' [] w0 w' Es := by
 refine ret_of Tryz.call11 Tryz.func11 rfl Tryz.ntmps11 Tryz.results11 rfl ?_
 refine wc_seq ?_
 refine wc_region ?_
 refine wl_val (v_assign' (by conv => (lhs; whnf))) rfl ?_
 refine wl_val (v_assign' (by conv => (lhs; whnf))) rfl ?_
 refine wl_nil ?_
 refine then_go ?_
 refine wc_seq ?_
 refine wc_region ?_
 refine wl_alloc TF.z22 st rfl ?_
 intro b4 w st
 refine wl_nil ?_
 refine then_go ?_
 refine wc_seq ?_
 refine wc_region ?_
 refine wl_val (v_move' (by conv => (lhs; whnf))) rfl ?_
 refine wl_val (v_mkfunc rfl rfl) rfl ?_
 have st : St m0 m [] w0 w (gaE b4 (.slice none 0 0) :: Es) := st
 refine wl_call rfl (c_cread (cap := [.pointer (some ⟨b4, 0, none⟩)]) st hb fun rb eb w1 st1 => c_readB1 st1 hb hl) rfl ?_
 intro v8 w h8
 refine wl_val (v_assign' (by conv => (lhs; whnf))) rfl ?_
 refine wl_nil ?_
 refine then_go ?_
 refine wc_seq ?_
 refine wc_seq ?_
 rcases h8 with ⟨m2, j, Es2, ⟨lv, L, n, r, hmm, rfl, hj, hLo, hc, ha, hok⟩, rfl, st⟩ | ⟨m2, Es2, ⟨hn, hmm, rfl⟩, rfl, st⟩
 ·have hbat : batR b = if j = b.length then some (L.map (·.1)) else none := by
   unfold batR
   rw [hc]
   simp only [ha]
   by_cases hjl : j = b.length
   ·rw [if_pos hjl, if_pos ⟨by rw [hjl]; simp, hok⟩]
   ·rw [if_neg hjl, if_neg (fun h => by have := congrArg List.length h.1; rw [List.length_drop, List.length_nil] at this; omega)]
  refine wc_region ?_
  refine wl_val (v_move' (by conv => (lhs; whnf))) rfl ?_
  refine wl_val (wl_valD (v_neq rfl rfl) (q := decide (¬ j = b.length)) (by by_cases h : j = b.length <;> simp [h])) rfl ?_
  refine wl_nil ?_
  refine then_go ?_
  refine wc_cond rfl (fun h10 => ?_) (fun h10 => ?_)
  ·refine wc_seq ?_
   refine wc_region ?_
   refine wl_val (v_move' (by conv => (lhs; whnf))) rfl ?_
   refine wl_val (v_assign' (by conv => (lhs; whnf))) rfl ?_
   refine wl_val (v_assign' (by conv => (lhs; whnf))) rfl ?_
   refine wl_nil ?_
   refine then_go ?_
   refine wc_ret (then_ret ?_)
   have hjl : ¬ j = b.length := of_decide_eq_true h10
   rw [hbat, if_neg hjl]
   rw [if_neg hjl]
   exact ret2 rfl rfl ⟨m2, hmm, rfl, (st.drop 0).drop 0⟩
  ·refine wc_skip ?_
   refine then_go ?_
   refine wc_seq ?_
   refine wc_region ?_
   refine wl_val (v_load rfl (st.reads (v := lv) 0 rfl TF.t22 rfl)) rfl ?_
   refine wl_val (v_assign' (by conv => (lhs; whnf))) rfl ?_
   refine wl_val (v_assign' (by conv => (lhs; whnf))) rfl ?_
   refine wl_nil ?_
   refine then_go ?_
   refine wc_ret ?_
   have hjl : j = b.length := Decidable.not_not.1 (of_decide_eq_false h10)
   rw [hbat, if_pos hjl]
   obtain ⟨m3, hg3, hls, st⟩ := st.keepLs (i := 1) rfl (fun x _ => rfl)
   exact ret2 rfl rfl ⟨m3, fun k o h => hg3.le k o (hmm k o h), ⟨lv, L, rfl, ⟨hls, fun p hp => (hLo p hp).mono hg3.le⟩, rfl⟩, st.drop 0⟩
 ·refine wc_region ?_
  refine wl_val (v_move' (by conv => (lhs; whnf))) rfl ?_
  refine wl_val (wl_valD (v_neq rfl rfl) (q := true) rfl) rfl ?_
  refine wl_nil ?_
  refine then_go ?_
  refine wc_true rfl ?_
  refine wc_seq ?_
  refine wc_region ?_
  refine wl_val (v_move' (by conv => (lhs; whnf))) rfl ?_
  refine wl_val (v_assign' (by conv => (lhs; whnf))) rfl ?_
  refine wl_val (v_assign' (by conv => (lhs; whnf))) rfl ?_
  refine wl_nil ?_
  refine then_go ?_
  refine wc_ret (then_ret ?_)
  rw [hn]
  exact ret2 rfl rfl ⟨m2, hmm, rfl, st⟩
end
end Go.Proofs.YtladpaehbolghaaGreat

namespace Go.Proofs.YtladpaehbolghaaGreat
open Go Go.RowKit K SH GC JR OS
open DK hiding By
namespace OS
def ofR : Kys → List By → Option Kys
 | M, [] => some M
 | M, x :: R => match batR x with
  | none => none
  | some A => ofR (doneS M A) R
end OS
section
variable {m0 m : Mem} {w0 w : World} {Es : List Ent}
abbrev lgD (g b s n : Nat) (sl : LG) (lv wv : Value) (d : DS) (N : List (By × Value)) (Es : List Ent) : List Ent := logB g b sl lv :: lrE lv N :: diskO b s n wv d :: Es
def SoOutD (m0 m : Mem) (w0 w' : World) (Es : List Ent) (b s n : Nat) (d' : DS) (sl' : LG) (R : List By) (v : Value) : Option Kys → Prop
 | none => v = .tuple #[.pointer none, .int .i64 3] ∧ ∃ m' wv', (∀ k o, m k = some o → m' k = some o) ∧ St m0 m' [] w0 w' (diskO b s n wv' d' :: Es)
 | some M => ∃ g sb mb m' wv' lv' N' L', v = .tuple #[.pointer (some ⟨sb, 0, none⟩), .int .i64 0] ∧ (∀ k o, m k = some o → m' k = some o) ∧ Pcs m' N' ∧ N'.map (·.1) = R ∧ Risen M ∧ KvOk m' L' ∧ M.Perm (kvs L') ∧ St m0 m' [] w0 w' (lgD g b s n sl' lv' wv' d' N' (stE sb g mb L' Es))
theorem c_sopenD {b s n : Nat} {wv : Value} {S : By} {d' : DS} {sl' : LG} {R : List By} (st : St m0 m [] w0 w (diskO b s n wv (calm S) :: Es)) (hl : S.length = 64 * n) (hn : 8 ≤ n) (hn2 : n ≤ 16384) (hO : openD n S = (d', sl', R, 0)) (hRl : ∀ x ∈ R, x.length ≤ 1048576) (hRn : R.length ≤ 1048576) :
  Ret Tryz.prog 27 #[.pointer (some ⟨b, 0, none⟩)] w fun v w' => SoOutD m0 m w0 w' Es b s n d' sl' R v (ofR [] R) := by
 refine ret_of Tryz.call27 Tryz.func27 rfl Tryz.ntmps27 Tryz.results27 rfl ?_
 refine wc_seq ?_
 refine wc_region ?_
 refine wl_val (v_assign' (by conv => (lhs; whnf))) rfl ?_
 refine wl_val (v_assign' (by conv => (lhs; whnf))) rfl ?_
 refine wl_nil ?_
 refine then_go ?_
 refine wc_seq ?_
 refine wc_region ?_
 refine wl_val (v_move' (by conv => (lhs; whnf))) rfl ?_
 refine wl_call rfl (c_open st hl hn hn2 (by rw [hO])) rfl ?_
 rintro v13 w ⟨m1, wv1, g, lv1, N1, hmm1, rfl, hP1, hN1, st⟩
 rw [hO] at st hN1 ⊢
 have hN1 : N1.map (·.1) = R := hN1
 have st : St m0 m1 [] w0 w (logB g b sl' lv1 :: lrE lv1 N1 :: diskO b s n wv1 d' :: Es) := st
 have hNl : ∀ x ∈ N1, x.1.length ≤ 1048576 := fun x hx => hRl x.1 (by rw [← hN1]; exact List.mem_map.2 ⟨x, hx, rfl⟩)
 have hNn : N1.length ≤ 1048576 := by
  have h3 : R.length = N1.length := by rw [← hN1, List.length_map]
  omega
 refine wl_val (v_move' (by conv => (lhs; whnf))) rfl ?_
 refine wl_val (v_extract rfl rfl) rfl ?_
 refine wl_val (v_extract rfl rfl) rfl ?_
 refine wl_val (v_assign' (by conv => (lhs; whnf))) rfl ?_
 refine wl_val (v_assign' (by conv => (lhs; whnf))) rfl ?_
 refine wl_nil ?_
 refine then_go ?_
 refine wc_seq ?_
 refine wc_seq ?_
 refine wc_region ?_
 refine wl_val (v_move' (by conv => (lhs; whnf))) rfl ?_
 refine wl_val (v_neq rfl rfl) rfl ?_
 refine wl_nil ?_
 refine then_go ?_
 refine wc_false rfl ?_
 refine wc_skip ?_
 refine then_go ?_
 refine wc_seq ?_
 refine wc_region ?_
 refine wl_val (v_move' (by conv => (lhs; whnf))) rfl ?_
 refine wl_makeMap strV (fun x : DV => x.2) st rfl ?_
 intro mb w _ st
 refine wl_val (v_build (c' := #[.pointer (some ⟨g, 0, none⟩), .map (some mb)]) [(0, .pointer (some ⟨g, 0, none⟩)), (1, .map (some mb))] TF.z95 TF.p95 rfl (fill_one [] [.pointer none] [.map none] rfl rfl rfl (fill_one [.pointer (some ⟨g, 0, none⟩)] [.map none] [] rfl rfl rfl rfl))) rfl ?_
 refine wl_box (v := .agg #[.pointer (some ⟨g, 0, none⟩), .map (some mb)]) rfl st rfl ?_
 intro sb w st
 have st : St m0 m1 [] w0 w (K.blk sb #[.pointer (some ⟨g, 0, none⟩), .map (some mb)] 95 :: kmE mb [] :: logB g b sl' lv1 :: lrE lv1 N1 :: diskO b s n wv1 d' :: Es) := st
 have st : St m0 m1 [] w0 w (lgD g b s n sl' lv1 wv1 d' N1 (stE sb g mb [] Es)) := st.perm ((List.perm_append_comm (l₁ := [_, _]) (l₂ := [_, _, _])).append_right Es)
 refine wl_val (v_assign' (by conv => (lhs; whnf))) rfl ?_
 refine wl_nil ?_
 refine then_go ?_
 refine wc_seq ?_
 refine wc_seq ?_
 refine wc_region ?_
 refine wl_val (v_move' (by conv => (lhs; whnf))) rfl ?_
 refine wl_call rfl (c_logAll st hP1 hNl hNn) rfl ?_
 rintro v24 w ⟨A, hA, st1⟩
 obtain ⟨m2, hg2, hm2, st2⟩ := st1.freezeR (i := 0) rfl (by simp)
 have hs2 : SlM m2 v24 1 A.length (A.map (·.2)) := row_SlM (m := m2) (st1.at (i := 0) rfl) hm2
 obtain ⟨m3, hmm23, hP3, st⟩ := rows_freeze (A := A) st2
 have st : St m0 m3 [] w0 w (lgD g b s n sl' lv1 wv1 d' N1 (stE sb g mb [] Es)) := st
 have hmm3 : ∀ k o, m1 k = some o → m3 k = some o := fun k o h => hmm23 k o (hg2.le k o h)
 have hPM : PcsM m3 v24 A := ⟨hs2.mono hmm23, hP3⟩
 have hAR : A.map (·.1) = R := hA.trans hN1
 have hAl : A.length = N1.length := by have := congrArg List.length hA; simpa using this
 obtain ⟨va, vc, rfl⟩ : ∃ a c, v24 = .slice a A.length c := by obtain ⟨⟨_, a, c, h, _⟩, _⟩ := hPM; exact ⟨a, c, h⟩
 refine wl_val (v_len_s Tryz.underlying41 rfl) rfl ?_
 refine wl_val (v_move' (by conv => (lhs; whnf))) rfl ?_
 refine wl_nil ?_
 refine then_go ?_
 refine wc_block ?_
 refine wc_loop (S := Nat) (fun q r w' => ∃ (i : Nat) (m' : Mem) (M : Kys) (L : List (By × DV)), q + i = A.length ∧ r 4 = .pointer (some ⟨g, 0, none⟩) ∧ r 6 = .pointer (some ⟨sb, 0, none⟩) ∧ r 24 = .slice va A.length vc ∧ r 25 = .int .i64 A.length ∧ r 26 = .int .i64 i ∧ (∀ k o, m3 k = some o → m' k = some o) ∧ ofR [] R = ofR M (R.drop i) ∧ Risen M ∧ KvOk m' L ∧ M.Perm (kvs L) ∧ St m0 m' [] w0 w' (lgD g b s n sl' lv1 wv1 d' N1 (stE sb g mb L Es))) id A.length ⟨0, m3, [], [], by omega, rfl, rfl, rfl, rfl, rfl, fun _ _ h => h, rfl, by simp [Risen], (by intro x hx; cases hx), List.Perm.refl _, st⟩ ?_
 clear st
 rintro q r w2 ⟨i, m', M, L, hqi, g4, g6, g24, g25, g26, hmm, hof, hM, hL, hp, st⟩
 refine wc_o 4 g4 (wc_o 6 g6 (wc_o 24 g24 (wc_o 25 g25 (wc_o 26 g26 ?_))))
 refine wc_seq ?_
 refine wc_region ?_
 refine wl_val (v_lss rfl rfl) rfl ?_
 refine wl_nil ?_
 refine then_go ?_
 refine wc_seq ?_
 refine wc_if rfl (fun h27 => ?_) (fun h27 => ?_)
 ·refine wc_skip ?_
  refine then_go ?_
  refine wc_seq ?_
  refine wc_block ?_
  refine wc_seq ?_
  have hi : i < A.length := by omega
  obtain ⟨nb, no, _, hnv, hsk, hrk⟩ := hPM.elem hi
  cases hnv
  have hsk := hsk.mono hmm
  have hdr : R.drop i = A[i].1 :: R.drop (i + 1) := by
   have hlt : i < R.length := by rw [← hAR, List.length_map]; exact hi
   rw [List.drop_eq_getElem_cons hlt]
   congr 1
   simp [← hAR]
  have hxl : A[i].1.length ≤ 1048576 := hRl A[i].1 (by rw [← hAR]; exact List.mem_map.2 ⟨_, List.getElem_mem hi, rfl⟩)
  refine wc_region ?_
  refine wl_val (v_ias i Tryz.underlying41 TF.t23 rfl rfl (by first | rfl | omega) (by first | omega | (dsimp only at *; omega))) rfl ?_
  refine wl_val (v_load rfl (hrk (fun k o h => st.im k o (hmm k o h)))) rfl ?_
  refine wl_val (v_assign' (by conv => (lhs; whnf))) rfl ?_
  refine wl_nil ?_
  refine then_go ?_
  refine wc_seq ?_
  refine wc_region ?_
  refine wl_val (v_move' (by conv => (lhs; whnf))) rfl ?_
  refine wl_call rfl (c_readB st hsk (by omega)) rfl ?_
  rintro v32 w ⟨m4, hmm4, hro, st⟩
  obtain ⟨lv, e, rfl, he⟩ : ∃ lv e, v32 = .tuple #[lv, .int .i64 (e : Nat)] ∧ ((batR A[i].1 = none ∧ e = 3) ∨ (∃ X, batR A[i].1 = some (X.map (·.1)) ∧ e = 0 ∧ AcsM m4 lv X)) := by
   rcases hbr : batR A[i].1 with _ | X
   ·rw [hbr] at hro
    exact ⟨_, 3, hro, .inl ⟨rfl, rfl⟩⟩
   ·rw [hbr] at hro
    obtain ⟨lv, X', h1, h2, h3⟩ := hro
    exact ⟨lv, 0, h1, .inr ⟨X', by rw [h3], rfl, h2⟩⟩
  refine wl_val (v_move' (by conv => (lhs; whnf))) rfl ?_
  refine wl_val (v_extract rfl rfl) rfl ?_
  refine wl_val (v_extract rfl rfl) rfl ?_
  refine wl_val (v_assign' (by conv => (lhs; whnf))) rfl ?_
  refine wl_val (v_assign' (by conv => (lhs; whnf))) rfl ?_
  refine wl_nil ?_
  refine then_go ?_
  refine wc_seq ?_
  refine wc_seq ?_
  rcases he with ⟨hbr, rfl⟩ | ⟨X, hbr, rfl, hX⟩
  ·refine wc_region ?_
   refine wl_val (v_move' (by conv => (lhs; whnf))) rfl ?_
   refine wl_val (v_neq rfl rfl) rfl ?_
   refine wl_nil ?_
   refine then_go ?_
   refine wc_true rfl ?_
   refine wc_seq ?_
   refine wc_region ?_
   refine wl_val (v_move' (by conv => (lhs; whnf))) rfl ?_
   refine wl_val (v_assign' (by conv => (lhs; whnf))) rfl ?_
   refine wl_val (v_assign' (by conv => (lhs; whnf))) rfl ?_
   refine wl_nil ?_
   refine then_go ?_
   refine wc_ret (then_ret (block_ret (then_ret (then_ret (block_ret (then_ret ?_))))))
   have hR0 : ofR [] R = none := by rw [hof, hdr, ofR, hbr]
   rw [hR0]
   exact ret2 rfl rfl ⟨rfl, m4, wv1, fun k o h => hmm4 k o (hmm k o (hmm3 k o (hmm1 k o h))), ((((st.drop 0).drop 0).drop 1).drop 1)⟩
  ·refine wc_region ?_
   refine wl_val (v_move' (by conv => (lhs; whnf))) rfl ?_
   refine wl_val (v_neq rfl rfl) rfl ?_
   refine wl_nil ?_
   refine then_go ?_
   refine wc_false rfl ?_
   refine wc_skip ?_
   refine then_go ?_
   refine wc_region ?_
   refine wl_val (v_move' (by conv => (lhs; whnf))) rfl ?_
   refine wl_val (v_nil rfl) rfl ?_
   refine wl_val (v_fa TF.f95_1 rfl) rfl ?_
   refine wl_val (v_load rfl (st.reads (v := .map (some mb)) 3 rfl TF.t93 rfl)) rfl ?_
   refine wl_val (v_move' (by conv => (lhs; whnf))) rfl ?_
   have hokX : okL (X.map (·.1)) := (batR_eq hbr).2
   have hXl : X.length ≤ 4096 := by have := hokX.1; simpa using this
   have hnd : ((kvs L).map (·.1)).Nodup := (hp.map (·.1)).nodup hM.nodup
   have st := st.perm (List.perm_middle (l₁ := [_, _, _, _]))
   refine wl_call rfl (c_done st hX (fun a ha => hokX.2.1 _ (List.mem_map.2 ⟨a, ha, rfl⟩)) (hL.mono hmm4) (by omega)) rfl ?_
   rintro v43 w ⟨m5, L5, hmm5, hL5, _, hK5, st⟩
   have st : St m0 m5 [] w0 w (lgD g b s n sl' lv1 wv1 d' N1 (stE sb g mb L5 Es)) := st.perm (List.perm_middle (l₁ := [_, _, _, _])).symm
   refine wl_nil ?_
   refine block_go (then_go ?_)
   refine wc_region ?_
   refine wl_val (v_add' (c := ((i + 1 : Nat) : Int)) rfl rfl (by omega) (by omega) (by omega)) rfl ?_
   refine wl_val (v_move' (by conv => (lhs; whnf))) rfl ?_
   refine wl_nil ?_
   refine then_go ?_
   refine ⟨q - 1, by simp; omega, i + 1, m5, doneS M (X.map (·.1)), L5, by omega, rfl, rfl, rfl, rfl, rfl, fun k o h => hmm5 k o (hmm4 k o (hmm k o h)), ?_, doneS_rise hM, hL5, ?_, st⟩
   ·rw [hof, hdr, ofR, hbr]
   ·rw [hK5]
    exact doneS_perm hp hnd
 ·refine wc_exit (then_exit (then_exit (block_hit ?_)))
  refine then_go ?_
  refine wc_seq ?_
  refine wc_region ?_
  refine wl_val (v_move' (by conv => (lhs; whnf))) rfl ?_
  refine wl_val (v_assign' (by conv => (lhs; whnf))) rfl ?_
  refine wl_val (v_assign' (by conv => (lhs; whnf))) rfl ?_
  refine wl_nil ?_
  refine then_go ?_
  refine wc_ret ?_
  have hiA : i = A.length := by omega
  subst hiA
  have hR0 : ofR [] R = some M := by rw [hof, List.drop_eq_nil_of_le (by rw [← hAR, List.length_map]; exact Nat.le_refl _)]; rfl
  rw [hR0]
  have hmm4 : ∀ k o, m1 k = some o → m' k = some o := fun k o h => hmm k o (hmm3 k o h)
  exact ret2 rfl rfl ⟨g, sb, mb, m', wv1, lv1, N1, L, rfl, fun k o h => hmm4 k o (hmm1 k o h), hP1.mono hmm4, hN1, hM, hL, hp, st⟩
abbrev SoOut (m0 m : Mem) (w0 w' : World) (Es : List Ent) (b s n : Nat) (S' : By) (sl' : LG) (R : List By) (v : Value) (o : Option Kys) : Prop := SoOutD m0 m w0 w' Es b s n (calm S') sl' R v o
theorem c_sopen {b s n : Nat} {wv : Value} {S S' : By} {sl' : LG} {R : List By} (st : St m0 m [] w0 w (diskO b s n wv (calm S) :: Es)) (hl : S.length = 64 * n) (hn : 8 ≤ n) (hn2 : n ≤ 16384) (hO : openD n S = (calm S', sl', R, 0)) (ok : LogOk n S' sl' R) :
  Ret Tryz.prog 27 #[.pointer (some ⟨b, 0, none⟩)] w fun v w' => SoOut m0 m w0 w' Es b s n S' sl' R v (ofR [] R) :=
 c_sopenD st hl hn hn2 hO (fun x hx => (ok.okr x hx).2) (by
  have h1 := sizeL_ge (l := R)
  have h2 := ok.fit
  omega)
end
end Go.Proofs.YtladpaehbolghaaGreat

namespace Go.Proofs.YtladpaehbolghaaGreat
open Go Go.RowKit K SH GC JR OS
open DK hiding By
section
variable {m : Mem} {wI : World}
theorem c_rdone {kv vv lv : Value} {E : List (By × DV)} {A : List AcT} (him : Im m wI) (hE : KyM m kv vv E) (hr : Risen (kvs E)) (hA : AcsM m lv A) (hAo : ∀ a ∈ A, actOk a.1) (hl : E.length + A.length ≤ 1000000) :
  Ret Tryz.prog 47 #[.agg #[kv, vv], lv] wI fun v w' => Out m wI w' fun m' => ∃ kv' vv' E', v = .agg #[kv', vv'] ∧ KyM m' kv' vv' E' ∧ kvs E' = doneS (kvs E) (A.map (·.1)) ∧ E'.length ≤ E.length + A.length := by
 have st := St.start him
 have o1 := SlM.one1 hE.1
 have o2 := SlM.one1 hE.2.1
 have hc : (Value.agg #[kv, vv]).cells = #[kv, vv] := rfl
 obtain ⟨la, lc, rfl⟩ := hA.1.sl
 refine ret_of Tryz.call47 Tryz.func47 rfl Tryz.ntmps47 Tryz.results47 rfl ?_
 refine wc_seq ?_
 refine wc_region ?_
 refine wl_box (v := .agg #[kv, vv]) rfl st rfl ?_
 intro b2 w st
 refine wl_alloc TF.z43 st rfl ?_
 intro b4 w st
 refine wl_nil ?_
 refine then_go ?_
 refine wc_seq ?_
 refine wc_seq ?_
 refine wc_region ?_
 refine wl_val (v_assign' (by conv => (lhs; whnf))) rfl ?_
 refine wl_nil ?_
 refine then_go ?_
 refine wc_block ?_
 refine wc_loop (S := Nat) (fun q r w' => ∃ (i : Nat) (m' : Mem) (kv' vv' : Value) (E' : List (By × DV)), q + i = A.length ∧ r 1 = .slice la A.length lc ∧ r 2 = .pointer (some ⟨b2, 0, none⟩) ∧ r 4 = .pointer (some ⟨b4, 0, none⟩) ∧ r 5 = .int .i64 i ∧ (∀ k o, m k = some o → m' k = some o) ∧ KyM m' kv' vv' E' ∧ kvs E' = doneS (kvs E) ((A.take i).map (·.1)) ∧ E'.length ≤ E.length + i ∧ St m m' [] wI w' [K.blk b4 #[.slice none 0 0, .slice none 0 0] 43, K.blk b2 #[kv', vv'] 43]) id A.length ⟨0, m, kv, vv, E, by omega, rfl, rfl, rfl, rfl, fun _ _ h => h, hE, rfl, by omega, st⟩ ?_
 clear st
 rintro q r w2 ⟨i, m', kv', vv', E', hqi, g1, g2, g4, g5, hmm, hE', hK, hEl, st⟩
 refine wc_o 1 g1 (wc_o 2 g2 (wc_o 4 g4 (wc_o 5 g5 ?_)))
 have hA := hA.mono hmm
 refine wc_seq ?_
 refine wc_seq ?_
 refine wc_region ?_
 refine wl_val (v_move' (by conv => (lhs; whnf))) rfl ?_
 refine wl_val (v_move' (by conv => (lhs; whnf))) rfl ?_
 refine wl_val (v_len_s Tryz.underlying22 rfl) rfl ?_
 refine wl_val (v_lss rfl rfl) rfl ?_
 refine wl_nil ?_
 refine then_go ?_
 refine wc_if rfl (fun h9 => ?_) (fun h9 => ?_)
 ·refine wc_skip ?_
  refine then_go ?_
  refine wc_seq ?_
  refine wc_block ?_
  have hi : i < A.length := by omega
  obtain ⟨lb, lo, da, dc, hla, hd, hrL, _⟩ := hA.at hi
  subst hla
  have hok : AcOk m' A[i].1 A[i].2 := hA.2 _ (List.getElem_mem hi)
  have hao := hAo _ (List.getElem_mem hi)
  have htk : doneS (kvs E) ((A.take (i + 1)).map (·.1)) = oneS (doneS (kvs E) ((A.take i).map (·.1))) A[i].1 := by
   unfold doneS
   rw [List.take_succ_eq_append_getElem hi, List.map_append, List.foldl_append]
   rfl
  have hri : Risen (kvs E') := by rw [hK]; exact doneS_rise hr
  refine wc_draw TF.mixed ?_
  have st := st.pure (touch_drew _)
  refine fl_ld 0 rfl (v_load rfl (st.reads (v := .agg #[kv', vv']) 1 rfl TF.t43 (getV_all rfl))) (by kernel_rfl) ?_
  refine fl_val 1 rfl (fun _ => (v_move' (by conv => (lhs; whnf)))) rfl (by kernel_rfl) ?_
  refine fl_val 2 rfl (fun _ => (v_move' (by conv => (lhs; whnf)))) rfl (by kernel_rfl) ?_
  refine fl_val 3 rfl (fun _ => (v_ias i Tryz.underlying22 TF.t57 rfl rfl (by first | rfl | omega) (by first | omega | (dsimp only at *; omega)))) rfl (by kernel_rfl) ?_
  refine fl_ld 4 rfl (v_load rfl (hrL st.im)) (by kernel_rfl) ?_
  refine fl_eff1 5 [3, 2, 1] [] (by kernel_rfl) ⟨obl_ld rfl rfl rfl (v_load rfl (hrL st.im)), obl_ld rfl rfl rfl (v_load rfl (st.reads (v := .agg #[kv', vv']) 1 rfl TF.t43 (getV_all rfl))), trivial⟩ rfl ?_
  refine wl_call rfl (c_rone st.im hE' (by omega) hok hao.2.1 hao.2.2.2) rfl ?_
  rintro v17 w ⟨t17, m1, hg1, hi1, kv2, vv2, rfl, hE2⟩
  have st := st.grown hg1 t17 hi1
  have p1 := SlM.one1 hE2.1
  have p2 := SlM.one1 hE2.2.1
  refine wl_nil ⟨rfl, ?_⟩
  refine fl_eff1 6 [] [] (by kernel_rfl) trivial rfl ?_
  refine wl_storeW (cs := #[kv2, vv2]) 1 st rfl TF.t43 rfl rfl rfl rfl (by intro u hu; simp at hu; rcases hu with rfl | rfl <;> assumption) ?_
  intro w st
  refine wl_nil ⟨rfl, ?_⟩
  refine fl_nil (by kernel_rfl) trivial ?_
  refine block_go (then_go ?_)
  refine wc_region ?_
  refine wl_val (v_move' (by conv => (lhs; whnf))) rfl ?_
  refine wl_val (v_add' (c := ((i + 1 : Nat) : Int)) rfl rfl (by omega) (by omega) (by omega)) rfl ?_
  refine wl_val (v_assign' (by conv => (lhs; whnf))) rfl ?_
  refine wl_nil ?_
  refine then_go ?_
  refine ⟨q - 1, by simp; omega, i + 1, m1, kv2, vv2, _, by omega, rfl, rfl, rfl, rfl, fun k o h => hg1.le k o (hmm k o h), hE2, ?_, ?_, st⟩
  ·rw [kvs_one hri, hK, ← htk]
  ·have h1 := (bulkOne (M := kvs E') (a := A[i].1)).2
   rw [← kvs_one (dv := A[i].2) hri, length_kvs, length_kvs] at h1
   omega
 ·refine wc_exit (then_exit (then_exit (block_hit ?_)))
  refine then_go ?_
  refine wc_seq ?_
  refine wc_region ?_
  refine wl_val (v_load rfl (st.reads (v := .agg #[kv', vv']) 1 rfl TF.t43 (getV_all rfl))) rfl ?_
  have p1 := SlM.one1 hE'.1
  have p2 := SlM.one1 hE'.2.1
  refine wl_storeW (cs := #[kv', vv']) 0 st rfl TF.t43 rfl rfl rfl rfl (by intro u hu; simp at hu; rcases hu with rfl | rfl <;> assumption) ?_
  intro w st
  refine wl_nil ?_
  refine then_go ?_
  refine wc_ret ?_
  have hiA : i = A.length := by omega
  subst hiA
  rw [List.take_length] at hK
  exact ret1c (p := ⟨b4, 0, none⟩) (v := .agg #[kv', vv']) rfl (st.reads (off := 0) 0 rfl TF.t43 (getV_all rfl)) ((st.keepOnly (l := []) (List.nil_sublist _)).out ⟨kv', vv', E', rfl, hE', hK, hEl⟩)
theorem c_rwhole {kv vv : Value} {E : List (By × DV)} (him : Im m wI) (hE : KyM m kv vv E) (hl : E.length ≤ 1000000) :
  Ret Tryz.prog 49 #[.agg #[kv, vv]] wI fun v w' => Out m wI w' fun m' => ∃ A, AcsM m' v A ∧ A.map (·.1) = actsOf (kvs E) := by
 have st := St.start him
 obtain ⟨ka, kc, va, vc, rfl, rfl, hkc, hvc⟩ := hE.sl
 refine ret_of Tryz.call49 Tryz.func49 rfl Tryz.ntmps49 Tryz.results49 rfl ?_
 refine wc_seq ?_
 refine wc_region ?_
 refine wl_box (v := .agg #[.slice ka E.length kc, .slice va E.length vc]) rfl st rfl ?_
 intro b1 w st
 refine wl_val (v_assign' (by conv => (lhs; whnf))) rfl ?_
 refine wl_nil ?_
 refine then_go ?_
 refine wc_seq ?_
 refine wc_region ?_
 refine wl_val (v_assign' (by conv => (lhs; whnf))) rfl ?_
 refine wl_nil ?_
 refine then_go ?_
 refine wc_seq ?_
 refine wc_seq ?_
 refine wc_region ?_
 refine wl_val (v_assign' (by conv => (lhs; whnf))) rfl ?_
 refine wl_nil ?_
 refine then_go ?_
 refine wc_block ?_
 have st : St m m [] wI w [acE (.slice none 0 0) [], K.blk b1 #[.slice ka E.length kc, .slice va E.length vc] 43] := nilRow st 57 3
 refine wc_loop (S := Nat) (fun q r w' => ∃ (i : Nat) (v : Value), q + i = E.length ∧ r 1 = .pointer (some ⟨b1, 0, none⟩) ∧ r 3 = v ∧ r 4 = .int .i64 i ∧ St m m [] wI w' [acE v ((E.take i).map toAct), K.blk b1 #[.slice ka E.length kc, .slice va E.length vc] 43]) id E.length ⟨0, _, by omega, rfl, rfl, rfl, st⟩ ?_
 clear st
 rintro q r w2 ⟨i, v, hqi, g1, g3, g4, st⟩
 refine wc_o 1 g1 (wc_o 3 g3 (wc_o 4 g4 ?_))
 refine wc_seq ?_
 refine wc_seq ?_
 refine wc_region ?_
 refine wl_val (v_move' (by conv => (lhs; whnf))) rfl ?_
 refine wl_val (v_fa TF.f43_0 rfl) rfl ?_
 refine wl_val (v_load rfl (st.reads (v := .slice ka E.length kc) 1 rfl TF.t40 rfl)) rfl ?_
 refine wl_val (v_len_s Tryz.underlying40 rfl) rfl ?_
 refine wl_val (v_lss rfl rfl) rfl ?_
 refine wl_nil ?_
 refine then_go ?_
 refine wc_if rfl (fun h9 => ?_) (fun h9 => ?_)
 ·refine wc_skip ?_
  refine then_go ?_
  refine wc_seq ?_
  refine wc_block ?_
  have hi : i < E.length := by omega
  obtain ⟨lb, lo, _, hla, hrk⟩ := hE.str hi
  cases hla
  obtain ⟨ub, uo, _, hua, hrv⟩ := hE.val hi
  cases hua
  obtain ⟨hk64, hd20, hsl⟩ := hE.2.2 _ (List.getElem_mem hi)
  have hone := cells_one (SlM.one1 hsl)
  have hao : AcOk m (toAct E[i]).1 (toAct E[i]).2 := ⟨by show E[i].1.length ≤ _; omega, hsl⟩
  have htk : (E.take (i + 1)).map toAct = (E.take i).map toAct ++ [toAct E[i]] := by rw [List.take_succ_eq_append_getElem hi, List.map_append]; rfl
  have hln : ((E.take i).map toAct).length = i := by rw [List.length_map, List.length_take]; omega
  refine wc_draw TF.mixed ?_
  have st := st.pure (touch_drew _)
  refine fl_val 0 rfl (fun _ => (v_move' (by conv => (lhs; whnf)))) rfl (by kernel_rfl) ?_
  refine fl_val 1 rfl (fun _ => (v_fa TF.f43_0 rfl)) rfl (by kernel_rfl) ?_
  refine fl_ld 2 rfl (v_load rfl (by first | exact st.reads (v := .slice (some ⟨lb, lo, none⟩) E.length kc) 1 rfl TF.t40 rfl | exact st.reads (v := .slice (some ⟨lb, lo, none⟩) E.length kc) 2 rfl TF.t40 rfl)) (by kernel_rfl) ?_
  refine fl_val 3 rfl (fun _ => (v_move' (by conv => (lhs; whnf)))) rfl (by kernel_rfl) ?_
  refine fl_val 4 rfl (fun _ => (v_ias i Tryz.underlying40 TF.t9 rfl rfl (by first | rfl | omega) (by first | omega | (dsimp only at *; omega)))) rfl (by kernel_rfl) ?_
  refine fl_ld 5 rfl (v_load rfl (hrk st.im)) (by kernel_rfl) ?_
  refine fl_val 6 rfl (fun _ => (v_fa TF.f43_1 rfl)) rfl (by kernel_rfl) ?_
  refine fl_ld 7 rfl (v_load rfl (by first | exact st.reads (v := .slice (some ⟨ub, uo, none⟩) E.length vc) 1 rfl TF.t41 rfl | exact st.reads (v := .slice (some ⟨ub, uo, none⟩) E.length vc) 2 rfl TF.t41 rfl)) (by kernel_rfl) ?_
  refine fl_val 8 rfl (fun _ => (v_move' (by conv => (lhs; whnf)))) rfl (by kernel_rfl) ?_
  refine fl_val 9 rfl (fun _ => (v_ias i Tryz.underlying41 TF.t23 rfl rfl (by first | rfl | omega) (by first | omega | (dsimp only at *; omega)))) rfl (by kernel_rfl) ?_
  refine fl_ld 10 rfl (v_load rfl (hrv st.im)) (by kernel_rfl) ?_
  refine fl_val 11 rfl (fun _ => (v_build (c' := (acC ⟨E[i].1, true, E[i].2.1⟩ E[i].2.2).toArray) [(0, .string (strB E[i].1)), (1, .bool true), (2, E[i].2.2)] TF.z57 TF.p57 rfl (fill_one [] [.string ⟨#[]⟩] [.bool false, .slice none 0 0] rfl rfl rfl (fill_one [.string (strB E[i].1)] [.bool false] [.slice none 0 0] rfl rfl rfl (fill_one [.string (strB E[i].1), .bool true] [.slice none 0 0] [] rfl rfl (by rw [hone]; rfl) (by rw [hone]; rfl)))))) rfl (by kernel_rfl) ?_
  refine fl_eff1 12 [9, 8, 6, 4, 3, 1, 0] [10, 7, 5, 2] (by kernel_rfl) ⟨obl_ld rfl rfl rfl (v_load rfl (hrv st.im)), obl_ld rfl rfl rfl (v_load rfl (by first | exact st.reads (v := .slice (some ⟨ub, uo, none⟩) E.length vc) 1 rfl TF.t41 rfl | exact st.reads (v := .slice (some ⟨ub, uo, none⟩) E.length vc) 2 rfl TF.t41 rfl)), obl_ld rfl rfl rfl (v_load rfl (hrk st.im)), obl_ld rfl rfl rfl (v_load rfl (by first | exact st.reads (v := .slice (some ⟨lb, lo, none⟩) E.length kc) 1 rfl TF.t40 rfl | exact st.reads (v := .slice (some ⟨lb, lo, none⟩) E.length kc) 2 rfl TF.t40 rfl)), trivial⟩ rfl ?_
  refine wl_lsOne (acC ⟨E[i].1, true, E[i].2.1⟩ E[i].2.2) Tryz.underlying22 TF.t57 TF.z57 (by decide) (by decide) (Ac.len hao) rfl st rfl ?_
  intro b24 w st
  refine wl_nil ⟨rfl, ?_⟩
  refine fl_eff1 13 [9, 8, 6, 4, 3, 1] [10, 7, 5, 2] (by kernel_rfl) ⟨obl_ld rfl rfl rfl (v_load rfl (hrv st.im)), obl_ld rfl rfl rfl (v_load rfl (by first | exact st.reads (v := .slice (some ⟨ub, uo, none⟩) E.length vc) 1 rfl TF.t41 rfl | exact st.reads (v := .slice (some ⟨ub, uo, none⟩) E.length vc) 2 rfl TF.t41 rfl)), obl_ld rfl rfl rfl (v_load rfl (hrk st.im)), obl_ld rfl rfl rfl (v_load rfl (by first | exact st.reads (v := .slice (some ⟨lb, lo, none⟩) E.length kc) 1 rfl TF.t40 rfl | exact st.reads (v := .slice (some ⟨lb, lo, none⟩) E.length kc) 2 rfl TF.t40 rfl)), trivial⟩ rfl ?_
  refine wl_lsApp (c := acP) (e := toAct E[i]) 0 st rfl Tryz.underlying22 TF.t57 TF.z57 rfl rfl (Ac.one hao) rfl rfl (by omega) (by omega) rfl ?_
  intro v25 w st hv25
  refine wl_nil ⟨rfl, ?_⟩
  refine fl_eff1 14 [] [] (by kernel_rfl) ⟨obl_ld rfl rfl rfl (v_load rfl (hrv st.im)), obl_ld rfl rfl rfl (v_load rfl (by first | exact st.reads (v := .slice (some ⟨ub, uo, none⟩) E.length vc) 1 rfl TF.t41 rfl | exact st.reads (v := .slice (some ⟨ub, uo, none⟩) E.length vc) 2 rfl TF.t41 rfl)), obl_ld rfl rfl rfl (v_load rfl (hrk st.im)), obl_ld rfl rfl rfl (v_load rfl (by first | exact st.reads (v := .slice (some ⟨lb, lo, none⟩) E.length kc) 1 rfl TF.t40 rfl | exact st.reads (v := .slice (some ⟨lb, lo, none⟩) E.length kc) 2 rfl TF.t40 rfl)), trivial⟩ rfl ?_
  refine wl_val (v_assign' (by conv => (lhs; whnf))) rfl ?_
  refine wl_nil ⟨rfl, ?_⟩
  refine fl_nil (by kernel_rfl) trivial ?_
  refine block_go (then_go ?_)
  refine wc_region ?_
  refine wl_val (v_move' (by conv => (lhs; whnf))) rfl ?_
  refine wl_val (v_add' (c := ((i + 1 : Nat) : Int)) rfl rfl (by omega) (by omega) (by omega)) rfl ?_
  refine wl_val (v_assign' (by conv => (lhs; whnf))) rfl ?_
  refine wl_nil ?_
  refine then_go ?_
  refine ⟨q - 1, by simp; omega, i + 1, v25, by omega, rfl, rfl, rfl, ?_⟩
  rw [htk]
  exact st
 ·refine wc_exit (then_exit (then_exit (block_hit ?_)))
  refine then_go ?_
  refine wc_seq ?_
  refine wc_region ?_
  refine wl_val (v_move' (by conv => (lhs; whnf))) rfl ?_
  refine wl_val (v_assign' (by conv => (lhs; whnf))) rfl ?_
  refine wl_nil ?_
  refine then_go ?_
  refine wc_ret ?_
  have hiE : i = E.length := by omega
  subst hiE
  rw [List.take_length] at st
  obtain ⟨m1, hg1, hls, st⟩ := st.keepLs (i := 0) rfl (fun _ _ => rfl)
  have hA : AcsM m1 v (E.map toAct) := ⟨hls, fun a ha => by
   obtain ⟨z, hz, rfl⟩ := List.mem_map.1 ha
   obtain ⟨h1, h2, h3⟩ := hE.2.2 z hz
   exact ⟨by show z.1.length ≤ _; omega, h3.mono hg1.le⟩⟩
  exact ret1 rfl ((st.keepOnly (l := []) (List.nil_sublist _)).out ⟨_, hA, by unfold actsOf kvs; rw [List.map_map, List.map_map]; rfl⟩)
end
end Go.Proofs.YtladpaehbolghaaGreat

namespace Go.Proofs.YtladpaehbolghaaGreat
open Go Go.RowKit K SH GC JR OS
open DK hiding By
end Go.Proofs.YtladpaehbolghaaGreat

namespace Go.Proofs.YtladpaehbolghaaGreat
open Go Go.RowKit K SH GC JR OS
section
open OS
variable {m : Mem} {wI : World}
theorem c_rtxt {tv : Value} {t : List UInt8} (him : Im m wI) (ht : SlM m tv 1 t.length (bs t)) (hl : t.length ≤ 1000000000) :
  Ret Tryz.prog 46 #[tv] wI fun v w' => Out m wI w' fun m' => SlM m' v 1 (txtB t).length (bs (txtB t)) := by
 have st := St.start him
 obtain ⟨ta, tc, rfl, _⟩ := ht.opn
 refine ret_of Tryz.call46 Tryz.func46 rfl Tryz.ntmps46 Tryz.results46 rfl ?_
 refine wc_seq ?_
 refine wc_region ?_
 refine wl_val (v_assign' (by conv => (lhs; whnf))) rfl ?_
 refine wl_nil ?_
 refine then_go ?_
 refine wc_seq ?_
 refine wc_region ?_
 refine wl_val (v_move' (by conv => (lhs; whnf))) rfl ?_
 refine wl_val (v_len_s Tryz.underlying23 rfl) rfl ?_
 refine wl_val (v_convi_64 Tryz.underlying3 Tryz.underlying47 rfl) rfl ?_
 refine wl_call rfl (c_rnum (n := UInt64.ofNat t.length) st) rfl ?_
 intro v6 w st
 rw [UInt64.toNat_ofNat', Nat.mod_eq_of_lt (by omega)] at st
 have st0 := st
 obtain ⟨m1, hg1, hm1, st⟩ := st.freezeR (i := 0) rfl (by simp)
 have st : St m m1 [] wI w [] := st
 have hn := row_SlM (m := m1) (st0.at (i := 0) rfl) hm1
 refine wl_val (v_move' (by conv => (lhs; whnf))) rfl ?_
 refine wl_pcs2 st rfl rfl hn (ht.mono hg1.le) rfl ?_
 intro m2 v8 w hg2 st hp
 have hp : PcsM m2 v8 [(numB t.length, v6), (t, .slice ta t.length tc)] := hp
 have hjb : joinB [(numB t.length, v6), (t, .slice ta t.length tc)] = txtB t := by simp [joinB, txtB]
 have htl := txtB_len (t := t) (by omega)
 refine wl_call rfl (c_join st.im hp (by rw [hjb]; omega) (by simp)) rfl ?_
 rintro v9 w ⟨t9, m3, hg3, hi3, h9⟩
 rw [hjb] at h9
 have st := st.grown hg3 t9 hi3
 refine wl_val (v_assign' (by conv => (lhs; whnf))) rfl ?_
 refine wl_nil ?_
 refine then_go ?_
 refine wc_ret ?_
 exact ret1 rfl (st.out h9)
theorem c_rbatch {v : Value} {L : List AcT} (him : Im m wI) (hL : AcsM m v L) (hLl : L.length ≤ 1000000000) (hb : bulkA (L.map (·.1)) ≤ 1000000000) :
  Ret Tryz.prog 17 #[v] wI fun v' w' => Out m wI w' fun m' => SlM m' v' 1 (batB (L.map (·.1))).length (bs (batB (L.map (·.1)))) := by
 have st := St.start him
 obtain ⟨la, lc, rfl⟩ := hL.1.sl
 obtain ⟨M, hM⟩ : ∃ M, M = L.map (·.1) := ⟨_, rfl⟩
 have hMl : M.length = L.length := by rw [hM, List.length_map]
 rw [← hM] at hb ⊢
 have h10 := numB_len10 (n := L.length) (by omega)
 refine ret_of Tryz.call17 Tryz.func17 rfl Tryz.ntmps17 Tryz.results17 rfl ?_
 refine wc_seq ?_
 refine wc_region ?_
 refine wl_val (v_assign' (by conv => (lhs; whnf))) rfl ?_
 refine wl_nil ?_
 refine then_go ?_
 refine wc_seq ?_
 refine wc_region ?_
 refine wl_val (v_move' (by conv => (lhs; whnf))) rfl ?_
 refine wl_val (v_len_s Tryz.underlying22 rfl) rfl ?_
 refine wl_val (v_convi_64 Tryz.underlying3 Tryz.underlying47 rfl) rfl ?_
 refine wl_call rfl (c_rnum (n := UInt64.ofNat L.length) st) rfl ?_
 intro v8 w st
 rw [UInt64.toNat_ofNat', Nat.mod_eq_of_lt (by omega)] at st
 refine wl_val (v_assign' (by conv => (lhs; whnf))) rfl ?_
 refine wl_nil ?_
 refine then_go ?_
 refine wc_seq ?_
 refine wc_seq ?_
 refine wc_region ?_
 refine wl_val (v_assign' (by conv => (lhs; whnf))) rfl ?_
 refine wl_nil ?_
 refine then_go ?_
 refine wc_block ?_
 refine wc_loop (S := Nat) (fun q r w' => ∃ i v m', q + i = L.length ∧ r 0 = .slice la L.length lc ∧ r 3 = v ∧ r 4 = .int .i64 i ∧ (∀ k o, m k = some o → m' k = some o) ∧ St m m' [] wI w' [byE v (numB L.length ++ (M.take i).flatMap actB)]) id L.length ⟨0, v8, m, by omega, rfl, rfl, rfl, fun _ _ h => h, by simpa using st⟩ ?_
 clear st
 rintro q r w2 ⟨i, v, m', hqi, g0, g3, g4, hmm, st⟩
 refine wc_o 0 g0 (wc_o 3 g3 (wc_o 4 g4 ?_))
 have hL := hL.mono hmm
 refine wc_seq ?_
 refine wc_seq ?_
 refine wc_region ?_
 refine wl_val (v_move' (by conv => (lhs; whnf))) rfl ?_
 refine wl_val (v_move' (by conv => (lhs; whnf))) rfl ?_
 refine wl_val (v_len_s Tryz.underlying22 rfl) rfl ?_
 refine wl_val (v_lss rfl rfl) rfl ?_
 refine wl_nil ?_
 refine then_go ?_
 refine wc_if rfl (fun h12 => ?_) (fun h12 => ?_)
 ·refine wc_skip ?_
  refine then_go ?_
  refine wc_seq ?_
  refine wc_block ?_
  refine wc_seq ?_
  have hi : i < L.length := by omega
  have hiM : i < M.length := by omega
  obtain ⟨lb, lo, da, dc, hla, hd, _, hrK, hrS, hrD⟩ := hL.at hi
  subst hla
  have hok : AcOk m' L[i].1 L[i].2 := hL.2 _ (List.getElem_mem hi)
  have hMi : M[i] = L[i].1 := by simp [hM]
  have hbi := bulk_mem (List.getElem_mem hiM)
  have hft := flat_lenA (L := M.take i) (Nat.le_trans (bulk_take i) (by omega))
  have hbt := bulk_take (L := M) i
  have hlt : (M.take i).length ≤ L.length := by simp; omega
  obtain ⟨x, hx⟩ : ∃ x, x = L[i].1 := ⟨_, rfl⟩
  rw [hMi] at hbi
  have htk : (M.take (i + 1)).flatMap actB = (M.take i).flatMap actB ++ actB x := by rw [List.take_succ_eq_append_getElem hiM, List.flatMap_append, hMi, ← hx]; simp
  rw [← hx] at hd hok hMi hbi hrK hrS
  rw [hd] at hok hrD
  have htl := txtB_len (t := x.key) (by omega)
  have htd := txtB_len (t := x.data) (by omega)
  obtain ⟨P0, hP0⟩ : ∃ P0, P0 = numB L.length ++ (M.take i).flatMap actB := ⟨_, rfl⟩
  have hP0l : P0.length ≤ 40000000000 := by rw [hP0, List.length_append]; omega
  rw [← hP0] at st
  refine wc_region ?_
  refine wl_val (v_move' (by conv => (lhs; whnf))) rfl ?_
  refine wl_val (v_move' (by conv => (lhs; whnf))) rfl ?_
  refine wl_val (v_move' (by conv => (lhs; whnf))) rfl ?_
  refine wl_val (v_ias i Tryz.underlying22 TF.t57 rfl rfl (by first | rfl | omega) (by first | omega | (dsimp only at *; omega))) rfl ?_
  refine wl_val (v_fa TF.f57_0 rfl) rfl ?_
  refine wl_val (v_load rfl (hrK st.im)) rfl ?_
  refine wl_s2b Tryz.underlying9 Tryz.underlying23 Tryz.underlying5 rfl st rfl ?_
  intro v21 m1 w hg1 hk1 _ st
  have hmm1 : ∀ k o, m' k = some o → m1 k = some o := hg1.le
  refine wl_call rfl (c_rtxt st.im hk1 (by omega)) rfl ?_
  rintro v22 w ⟨t22, m2, hg2, hi2, h22⟩
  have st := st.grown hg2 t22 hi2
  have hmm2 : ∀ k o, m' k = some o → m2 k = some o := fun k o h => hg2.le k o (hmm1 k o h)
  refine wl_appB (l2 := txtB x.key) st Tryz.underlying23 Tryz.underlying23 (.inr ⟨_, rfl⟩) TF.t5 TF.z5 rfl rfl (h22.src st.im (one_bs _)) (by omega) (by omega) rfl ?_
  intro v23 w st hv23
  have hL2 := hL.mono hmm2
  have hrS2 : ∀ {w' : World}, Im m2 w' → Reads Tryz.prog w' 4 ⟨lb, lo + i * 3 + 1, none⟩ (.bool x.set) := fun him => hrS (fun k o h => him k o (hmm2 k o h))
  refine wl_val (v_assign' (by conv => (lhs; whnf))) rfl ?_
  refine wl_nil ?_
  refine then_go ?_
  refine wc_seq ?_
  refine wc_region ?_
  refine wl_val (v_move' (by conv => (lhs; whnf))) rfl ?_
  refine wl_val (v_move' (by conv => (lhs; whnf))) rfl ?_
  refine wl_val (v_ias i Tryz.underlying22 TF.t57 rfl rfl (by first | rfl | omega) (by first | omega | (dsimp only at *; omega))) rfl ?_
  refine wl_val (v_fa TF.f57_1 rfl) rfl ?_
  refine wl_val (v_load rfl (hrS2 st.im)) rfl ?_
  refine wl_nil ?_
  refine then_go ?_
  refine wc_cond rfl (fun h28 => ?_) (fun h28 => ?_)
  ·refine wc_seq ?_
   refine wc_region ?_
   refine wl_val (v_move' (by conv => (lhs; whnf))) rfl ?_
   refine wl_byte1 1 Tryz.underlying23 TF.t5 TF.z5 rfl st rfl ?_
   intro b30 w st
   refine wl_app1 st Tryz.underlying23 TF.t5 TF.z5 rfl rfl (by rw [List.length_append]; omega) (by rw [List.length_append]; omega) rfl ?_
   intro v31 w st hv31
   refine wl_val (v_assign' (by conv => (lhs; whnf))) rfl ?_
   refine wl_nil ?_
   refine then_go ?_
   refine wc_region ?_
   refine wl_val (v_move' (by conv => (lhs; whnf))) rfl ?_
   refine wl_val (v_move' (by conv => (lhs; whnf))) rfl ?_
   refine wl_val (v_move' (by conv => (lhs; whnf))) rfl ?_
   refine wl_val (v_ias i Tryz.underlying22 TF.t57 rfl rfl (by first | rfl | omega) (by first | omega | (dsimp only at *; omega))) rfl ?_
   refine wl_val (v_fa TF.f57_2 rfl) rfl ?_
   refine wl_val (v_load rfl (hrD (fun k o h => st.im k o (hmm2 k o h)))) rfl ?_
   refine wl_call rfl (c_rtxt st.im (hok.data.mono hmm2) (by omega)) rfl ?_
   rintro v38 w ⟨t38, m3, hg3, hi3, h38⟩
   have st := st.grown hg3 t38 hi3
   refine wl_appB (l2 := txtB x.data) st Tryz.underlying23 Tryz.underlying23 (.inr ⟨_, rfl⟩) TF.t5 TF.z5 rfl rfl (h38.src st.im (one_bs _)) (by simp only [List.length_append, List.length_cons, List.length_nil]; omega) (by simp only [List.length_append, List.length_cons, List.length_nil]; omega) rfl ?_
   intro v39 w st hv39
   refine wl_val (v_assign' (by conv => (lhs; whnf))) rfl ?_
   refine wl_nil ?_
   refine block_go (then_go ?_)
   refine wc_region ?_
   refine wl_val (v_move' (by conv => (lhs; whnf))) rfl ?_
   refine wl_val (v_add' (c := ((i + 1 : Nat) : Int)) rfl rfl (by omega) (by omega) (by omega)) rfl ?_
   refine wl_val (v_assign' (by conv => (lhs; whnf))) rfl ?_
   refine wl_nil ?_
   refine then_go ?_
   refine ⟨q - 1, by simp; omega, i + 1, v39, m3, by omega, rfl, rfl, rfl, fun k o h => hg3.le k o (hmm2 k o (hmm k o h)), ?_⟩
   have e : numB L.length ++ (M.take (i + 1)).flatMap actB = P0 ++ txtB x.key ++ [1] ++ txtB x.data := by rw [htk, actB, h28, hP0]; simp
   rw [e]
   exact st
  ·refine wc_region ?_
   refine wl_val (v_move' (by conv => (lhs; whnf))) rfl ?_
   refine wl_byte1 0 Tryz.underlying23 TF.t5 TF.z5 rfl st rfl ?_
   intro b41 w st
   refine wl_app1 st Tryz.underlying23 TF.t5 TF.z5 rfl rfl (by rw [List.length_append]; omega) (by rw [List.length_append]; omega) rfl ?_
   intro v42 w st hv42
   refine wl_val (v_assign' (by conv => (lhs; whnf))) rfl ?_
   refine wl_nil ?_
   refine block_go (then_go ?_)
   refine wc_region ?_
   refine wl_val (v_move' (by conv => (lhs; whnf))) rfl ?_
   refine wl_val (v_add' (c := ((i + 1 : Nat) : Int)) rfl rfl (by omega) (by omega) (by omega)) rfl ?_
   refine wl_val (v_assign' (by conv => (lhs; whnf))) rfl ?_
   refine wl_nil ?_
   refine then_go ?_
   refine ⟨q - 1, by simp; omega, i + 1, v42, m2, by omega, rfl, rfl, rfl, fun k o h => hmm2 k o (hmm k o h), ?_⟩
   have e : numB L.length ++ (M.take (i + 1)).flatMap actB = P0 ++ txtB x.key ++ [0] := by rw [htk, actB, h28, hP0]; simp
   rw [e]
   exact st
 ·refine wc_exit (then_exit (then_exit (block_hit ?_)))
  refine then_go ?_
  refine wc_seq ?_
  refine wc_region ?_
  refine wl_val (v_move' (by conv => (lhs; whnf))) rfl ?_
  refine wl_val (v_assign' (by conv => (lhs; whnf))) rfl ?_
  refine wl_nil ?_
  refine then_go ?_
  refine wc_ret ?_
  have hiL : i = M.length := by omega
  subst hiL
  rw [List.take_length] at st
  exact ret1 rfl (by unfold batB; rw [hMl]; exact st.bytesOut)
end
end Go.Proofs.YtladpaehbolghaaGreat

namespace Go.Proofs.YtladpaehbolghaaGreat
open Go Go.RowKit K SH GC JR OS
open DK hiding By
theorem ret3c {P : Program} {R : Value → World → Prop} {r : Fr} {w : World} {t T u s : Nat} {p : Addr} {v v' v'' : Value} (ht : r t = .pointer (some p)) (hr : Reads P w T p v) (hu : r u = v') (hs : r s = v'') (h : R (.tuple #[v, v', v'']) w) : bodyQ P [.cell t T, .tmp u, .tmp s] R .ret r w :=
 ⟨[v, v', v''], ⟨⟨p, ht, hr⟩, hu, hs, trivial⟩, h⟩
section
variable {m : Mem} {wI : World}
def RapOut (m' : Mem) (v : Value) (E : List (By × DV)) (N : List (By × Value)) (A : List AcT) (n : Nat) : Prop :=
 ∃ kv vv E' nv N' a, v = .tuple #[.agg #[kv, vv], nv, .int .i64 (a : Nat)] ∧ KyM m' kv vv E' ∧ PcsM m' nv N' ∧ applyR (kvs E) (N.map (·.1)) (A.map (·.1)) n = (kvs E', N'.map (·.1), a) ∧ E'.length ≤ E.length + A.length ∧ N'.length ≤ N.length + 1 ∧ (∀ y ∈ N', y.1.length ≤ 1048576)
theorem appR_ok {R : List By} {x : By} {n : Nat} (h : appR R x n = 0) : x.length ≤ 1048576 := by
 unfold appR at h
 split at h
 ·cases h
 ·rename_i hc; exact (checkE_len hc).2
theorem resR_ok {R : List By} {n : Nat} (h : resR R n = 0) : ∀ x ∈ R, x.length ≤ 1048576 := fun x hx => by
 unfold resR at h
 split at h
 ·cases h
 ·rename_i hc; exact (checkE_len fun h => hc ⟨x, hx, h⟩).2
theorem c_rapply {kv vv nv lv : Value} {E : List (By × DV)} {N : List (By × Value)} {A : List AcT} {n : Nat} (him : Im m wI) (hE : KyM m kv vv E) (hr : Risen (kvs E)) (hN : PcsM m nv N) (hNl : ∀ y ∈ N, y.1.length ≤ 1048576) (hNn : N.length ≤ 100000) (hA : AcsM m lv A) (hAl : A.length ≤ 100000) (hEl : E.length ≤ 100000) (hb : bulkK (kvs E) + bulkA (A.map (·.1)) ≤ 1000000000) (hn : n ≤ 1000000) (hn2 : 2 ≤ n) :
  Ret Tryz.prog 20 #[.agg #[kv, vv], nv, lv, .int .i64 n] wI fun v w' => Out m wI w' fun m' => RapOut m' v E N A n := by
 have st := St.start him
 have q1 := SlM.one1 hE.1
 have q2 := SlM.one1 hE.2.1
 obtain ⟨la, lc, rfl⟩ := hA.1.sl
 have hmm0 : ∀ k o, m k = some o → m k = some o := fun _ _ h => h
 refine ret_of Tryz.call20 Tryz.func20 rfl Tryz.ntmps20 Tryz.results20 rfl ?_
 refine wc_seq ?_
 refine wc_region ?_
 refine wl_box (v := .agg #[kv, vv]) rfl st rfl ?_
 intro b4 w st
 refine wl_alloc TF.z43 st rfl ?_
 intro b8 w st
 refine wl_val (v_assign' (by conv => (lhs; whnf))) rfl ?_
 refine wl_val (v_assign' (by conv => (lhs; whnf))) rfl ?_
 refine wl_nil ?_
 refine then_go ?_
 refine wc_seq ?_
 refine wc_region ?_
 refine wl_val (v_move' (by conv => (lhs; whnf))) rfl ?_
 refine wl_call rfl (c_rchk st.im hA (by omega)) rfl ?_
 rintro v18 w ⟨t18, rfl⟩
 have st := st.pure t18
 refine wl_val (v_assign' (by conv => (lhs; whnf))) rfl ?_
 refine wl_nil ?_
 refine then_go ?_
 refine wc_seq ?_
 refine wc_seq ?_
 refine wc_region ?_
 refine wl_val (v_move' (by conv => (lhs; whnf))) rfl ?_
 refine wl_val (v_neq rfl rfl) rfl ?_
 refine wl_val (v_move' (by conv => (lhs; whnf))) rfl ?_
 refine wl_valg rfl rfl (fun e => (v_move' (by conv => (lhs; whnf)))) rfl ?_
 refine wl_valg rfl rfl (fun e => (v_len_s Tryz.underlying22 (by first | rfl | exact gx e rfl))) rfl ?_
 refine wl_valg rfl rfl (fun e => (v_eql (by first | rfl | exact gx e rfl) (by first | rfl | exact gx e rfl))) rfl ?_
 refine wl_val (v_pickO rfl rfl rfl) rfl ?_
 refine wl_nil ?_
 refine then_go ?_
 refine wc_cond rfl (fun h25 => ?_) (fun h25 => ?_)
 ·refine wc_seq ?_
  refine wc_region ?_
  refine wl_val (v_load rfl (st.reads (v := .agg #[kv, vv]) 1 rfl TF.t43 (getV_all rfl))) rfl ?_
  refine wl_val (v_move' (by conv => (lhs; whnf))) rfl ?_
  refine wl_val (v_move' (by conv => (lhs; whnf))) rfl ?_
  refine wl_storeW (cs := #[kv, vv]) 0 st rfl TF.t43 rfl rfl rfl rfl (by intro u hu; simp at hu; rcases hu with rfl | rfl <;> assumption) ?_
  intro w st
  refine wl_val (v_assign' (by conv => (lhs; whnf))) rfl ?_
  refine wl_val (v_assign' (by conv => (lhs; whnf))) rfl ?_
  refine wl_nil ?_
  refine then_go ?_
  refine wc_ret (then_ret ?_)
  have h : chkL (A.map (·.1)) ≠ 0 ∨ A.map (·.1) = [] := by
   rcases (Bool.or_eq_true _ _).mp h25 with h | h
   ·have := of_decide_eq_true h; exact .inl (by omega)
   ·have := of_decide_eq_true h; exact .inr (by rw [List.eq_nil_of_length_eq_zero (l := A) (by omega)]; rfl)
  have hfin : applyR (kvs E) (N.map (·.1)) (A.map (·.1)) n = (kvs E, N.map (·.1), chkL (A.map (·.1))) := by unfold applyR; rw [if_pos h]
  exact ret3c (p := ⟨b8, 0, none⟩) (v := .agg #[kv, vv]) rfl (st.reads (off := 0) 0 rfl TF.t43 (getV_all rfl)) rfl rfl ((st.keepOnly (l := []) (List.nil_sublist _)).out ⟨kv, vv, E, nv, N, _, rfl, hE, hN, hfin, by omega, by omega, hNl⟩)
 ·refine wc_skip ?_
  refine then_go ?_
  refine wc_seq ?_
  have h2 := (Bool.or_eq_false_iff.mp h25)
  have hc0 : chkL (A.map (·.1)) = 0 := by have := of_decide_eq_false h2.1; omega
  have hok : okL (A.map (·.1)) := by
   unfold chkL at hc0
   split at hc0
   ·assumption
   ·cases hc0
  have hA0 : ¬ (chkL (A.map (·.1)) ≠ 0 ∨ A.map (·.1) = []) := by
   rintro (h | h)
   ·exact h hc0
   ·exact of_decide_eq_false h2.2 (by rw [List.map_eq_nil_iff.1 h]; rfl)
  obtain ⟨M1, hM1⟩ : ∃ M1, M1 = doneS (kvs E) (A.map (·.1)) := ⟨_, rfl⟩
  obtain ⟨hb1, hl1⟩ := bulk_done (M := kvs E) (A := A.map (·.1))
  rw [← hM1, length_kvs, List.length_map] at hl1
  rw [← hM1] at hb1
  have hfin := applyR.eq_1 (kvs E) (N.map (·.1)) (A.map (·.1)) n
  rw [if_neg hA0, ← hM1] at hfin
  refine wc_region ?_
  refine wl_val (v_load rfl (st.reads (v := .agg #[kv, vv]) 1 rfl TF.t43 (getV_all rfl))) rfl ?_
  refine wl_val (v_move' (by conv => (lhs; whnf))) rfl ?_
  refine wl_call rfl (c_rdone st.im hE hr hA (fun a ha => hok.2.1 _ (List.mem_map.2 ⟨a, ha, rfl⟩)) (by omega)) rfl ?_
  rintro v31 w ⟨t31, m1, hg1, hi1, kv2, vv2, E2, rfl, hE2, hK2, hl2⟩
  have st := st.grown hg1 t31 hi1
  rw [← hM1] at hK2
  have p1 := SlM.one1 hE2.1
  have p2 := SlM.one1 hE2.2.1
  refine wl_alloc TF.z43 st rfl ?_
  intro b12 w st
  refine wl_storeW (cs := #[kv2, vv2]) 0 st rfl TF.t43 rfl rfl rfl rfl (by intro u hu; simp at hu; rcases hu with rfl | rfl <;> assumption) ?_
  intro w st
  have st : St m m1 [] wI w [K.blk b12 #[kv2, vv2] 43, K.blk b8 #[.slice none 0 0, .slice none 0 0] 43, K.blk b4 #[kv, vv] 43] := st
  refine wl_nil ?_
  refine then_go ?_
  refine wc_seq ?_
  refine wc_region ?_
  refine wl_val (v_move' (by conv => (lhs; whnf))) rfl ?_
  refine wl_val (v_move' (by conv => (lhs; whnf))) rfl ?_
  refine wl_call rfl (c_rbatch st.im (hA.mono hg1.le) (by omega) (by omega)) rfl ?_
  rintro v35 w ⟨t35, m2, hg2, hi2, hx⟩
  have st := st.grown hg2 t35 hi2
  have hmm2 : ∀ k o, m k = some o → m2 k = some o := fun k o h => hg2.le k o (hg1.le k o h)
  refine wl_val (v_move' (by conv => (lhs; whnf))) rfl ?_
  refine wl_call rfl (c_rappend st.im (PcsM.mono hN hmm2) hNl hNn hx hn hn2) rfl ?_
  rintro v37 w ⟨t37, m3, hg3, hi3, mv, rfl, hP3, _, _⟩
  have st := st.grown hg3 t37 hi3
  have hmm3 : ∀ k o, m k = some o → m3 k = some o := fun k o h => hg3.le k o (hmm2 k o h)
  have hE3 : KyM m3 kv2 vv2 E2 := hE2.mono fun k o h => hg3.le k o (hg2.le k o h)
  have hNm : PcsM m3 nv N := PcsM.mono hN hmm3
  refine wl_val (v_move' (by conv => (lhs; whnf))) rfl ?_
  refine wl_val (v_extract rfl rfl) rfl ?_
  refine wl_val (v_extract rfl rfl) rfl ?_
  refine wl_val (v_assign' (by conv => (lhs; whnf))) rfl ?_
  refine wl_val (v_assign' (by conv => (lhs; whnf))) rfl ?_
  refine wl_nil ?_
  refine then_go ?_
  refine wc_seq ?_
  refine wc_seq ?_
  refine wc_region ?_
  refine wl_val (v_move' (by conv => (lhs; whnf))) rfl ?_
  refine wl_val (v_eql rfl rfl) rfl ?_
  refine wl_nil ?_
  refine then_go ?_
  refine wc_cond rfl (fun h41 => ?_) (fun h41 => ?_)
  ·refine wc_seq ?_
   refine wc_region ?_
   refine wl_val (v_load rfl (st.reads (v := .agg #[kv2, vv2]) 0 rfl TF.t43 (getV_all rfl))) rfl ?_
   refine wl_val (v_move' (by conv => (lhs; whnf))) rfl ?_
   refine wl_storeW (cs := #[kv2, vv2]) 1 st rfl TF.t43 rfl rfl rfl rfl (by intro u hu; simp at hu; rcases hu with rfl | rfl <;> assumption) ?_
   intro w st
   refine wl_val (v_assign' (by conv => (lhs; whnf))) rfl ?_
   refine wl_val (v_assign' (by conv => (lhs; whnf))) rfl ?_
   refine wl_nil ?_
   refine then_go ?_
   refine wc_ret (then_ret ?_)
   have h0 : appR (N.map (·.1)) (batB (A.map (·.1))) n = 0 := by
    have h : ((appR (N.map (·.1)) (batB (A.map (·.1))) n : Nat) : Int) = 0 := of_decide_eq_true h41
    omega
   rw [if_pos h0] at hP3 hfin
   refine ret3c (p := ⟨b8, 0, none⟩) (v := .agg #[kv2, vv2]) rfl (st.reads (off := 0) 1 rfl TF.t43 (getV_all rfl)) rfl rfl ((st.keepOnly (l := []) (List.nil_sublist _)).out ⟨kv2, vv2, E2, mv, _, 0, rfl, hE3, hP3, by rw [hfin, hK2, List.map_append]; rfl, by omega, by simp, fun y hy => ?_⟩)
   rcases List.mem_append.1 hy with hy | hy
   ·exact hNl y hy
   ·rw [List.mem_singleton.1 hy]; exact appR_ok h0
  ·refine wc_skip ?_
   refine then_go ?_
   refine wc_seq ?_
   have hn0 : ¬ appR (N.map (·.1)) (batB (A.map (·.1))) n = 0 := by
    have h : ¬ ((appR (N.map (·.1)) (batB (A.map (·.1))) n : Nat) : Int) = 0 := of_decide_eq_false h41
    omega
   rw [if_neg hn0] at hfin
   have bad : overN M1 n = 13 → applyR (kvs E) (N.map (·.1)) (A.map (·.1)) n = (kvs E, N.map (·.1), 13) := fun h => by
    unfold overN at h
    rw [hfin]
    split at h
    ·rename_i hc; rw [if_pos hc]
    ·cases h
   refine wc_region ?_
   refine wl_val (v_load rfl (st.reads (v := .agg #[kv2, vv2]) 0 rfl TF.t43 (getV_all rfl))) rfl ?_
   refine wl_call rfl (c_rwhole st.im hE3 (by omega)) rfl ?_
   rintro v45 w ⟨t45, m4, hg4, hi4, W, hW, hWM⟩
   have st := st.grown hg4 t45 hi4
   rw [hK2] at hWM
   have hWl : W.length = M1.length := by have := congrArg List.length hWM; simpa [actsOf] using this
   have hmm4 : ∀ k o, m k = some o → m4 k = some o := fun k o h => hg4.le k o (hmm3 k o h)
   obtain ⟨wa, wc, rfl⟩ := hW.1.sl
   have st : St m m4 [] wI w [K.blk b12 #[kv2, vv2] 43, K.blk b8 #[.slice none 0 0, .slice none 0 0] 43, K.blk b4 #[kv, vv] 43] := st
   refine wl_val (v_assign' (by conv => (lhs; whnf))) rfl ?_
   refine wl_nil ?_
   refine then_go ?_
   refine wc_seq ?_
   refine wc_region ?_
   refine wl_val (v_assign' (by conv => (lhs; whnf))) rfl ?_
   refine wl_nil ?_
   refine then_go ?_
   refine wc_seq ?_
   refine wc_seq ?_
   refine wc_region ?_
   refine wl_val (v_move' (by conv => (lhs; whnf))) rfl ?_
   refine wl_val (v_len_s Tryz.underlying22 rfl) rfl ?_
   refine wl_val (v_gtr rfl rfl) rfl ?_
   refine wl_nil ?_
   refine then_go ?_
   refine wc_mid (fun r w' => ∃ (m5 : Mem) (xv : Value) (X : List (By × Value)), r 1 = nv ∧ r 3 = .int .i64 n ∧ r 4 = .pointer (some ⟨b4, 0, none⟩) ∧ r 8 = .pointer (some ⟨b8, 0, none⟩) ∧ r 12 = .pointer (some ⟨b12, 0, none⟩) ∧ r 15 = .slice wa W.length wc ∧ r 16 = xv ∧ (∀ k o, m4 k = some o → m5 k = some o) ∧ PcsM m5 xv X ∧ X.map (·.1) = anewOf M1 ∧ St m m5 [] wI w' [K.blk b12 #[kv2, vv2] 43, K.blk b8 #[.slice none 0 0, .slice none 0 0] 43, K.blk b4 #[kv, vv] 43]) ?_ ?_
   ·refine wc_cond rfl (fun h48 => ?_) (fun h48 => ?_)
    ·refine wc_region ?_
     refine wl_val (v_move' (by conv => (lhs; whnf))) rfl ?_
     refine wl_val (v_move' (by conv => (lhs; whnf))) rfl ?_
     refine wl_call rfl (c_rbatch st.im hW (by omega) (by rw [hWM, bulk_acts]; omega)) rfl ?_
     rintro v51 w ⟨t51, m5, hg5, hi5, hx5⟩
     have st := st.grown hg5 t51 hi5
     rw [hWM] at hx5
     have st := nilRow st 23 1
     refine wl_svOne (v := v51) Tryz.underlying41 TF.t23 TF.z23 (SlM.one1 hx5) rfl st rfl ?_
     intro b52 w st
     refine wl_lrApp (x := batB (actsOf M1)) (N := []) 0 st rfl (SlM.one1 hx5) rfl rfl (by simp) rfl ?_
     intro v53 w st
     refine wl_val (v_assign' (by conv => (lhs; whnf))) rfl ?_
     refine wl_nil ?_
     refine then_go ?_
     have hM0 : M1 ≠ [] := fun e => by have := of_decide_eq_true h48; rw [e] at hWl; simp [hWl] at this
     have st : St m m5 [] wI w [lrE v53 [(batB (actsOf M1), v51)], K.blk b12 #[kv2, vv2] 43, K.blk b8 #[.slice none 0 0, .slice none 0 0] 43, K.blk b4 #[kv, vv] 43] := st
     obtain ⟨m6, hg6, hm6, st2⟩ := st.freezeR (i := 0) rfl (by simp)
     have hrow := row_SlM (m := m6) (st.at (i := 0) rfl) hm6
     exact ⟨m6, v53, _, rfl, rfl, rfl, rfl, rfl, rfl, rfl, fun k o h => hg6.le k o (hg5.le k o h), ⟨hrow, fun y hy => by rw [List.mem_singleton.1 hy]; exact hx5.mono hg6.le⟩, by unfold anewOf; rw [if_neg hM0]; rfl, st2⟩
    ·refine wc_skip ?_
     refine then_go ?_
     have hM0 : M1 = [] := List.eq_nil_of_length_eq_zero (by have := of_decide_eq_false h48; omega)
     exact ⟨m4, _, [], rfl, rfl, rfl, rfl, rfl, rfl, rfl, fun _ _ h => h, ⟨SlM.nil, by simp⟩, by unfold anewOf; rw [if_pos hM0]; rfl, st⟩
   ·clear st
    rintro r w ⟨m5, xv, X, g1, g3, g4, g8, g12, g15, g16, hmm5, hX, hXX, st⟩
    refine wc_o 1 g1 (wc_o 3 g3 (wc_o 4 g4 (wc_o 8 g8 (wc_o 12 g12 (wc_o 15 g15 (wc_o 16 g16 ?_))))))
    have hW := hW.mono hmm5
    have hXl : X.length ≤ 1 := by
     have := congrArg List.length hXX
     rw [List.length_map] at this
     rw [this]
     unfold anewOf
     split <;> simp
    have hmm5' : ∀ k o, m k = some o → m5 k = some o := fun k o h => hmm5 k o (hmm4 k o h)
    have hE5 : KyM m5 kv2 vv2 E2 := hE3.mono fun k o h => hmm5 k o (hg4.le k o h)
    refine wc_seq ?_
    refine wc_seq ?_
    refine wc_region ?_
    refine wl_val (v_move' (by conv => (lhs; whnf))) rfl ?_
    refine wl_call rfl (c_rchk st.im hW (by omega)) rfl ?_
    rintro v55 w ⟨t55, rfl⟩
    have st := st.pure t55
    rw [hWM]
    refine wl_val (v_neq rfl rfl) rfl ?_
    refine wl_nil ?_
    refine then_go ?_
    refine wc_cond rfl (fun h56 => ?_) (fun h56 => ?_)
    ·refine wc_seq ?_
     refine wc_region ?_
     refine wl_val (v_load rfl (st.reads (v := .agg #[kv, vv]) 2 rfl TF.t43 (getV_all rfl))) rfl ?_
     refine wl_val (v_move' (by conv => (lhs; whnf))) rfl ?_
     refine wl_storeW (cs := #[kv, vv]) 1 st rfl TF.t43 rfl rfl rfl rfl (by intro u hu; simp at hu; rcases hu with rfl | rfl <;> assumption) ?_
     intro w st
     refine wl_val (v_assign' (by conv => (lhs; whnf))) rfl ?_
     refine wl_val (v_assign' (by conv => (lhs; whnf))) rfl ?_
     refine wl_nil ?_
     refine then_go ?_
     refine wc_ret (then_ret ?_)
     have hz := of_decide_eq_true h56
     have hv : overN M1 n = 13 := by unfold overN; rw [if_pos (.inl (by omega))]
     exact ret3c (p := ⟨b8, 0, none⟩) (v := .agg #[kv, vv]) rfl (st.reads (off := 0) 1 rfl TF.t43 (getV_all rfl)) rfl rfl ((st.keepOnly (l := []) (List.nil_sublist _)).out ⟨kv, vv, E, nv, N, 13, rfl, hE.mono hmm5', PcsM.mono hN hmm5', bad hv, by omega, by omega, hNl⟩)
    ·refine wc_skip ?_
     refine then_go ?_
     refine wc_seq ?_
     refine wc_region ?_
     refine wl_val (v_move' (by conv => (lhs; whnf))) rfl ?_
     refine wl_val (v_move' (by conv => (lhs; whnf))) rfl ?_
     refine wl_call rfl (c_rrestart (N := []) st.im ⟨SlM.nil, by simp⟩ hX (by omega) hn hn2) rfl ?_
     rintro v62 w ⟨t62, h62⟩
     have st := st.pure t62
     obtain ⟨yv, hyv⟩ : ∃ y, (if resR (X.map (·.1)) n = 0 then xv else .slice none 0 0) = y := ⟨_, rfl⟩
     have h62 : v62 = .tuple #[yv, .int .i64 (resR (X.map (·.1)) n : Nat)] := by rw [← hyv]; exact h62
     subst h62
     refine wl_val (v_move' (by conv => (lhs; whnf))) rfl ?_
     refine wl_val (v_extract rfl rfl) rfl ?_
     refine wl_val (v_extract rfl rfl) rfl ?_
     refine wl_val (v_assign' (by conv => (lhs; whnf))) rfl ?_
     refine wl_val (v_assign' (by conv => (lhs; whnf))) rfl ?_
     refine wl_nil ?_
     refine then_go ?_
     refine wc_seq ?_
     refine wc_seq ?_
     refine wc_region ?_
     refine wl_val (v_move' (by conv => (lhs; whnf))) rfl ?_
     refine wl_val (v_neq rfl rfl) rfl ?_
     refine wl_nil ?_
     refine then_go ?_
     refine wc_cond rfl (fun h66 => ?_) (fun h66 => ?_)
     ·refine wc_seq ?_
      refine wc_region ?_
      refine wl_val (v_load rfl (st.reads (v := .agg #[kv, vv]) 2 rfl TF.t43 (getV_all rfl))) rfl ?_
      refine wl_val (v_move' (by conv => (lhs; whnf))) rfl ?_
      refine wl_storeW (cs := #[kv, vv]) 1 st rfl TF.t43 rfl rfl rfl rfl (by intro u hu; simp at hu; rcases hu with rfl | rfl <;> assumption) ?_
      intro w st
      refine wl_val (v_assign' (by conv => (lhs; whnf))) rfl ?_
      refine wl_val (v_assign' (by conv => (lhs; whnf))) rfl ?_
      refine wl_nil ?_
      refine then_go ?_
      refine wc_ret (then_ret ?_)
      have hz : ¬ ((resR (X.map (·.1)) n : Nat) : Int) = 0 := of_decide_eq_true h66
      have hv : overN M1 n = 13 := by unfold overN; rw [← hXX, if_pos (.inr (by omega))]
      exact ret3c (p := ⟨b8, 0, none⟩) (v := .agg #[kv, vv]) rfl (st.reads (off := 0) 1 rfl TF.t43 (getV_all rfl)) rfl rfl ((st.keepOnly (l := []) (List.nil_sublist _)).out ⟨kv, vv, E, nv, N, 13, rfl, hE.mono hmm5', PcsM.mono hN hmm5', bad hv, by omega, by omega, hNl⟩)
     ·refine wc_skip ?_
      refine then_go ?_
      refine wc_seq ?_
      refine wc_region ?_
      refine wl_val (v_load rfl (st.reads (v := .agg #[kv2, vv2]) 0 rfl TF.t43 (getV_all rfl))) rfl ?_
      refine wl_val (v_move' (by conv => (lhs; whnf))) rfl ?_
      refine wl_storeW (cs := #[kv2, vv2]) 1 st rfl TF.t43 rfl rfl rfl rfl (by intro u hu; simp at hu; rcases hu with rfl | rfl <;> assumption) ?_
      intro w st
      refine wl_val (v_assign' (by conv => (lhs; whnf))) rfl ?_
      refine wl_val (v_assign' (by conv => (lhs; whnf))) rfl ?_
      refine wl_nil ?_
      refine then_go ?_
      refine wc_ret ?_
      have h1 := of_decide_eq_false h56
      have h2 : ¬ ¬ ((resR (X.map (·.1)) n : Nat) : Int) = 0 := of_decide_eq_false h66
      have hz : resR (X.map (·.1)) n = 0 := by omega
      have hok2 : ¬ (chkL (actsOf M1) ≠ 0 ∨ resR (anewOf M1) n ≠ 0) := by
       rintro (h | h)
       ·omega
       ·rw [hXX] at hz; exact h hz
      rw [if_neg hok2] at hfin
      refine ret3c (p := ⟨b8, 0, none⟩) (v := .agg #[kv2, vv2]) rfl (st.reads (off := 0) 1 rfl TF.t43 (getV_all rfl)) rfl rfl ((st.keepOnly (l := []) (List.nil_sublist _)).out ⟨kv2, vv2, E2, yv, X, 0, rfl, hE5, by rw [← hyv, if_pos hz]; exact hX, by rw [hfin, hK2, hXX], by omega, by omega, fun y hy => resR_ok hz y.1 (List.mem_map.2 ⟨y, hy, rfl⟩)⟩)
end
end Go.Proofs.YtladpaehbolghaaGreat

namespace Go.Proofs.YtladpaehbolghaaGreat
open Go Go.RowKit K SH GC JR OS
open DK hiding By
section
variable {m : Mem} {wI : World}
theorem c_sameacts {av bv : Value} {A B : List AcT} (him : Im m wI) (hA : AcsM m av A) (hB : AcsM m bv B) (h : A.map (·.1) = B.map (·.1)) (hl : A.length ≤ 1000000000) :
  Ret Tryz.prog 14 #[av, bv] wI fun v w' => Tch wI w' [] [] ∧ v = .bool true := by
 have st := St.start him
 have hlen : A.length = B.length := by have := congrArg List.length h; simpa using this
 obtain ⟨la, lc, rfl⟩ := hA.1.sl
 obtain ⟨ka, kc, rfl⟩ := hB.1.sl
 refine ret_of Tryz.call14 Tryz.func14 rfl Tryz.ntmps14 Tryz.results14 rfl ?_
 refine wc_seq ?_
 refine wc_region ?_
 refine wl_val (v_assign' (by conv => (lhs; whnf))) rfl ?_
 refine wl_nil ?_
 refine then_go ?_
 refine wc_seq ?_
 refine wc_seq ?_
 refine wc_region ?_
 refine wl_val (v_move' (by conv => (lhs; whnf))) rfl ?_
 refine wl_val (v_len_s Tryz.underlying22 rfl) rfl ?_
 refine wl_val (v_move' (by conv => (lhs; whnf))) rfl ?_
 refine wl_val (v_len_s Tryz.underlying22 rfl) rfl ?_
 refine wl_val (v_neqF (a := (A.length : Int)) (b := (B.length : Int)) (by omega) rfl rfl) rfl ?_
 refine wl_nil ?_
 refine then_go ?_
 refine wc_false rfl ?_
 refine wc_skip ?_
 refine then_go ?_
 refine wc_seq ?_
 refine wc_seq ?_
 refine wc_region ?_
 refine wl_val (v_assign' (by conv => (lhs; whnf))) rfl ?_
 refine wl_nil ?_
 refine then_go ?_
 refine wc_block ?_
 refine wc_loop (S := Nat) (fun q r w' => ∃ (i : Nat), q + i = A.length ∧ r 0 = .slice la A.length lc ∧ r 1 = .slice ka B.length kc ∧ r 5 = .int .i64 i ∧ St m m [] wI w' []) id A.length ⟨0, by omega, rfl, rfl, rfl, st⟩ ?_
 clear st
 rintro q r w2 ⟨i, hqi, g0, g1, g5, st⟩
 refine wc_o 0 g0 (wc_o 1 g1 (wc_o 5 g5 ?_))
 refine wc_seq ?_
 refine wc_seq ?_
 refine wc_region ?_
 refine wl_val (v_move' (by conv => (lhs; whnf))) rfl ?_
 refine wl_val (v_move' (by conv => (lhs; whnf))) rfl ?_
 refine wl_val (v_len_s Tryz.underlying22 rfl) rfl ?_
 refine wl_val (v_lss rfl rfl) rfl ?_
 refine wl_nil ?_
 refine then_go ?_
 refine wc_if rfl (fun h14 => ?_) (fun h14 => ?_)
 ·refine wc_skip ?_
  refine then_go ?_
  refine wc_seq ?_
  refine wc_block ?_
  refine wc_seq ?_
  have hi : i < A.length := by omega
  have hj : i < B.length := by omega
  obtain ⟨lb, lo, da, dc, hla, hd, _, hrk, hrs, hrd⟩ := hA.at hi
  obtain ⟨ub, uo, ea, ec, hua, he, _, hsk, hss, hsd⟩ := hB.at hj
  subst hla hua
  have hokA := (hA.2 _ (List.getElem_mem hi)).data
  have hokB := (hB.2 _ (List.getElem_mem hj)).data
  have heq : A[i].1 = B[i].1 := by
   have h1 : (A.map (·.1))[i]'(by simpa using hi) = (B.map (·.1))[i]'(by simpa using hj) := by simp [h]
   simpa using h1
  refine wc_draw TF.mixed ?_
  have st := st.pure (touch_drew _)
  refine fl_val 0 rfl (fun _ => (v_move' (by conv => (lhs; whnf)))) rfl (by kernel_rfl) ?_
  refine fl_val 1 rfl (fun _ => (v_move' (by conv => (lhs; whnf)))) rfl (by kernel_rfl) ?_
  refine fl_val 2 rfl (fun _ => (v_ias i Tryz.underlying22 TF.t57 rfl rfl (by first | rfl | omega) (by first | omega | (dsimp only at *; omega)))) rfl (by kernel_rfl) ?_
  refine fl_val 3 rfl (fun _ => (v_fa TF.f57_0 rfl)) rfl (by kernel_rfl) ?_
  refine fl_ld 4 rfl (v_load rfl (hrk st.im)) (by kernel_rfl) ?_
  refine fl_val 5 rfl (fun _ => (v_move' (by conv => (lhs; whnf)))) rfl (by kernel_rfl) ?_
  refine fl_val 6 rfl (fun _ => (v_move' (by conv => (lhs; whnf)))) rfl (by kernel_rfl) ?_
  refine fl_val 7 rfl (fun _ => (v_ias i Tryz.underlying22 TF.t57 rfl rfl (by first | rfl | omega) (by first | omega | (dsimp only at *; omega)))) rfl (by kernel_rfl) ?_
  refine fl_val 8 rfl (fun _ => (v_fa TF.f57_0 rfl)) rfl (by kernel_rfl) ?_
  refine fl_ld 9 rfl (v_load rfl (hsk st.im)) (by kernel_rfl) ?_
  refine fl_val 10 rfl (fun _ => (wl_valD (v_nesJ rfl rfl) (q := false) (by rw [heq]; simp))) rfl (by kernel_rfl) ?_
  refine fl_val 11 rfl (fun _ => (v_move' (by conv => (lhs; whnf)))) rfl (by kernel_rfl) ?_
  refine fl_on 12 rfl rfl rfl rfl (fun _ => (v_move' (by conv => (lhs; whnf)))) rfl (by kernel_rfl) ?_
  refine fl_on 13 rfl rfl rfl rfl (fun _ => (v_move' (by conv => (lhs; whnf)))) rfl (by kernel_rfl) ?_
  refine fl_on 14 rfl rfl rfl rfl (fun _ => (v_ias i Tryz.underlying22 TF.t57 rfl rfl (by first | rfl | omega) (by first | omega | (dsimp only at *; omega)))) rfl (by kernel_rfl) ?_
  refine fl_on 15 rfl rfl rfl rfl (fun _ => (v_fa TF.f57_1 rfl)) rfl (by kernel_rfl) ?_
  refine fl_ond 16 rfl rfl rfl rfl (v_load rfl (hrs st.im)) rfl (by kernel_rfl) ?_
  refine fl_on 17 rfl rfl rfl rfl (fun _ => (v_move' (by conv => (lhs; whnf)))) rfl (by kernel_rfl) ?_
  refine fl_on 18 rfl rfl rfl rfl (fun _ => (v_move' (by conv => (lhs; whnf)))) rfl (by kernel_rfl) ?_
  refine fl_on 19 rfl rfl rfl rfl (fun _ => (v_ias i Tryz.underlying22 TF.t57 rfl rfl (by first | rfl | omega) (by first | omega | (dsimp only at *; omega)))) rfl (by kernel_rfl) ?_
  refine fl_on 20 rfl rfl rfl rfl (fun _ => (v_fa TF.f57_1 rfl)) rfl (by kernel_rfl) ?_
  refine fl_ond 21 rfl rfl rfl rfl (v_load rfl (hss st.im)) rfl (by kernel_rfl) ?_
  refine fl_on 22 rfl rfl rfl rfl (fun _ => (wl_valD (v_neb Tryz.underlying4 rfl rfl) (q := false) (by rw [heq]; simp))) rfl (by kernel_rfl) ?_
  refine fl_val 23 rfl (fun _ => (v_pick rfl)) rfl (by kernel_rfl) ?_
  refine fl_val 24 rfl (fun _ => (v_move' (by conv => (lhs; whnf)))) rfl (by kernel_rfl) ?_
  refine fl_on 25 rfl rfl rfl rfl (fun _ => (v_move' (by conv => (lhs; whnf)))) rfl (by kernel_rfl) ?_
  refine fl_on 26 rfl rfl rfl rfl (fun _ => (v_move' (by conv => (lhs; whnf)))) rfl (by kernel_rfl) ?_
  refine fl_on 27 rfl rfl rfl rfl (fun _ => (v_ias i Tryz.underlying22 TF.t57 rfl rfl (by first | rfl | omega) (by first | omega | (dsimp only at *; omega)))) rfl (by kernel_rfl) ?_
  refine fl_on 28 rfl rfl rfl rfl (fun _ => (v_fa TF.f57_2 rfl)) rfl (by kernel_rfl) ?_
  refine fl_ond 29 rfl rfl rfl rfl (v_load rfl (hrd st.im)) rfl (by kernel_rfl) ?_
  refine fl_on 30 rfl rfl rfl rfl (fun _ => (v_move' (by conv => (lhs; whnf)))) rfl (by kernel_rfl) ?_
  refine fl_on 31 rfl rfl rfl rfl (fun _ => (v_move' (by conv => (lhs; whnf)))) rfl (by kernel_rfl) ?_
  refine fl_on 32 rfl rfl rfl rfl (fun _ => (v_ias i Tryz.underlying22 TF.t57 rfl rfl (by first | rfl | omega) (by first | omega | (dsimp only at *; omega)))) rfl (by kernel_rfl) ?_
  refine fl_on 33 rfl rfl rfl rfl (fun _ => (v_fa TF.f57_2 rfl)) rfl (by kernel_rfl) ?_
  refine fl_ond 34 rfl rfl rfl rfl (v_load rfl (hsd st.im)) rfl (by kernel_rfl) ?_
  refine fl_eff1 35 [33, 32, 31, 30, 28, 27, 26, 25, 23, 22, 20, 19, 18, 17, 15, 14, 13, 12, 11, 10, 8, 7, 6, 5, 3, 2, 1, 0] [21, 16, 9, 4] (by kernel_rfl) ⟨obl_on rfl rfl rfl rfl rfl (v_load rfl (hsd st.im)), obl_on rfl rfl rfl rfl rfl (v_load rfl (hrd st.im)), obl_on rfl rfl rfl rfl rfl (v_load rfl (hss st.im)), obl_on rfl rfl rfl rfl rfl (v_load rfl (hrs st.im)), obl_ld rfl rfl rfl (v_load rfl (hsk st.im)), obl_ld rfl rfl rfl (v_load rfl (hrk st.im)), trivial⟩ rfl ?_
  refine wl_on rfl rfl ?_
  refine wl_call rfl (c_same17 st.im hokA hokB) rfl ?_
  rintro v52 w ⟨t52, rfl⟩
  have st := st.pure t52
  rw [decide_eq_true (by rw [heq])]
  refine wl_nil ⟨rfl, ?_⟩
  refine fl_on 36 rfl rfl rfl rfl (fun _ => (v_not rfl)) rfl (by kernel_rfl) ?_
  refine fl_val 37 rfl (fun _ => (v_pick rfl)) rfl (by kernel_rfl) ?_
  refine fl_nil (by kernel_rfl) ⟨obl_on rfl rfl rfl rfl rfl (v_load rfl (hss st.im)), obl_on rfl rfl rfl rfl rfl (v_load rfl (hrs st.im)), obl_ld rfl rfl rfl (v_load rfl (hsk st.im)), obl_ld rfl rfl rfl (v_load rfl (hrk st.im)), trivial⟩ ?_
  refine then_go ?_
  refine wc_false rfl ?_
  refine wc_skip ?_
  refine block_go (then_go ?_)
  refine wc_region ?_
  refine wl_val (v_move' (by conv => (lhs; whnf))) rfl ?_
  refine wl_val (v_add' (c := ((i + 1 : Nat) : Int)) rfl rfl (by omega) (by omega) (by omega)) rfl ?_
  refine wl_val (v_assign' (by conv => (lhs; whnf))) rfl ?_
  refine wl_nil ?_
  refine then_go ?_
  exact ⟨q - 1, by simp; omega, i + 1, by omega, rfl, rfl, rfl, st⟩
 ·refine wc_exit (then_exit (then_exit (block_hit ?_)))
  refine then_go ?_
  refine wc_seq ?_
  refine wc_region ?_
  refine wl_val (v_assign' (by conv => (lhs; whnf))) rfl ?_
  refine wl_nil ?_
  refine then_go ?_
  refine wc_ret ?_
  exact ret1 rfl ⟨st.touch, rfl⟩
theorem c_samekeys {kv vv ku vu : Value} {E G : List (By × DV)} (him : Im m wI) (hE : KyM m kv vv E) (hG : KyM m ku vu G) (h : kvs E = kvs G) (hl : E.length ≤ 1000000) :
  Ret Tryz.prog 58 #[.agg #[kv, vv], .agg #[ku, vu]] wI fun v w' => Out m wI w' fun _ => v = .bool true := by
 have st := St.start him
 have q1 := SlM.one1 hE.1
 have q2 := SlM.one1 hE.2.1
 have q3 := SlM.one1 hG.1
 have q4 := SlM.one1 hG.2.1
 have hGl : G.length ≤ 1000000 := by have := congrArg List.length h; rw [length_kvs, length_kvs] at this; omega
 refine ret_of Tryz.call58 Tryz.func58 rfl Tryz.ntmps58 Tryz.results58 rfl ?_
 refine wc_seq ?_
 refine wc_region ?_
 refine wl_box (v := .agg #[kv, vv]) rfl st rfl ?_
 intro b2 w st
 refine wl_box (v := .agg #[ku, vu]) rfl st rfl ?_
 intro b3 w st
 refine wl_val (v_assign' (by conv => (lhs; whnf))) rfl ?_
 refine wl_nil ?_
 refine then_go ?_
 refine wc_seq ?_
 refine wc_draw TF.mixed ?_
 have st := st.pure (touch_drew _)
 refine fl_ld 0 rfl (v_load rfl (st.reads (v := .agg #[kv, vv]) 1 rfl TF.t43 (getV_all rfl))) (by kernel_rfl) ?_
 refine fl_ld 2 rfl (v_load rfl (st.reads (v := .agg #[ku, vu]) 0 rfl TF.t43 (getV_all rfl))) (by kernel_rfl) ?_
 refine fl_eff1 1 [] [2] (by kernel_rfl) ⟨obl_ld rfl rfl rfl (v_load rfl (st.reads (v := .agg #[ku, vu]) 0 rfl TF.t43 (getV_all rfl))), obl_ld rfl rfl rfl (v_load rfl (st.reads (v := .agg #[kv, vv]) 1 rfl TF.t43 (getV_all rfl))), trivial⟩ rfl ?_
 refine wl_call rfl (c_rwhole st.im hE hl) rfl ?_
 rintro v6 w ⟨t6, m1, hg1, hi1, A, hA, hAE⟩
 have st := st.grown hg1 t6 hi1
 refine wl_nil ⟨rfl, ?_⟩
 refine fl_eff1 3 [] [] (by kernel_rfl) ⟨obl_ld rfl rfl rfl (v_load rfl (st.reads (v := .agg #[ku, vu]) 0 rfl TF.t43 (getV_all rfl))), trivial⟩ rfl ?_
 refine wl_call rfl (c_rwhole st.im (hG.mono hg1.le) hGl) rfl ?_
 rintro v8 w ⟨t8, m2, hg2, hi2, B, hB, hBG⟩
 have st := st.grown hg2 t8 hi2
 refine wl_nil ⟨rfl, ?_⟩
 refine fl_eff1 4 [] [] (by kernel_rfl) trivial rfl ?_
 have hAl : A.length = E.length := by have := congrArg List.length hAE; simpa [actsOf] using this
 refine wl_call rfl (c_sameacts st.im (hA.mono hg2.le) hB (by rw [hAE, hBG, h]) (by omega)) rfl ?_
 rintro v9 w ⟨t9, rfl⟩
 have st := st.pure t9
 refine wl_nil ⟨rfl, ?_⟩
 refine fl_eff1 5 [] [] (by kernel_rfl) trivial rfl ?_
 refine wl_val (v_assign' (by conv => (lhs; whnf))) rfl ?_
 refine wl_nil ⟨rfl, ?_⟩
 refine fl_nil (by kernel_rfl) trivial ?_
 refine then_go ?_
 refine wc_ret ?_
 exact ret1 rfl ((st.keepOnly (l := []) (List.nil_sublist _)).out rfl)
def ShortA (A : List AcT) : Prop := A.length ≤ 1048576 ∧ ∀ a ∈ A, a.1.key.length ≤ 1048576 ∧ a.1.data.length ≤ 1048576
theorem c_light {lv : Value} {A : List AcT} (him : Im m wI) (hA : AcsM m lv A) (hs : ShortA A) :
  Ret Tryz.prog 8 #[lv] wI fun v w' => Tch wI w' [] [] ∧ ∃ c : Bool, v = .bool c ∧ (c = true → A.length ≤ 60 ∧ bulkA (A.map (·.1)) ≤ 20000) := by
 have st := St.start him
 obtain ⟨la, lc, rfl⟩ := hA.1.sl
 refine ret_of Tryz.call8 Tryz.func8 rfl Tryz.ntmps8 Tryz.results8 rfl ?_
 refine wc_seq ?_
 refine wc_region ?_
 refine wl_val (v_assign' (by conv => (lhs; whnf))) rfl ?_
 refine wl_nil ?_
 refine then_go ?_
 refine wc_seq ?_
 refine wc_seq ?_
 refine wc_region ?_
 refine wl_val (v_move' (by conv => (lhs; whnf))) rfl ?_
 refine wl_val (v_len_s Tryz.underlying22 rfl) rfl ?_
 refine wl_val (v_gtr rfl rfl) rfl ?_
 refine wl_nil ?_
 refine then_go ?_
 refine wc_if rfl (fun h7 => ?_) (fun h7 => ?_)
 ·refine wc_seq ?_
  refine wc_region ?_
  refine wl_val (v_assign' (by conv => (lhs; whnf))) rfl ?_
  refine wl_nil ?_
  refine then_go ?_
  refine wc_ret (then_ret ?_)
  exact ret1 rfl ⟨st.touch, false, rfl, fun h => by cases h⟩
 ·refine wc_skip ?_
  refine then_go ?_
  refine wc_seq ?_
  refine wc_region ?_
  refine wl_val (v_assign' (by conv => (lhs; whnf))) rfl ?_
  refine wl_nil ?_
  refine then_go ?_
  refine wc_seq ?_
  refine wc_seq ?_
  refine wc_region ?_
  refine wl_val (v_assign' (by conv => (lhs; whnf))) rfl ?_
  refine wl_nil ?_
  refine then_go ?_
  refine wc_block ?_
  refine wc_loop (S := Nat) (fun q r w' => ∃ (i : Nat), q + i = A.length ∧ r 0 = .slice la A.length lc ∧ r 3 = .int .i64 (bulkA ((A.take i).map (·.1)) : Nat) ∧ r 4 = .int .i64 i ∧ bulkA ((A.take i).map (·.1)) ≤ 3000000 ∧ St m m [] wI w' []) id A.length ⟨0, by omega, rfl, rfl, rfl, by simp [bulkA], st⟩ ?_
  clear st
  rintro q r w2 ⟨i, hqi, g0, g3, g4, hbi, st⟩
  refine wc_o 0 g0 (wc_o 3 g3 (wc_o 4 g4 ?_))
  refine wc_seq ?_
  refine wc_seq ?_
  refine wc_region ?_
  refine wl_val (v_move' (by conv => (lhs; whnf))) rfl ?_
  refine wl_val (v_move' (by conv => (lhs; whnf))) rfl ?_
  refine wl_val (v_len_s Tryz.underlying22 rfl) rfl ?_
  refine wl_val (v_lss rfl rfl) rfl ?_
  refine wl_val (v_move' (by conv => (lhs; whnf))) rfl ?_
  refine wl_valg rfl rfl (fun e => (v_move' (by conv => (lhs; whnf)))) rfl ?_
  refine wl_valg rfl rfl (fun e => (v_leq (by first | rfl | exact gx e rfl) (by first | rfl | exact gx e rfl))) rfl ?_
  refine wl_val (v_pickA rfl rfl rfl) rfl ?_
  refine wl_nil ?_
  refine then_go ?_
  refine wc_cond rfl (fun h15 => ?_) (fun h15 => ?_)
  ·refine wc_skip ?_
   refine then_go ?_
   refine wc_seq ?_
   refine wc_block ?_
   rw [Bool.and_eq_true, decide_eq_true_eq, decide_eq_true_eq] at h15
   have hi : i < A.length := by omega
   obtain ⟨lb, lo, da, dc, hla, hd, _, hrk, hrs, hrd⟩ := hA.at hi
   subst hla
   obtain ⟨hk, hdl⟩ := hs.2 _ (List.getElem_mem hi)
   simp only [hd] at hrd
   have htk : bulkA ((A.take (i + 1)).map (·.1)) = bulkA ((A.take i).map (·.1)) + (A[i].1.key.length + A[i].1.data.length) := by
    rw [List.take_succ_eq_append_getElem hi, List.map_append]
    unfold bulkA
    simp
   refine wc_draw TF.mixed ?_
   have st := st.pure (touch_drew _)
   refine fl_val 0 rfl (fun _ => (v_move' (by conv => (lhs; whnf)))) rfl (by kernel_rfl) ?_
   refine fl_val 1 rfl (fun _ => (v_move' (by conv => (lhs; whnf)))) rfl (by kernel_rfl) ?_
   refine fl_val 2 rfl (fun _ => (v_move' (by conv => (lhs; whnf)))) rfl (by kernel_rfl) ?_
   refine fl_val 3 rfl (fun _ => (v_ias i Tryz.underlying22 TF.t57 rfl rfl (by first | rfl | omega) (by first | omega | (dsimp only at *; omega)))) rfl (by kernel_rfl) ?_
   refine fl_val 4 rfl (fun _ => (v_fa TF.f57_0 rfl)) rfl (by kernel_rfl) ?_
   refine fl_ld 5 rfl (v_load rfl (hrk st.im)) (by kernel_rfl) ?_
   refine fl_val 6 rfl (fun _ => (v_to (v' := .int .i64 (A[i].1.key.length : Nat)) (v_len_str Tryz.underlying9 rfl) (by rw [size_strB]))) rfl (by kernel_rfl) ?_
   refine fl_val 7 rfl (fun _ => (v_add' (a := ((bulkA ((A.take i).map (·.1)) : Nat) : Int)) (b := ((A[i].1.key.length : Nat) : Int)) (c := ((bulkA ((A.take i).map (·.1)) + A[i].1.key.length : Nat) : Int)) rfl rfl (by omega) (by omega) (by omega))) rfl (by kernel_rfl) ?_
   refine fl_val 8 rfl (fun _ => (v_move' (by conv => (lhs; whnf)))) rfl (by kernel_rfl) ?_
   refine fl_val 9 rfl (fun _ => (v_move' (by conv => (lhs; whnf)))) rfl (by kernel_rfl) ?_
   refine fl_val 10 rfl (fun _ => (v_ias i Tryz.underlying22 TF.t57 rfl rfl (by first | rfl | omega) (by first | omega | (dsimp only at *; omega)))) rfl (by kernel_rfl) ?_
   refine fl_val 11 rfl (fun _ => (v_fa TF.f57_2 rfl)) rfl (by kernel_rfl) ?_
   refine fl_ld 12 rfl (v_load rfl (hrd st.im)) (by kernel_rfl) ?_
   refine fl_val 13 rfl (fun _ => (v_len_s Tryz.underlying23 rfl)) rfl (by kernel_rfl) ?_
   refine fl_val 14 rfl (fun _ => (v_add' (a := ((bulkA ((A.take i).map (·.1)) + A[i].1.key.length : Nat) : Int)) (b := ((A[i].1.data.length : Nat) : Int)) (c := ((bulkA ((A.take (i + 1)).map (·.1)) : Nat) : Int)) rfl rfl (by omega) (by omega) (by omega))) rfl (by kernel_rfl) ?_
   refine fl_eff1 15 [] [] (by kernel_rfl) ⟨obl_ld rfl rfl rfl (v_load rfl (hrd st.im)), obl_ld rfl rfl rfl (v_load rfl (hrk st.im)), trivial⟩ rfl ?_
   refine wl_val (v_assign' (by conv => (lhs; whnf))) rfl ?_
   refine wl_nil ⟨rfl, ?_⟩
   refine fl_nil (by kernel_rfl) trivial ?_
   refine block_go (then_go ?_)
   refine wc_region ?_
   refine wl_val (v_move' (by conv => (lhs; whnf))) rfl ?_
   refine wl_val (v_add' (c := ((i + 1 : Nat) : Int)) rfl rfl (by omega) (by omega) (by omega)) rfl ?_
   refine wl_val (v_assign' (by conv => (lhs; whnf))) rfl ?_
   refine wl_nil ?_
   refine then_go ?_
   exact ⟨q - 1, by simp; omega, i + 1, by omega, rfl, rfl, rfl, by omega, st⟩
  ·refine wc_exit (then_exit (then_exit (block_hit ?_)))
   refine then_go ?_
   refine wc_seq ?_
   refine wc_region ?_
   refine wl_val (v_move' (by conv => (lhs; whnf))) rfl ?_
   refine wl_val (v_leq rfl rfl) rfl ?_
   refine wl_val (v_assign' (by conv => (lhs; whnf))) rfl ?_
   refine wl_nil ?_
   refine then_go ?_
   refine wc_ret ?_
   refine ret1 (v := .bool (decide ((bulkA ((A.take i).map (·.1)) : Int) ≤ 20000))) rfl ⟨st.touch, _, rfl, fun h => ?_⟩
   have h1 := of_decide_eq_true h
   rw [Bool.and_eq_false_iff] at h15
   have hiA : i = A.length := by
    rcases h15 with h | h
    ·have := of_decide_eq_false h; omega
    ·have := of_decide_eq_false h; omega
   subst hiA
   rw [List.take_length] at h1
   exact ⟨by omega, by omega⟩
end
end Go.Proofs.YtladpaehbolghaaGreat

namespace Go.Proofs.YtladpaehbolghaaGreat
open Go Go.RowKit K SH GC JR OS
open DK hiding By
namespace OS
def BatsM (m : Mem) (v : Value) (L : List (List AcT × Value)) : Prop := SlM m v 1 L.length (L.map (·.2)) ∧ ∀ x ∈ L, AcsM m x.2 x.1
theorem BatsM.mono {m m' : Mem} {v : Value} {L : List (List AcT × Value)} (h : BatsM m v L) (hm : ∀ k o, m k = some o → m' k = some o) : BatsM m' v L := ⟨h.1.mono hm, fun x hx => (h.2 x hx).mono hm⟩
end OS
section
variable {m0 m : Mem} {wI w0 w : World} {Es : List Ent}
theorem OS.BatsM.at {v : Value} {L : List (List AcT × Value)} (h : BatsM m v L) {i : Nat} (hi : i < L.length) : ∃ b o c, v = .slice (some ⟨b, o, none⟩) L.length c ∧ ∀ {w : World} (_ : Im m w), Reads Tryz.prog w 22 ⟨b, o + i * 1, none⟩ L[i].2 := by
 obtain ⟨b, o, c, hv, _, hr⟩ := h.1.elem Tryz.prog (i := i) hi (by omega)
 refine ⟨b, o, c, hv, fun {w} him => ?_⟩
 have := hr him (off := 0) (v' := L[i].2) TF.t22 (by
  have e : cellsAt (L.map (·.2)) 1 i = [L[i].2] := by simp [cellsAt, List.drop_eq_getElem_cons, hi]
  rw [e]
  rfl)
 simpa using this
theorem c_few15 {lv : Value} {L : List (List AcT × Value)} (him : Im m wI) (hL : BatsM m lv L) (hs : ∀ x ∈ L, ShortA x.1) :
  Ret Tryz.prog 19 #[lv] wI fun v w' => Tch wI w' [] [] ∧ ∃ c : Bool, v = .bool c ∧ (c = true → L.length ≤ 20 ∧ ∀ x ∈ L, x.1.length ≤ 60 ∧ bulkA (x.1.map (·.1)) ≤ 20000) := by
 have st := St.start him
 obtain ⟨la, lc, rfl⟩ : ∃ a c, lv = .slice a L.length c := by obtain ⟨⟨_, a, c, h, _⟩, _⟩ := hL; exact ⟨a, c, h⟩
 refine ret_of Tryz.call19 Tryz.func19 rfl Tryz.ntmps19 Tryz.results19 rfl ?_
 refine wc_seq ?_
 refine wc_region ?_
 refine wl_val (v_assign' (by conv => (lhs; whnf))) rfl ?_
 refine wl_nil ?_
 refine then_go ?_
 refine wc_seq ?_
 refine wc_seq ?_
 refine wc_region ?_
 refine wl_val (v_move' (by conv => (lhs; whnf))) rfl ?_
 refine wl_val (v_len_s Tryz.underlying34 rfl) rfl ?_
 refine wl_val (v_gtr rfl rfl) rfl ?_
 refine wl_nil ?_
 refine then_go ?_
 refine wc_if rfl (fun h6 => ?_) (fun h6 => ?_)
 ·refine wc_seq ?_
  refine wc_region ?_
  refine wl_val (v_assign' (by conv => (lhs; whnf))) rfl ?_
  refine wl_nil ?_
  refine then_go ?_
  refine wc_ret (then_ret ?_)
  exact ret1 rfl ⟨st.touch, false, rfl, fun h => by cases h⟩
 ·refine wc_skip ?_
  refine then_go ?_
  refine wc_seq ?_
  refine wc_seq ?_
  refine wc_region ?_
  refine wl_val (v_assign' (by conv => (lhs; whnf))) rfl ?_
  refine wl_nil ?_
  refine then_go ?_
  refine wc_block ?_
  refine wc_loop (S := Nat) (fun q r w' => ∃ (i : Nat), q + i = L.length ∧ r 0 = .slice la L.length lc ∧ r 3 = .int .i64 i ∧ (∀ x ∈ L.take i, x.1.length ≤ 60 ∧ bulkA (x.1.map (·.1)) ≤ 20000) ∧ St m m [] wI w' []) id L.length ⟨0, by omega, rfl, rfl, by simp, st⟩ ?_
  clear st
  rintro q r w2 ⟨i, hqi, g0, g3, hbi, st⟩
  refine wc_o 0 g0 (wc_o 3 g3 ?_)
  refine wc_seq ?_
  refine wc_seq ?_
  refine wc_region ?_
  refine wl_val (v_move' (by conv => (lhs; whnf))) rfl ?_
  refine wl_val (v_move' (by conv => (lhs; whnf))) rfl ?_
  refine wl_val (v_len_s Tryz.underlying34 rfl) rfl ?_
  refine wl_val (v_lss rfl rfl) rfl ?_
  refine wl_nil ?_
  refine then_go ?_
  refine wc_if rfl (fun h10 => ?_) (fun h10 => ?_)
  ·refine wc_skip ?_
   refine then_go ?_
   refine wc_seq ?_
   refine wc_block ?_
   refine wc_seq ?_
   have hi : i < L.length := by omega
   obtain ⟨lb, lo, _, hla, hrk⟩ := hL.at hi
   cases hla
   refine wc_region ?_
   refine wl_val (v_move' (by conv => (lhs; whnf))) rfl ?_
   refine wl_val (v_move' (by conv => (lhs; whnf))) rfl ?_
   refine wl_val (v_ias i Tryz.underlying34 TF.t22 rfl rfl (by first | rfl | omega) (by first | omega | (dsimp only at *; omega))) rfl ?_
   refine wl_val (v_load rfl (hrk st.im)) rfl ?_
   refine wl_call rfl (c_light st.im (hL.2 _ (List.getElem_mem hi)) (hs _ (List.getElem_mem hi))) rfl ?_
   rintro v17 w ⟨t17, c, rfl, hc⟩
   have st := st.pure t17
   refine wl_val (v_not rfl) rfl ?_
   refine wl_nil ?_
   refine then_go ?_
   refine wc_cond rfl (fun h18 => ?_) (fun h18 => ?_)
   ·refine wc_seq ?_
    refine wc_region ?_
    refine wl_val (v_assign' (by conv => (lhs; whnf))) rfl ?_
    refine wl_nil ?_
    refine then_go ?_
    refine wc_ret (block_ret (then_ret (then_ret (block_ret (then_ret ?_)))))
    exact ret1 rfl ⟨st.touch, false, rfl, fun h => by cases h⟩
   ·refine wc_skip ?_
    refine block_go (then_go ?_)
    refine wc_region ?_
    refine wl_val (v_move' (by conv => (lhs; whnf))) rfl ?_
    refine wl_val (v_add' (c := ((i + 1 : Nat) : Int)) rfl rfl (by omega) (by omega) (by omega)) rfl ?_
    refine wl_val (v_assign' (by conv => (lhs; whnf))) rfl ?_
    refine wl_nil ?_
    refine then_go ?_
    refine ⟨q - 1, by simp; omega, i + 1, by omega, rfl, rfl, fun x hx => ?_, st⟩
    rw [List.take_succ_eq_append_getElem hi] at hx
    rcases List.mem_append.1 hx with hx | hx
    ·exact hbi x hx
    ·rw [List.mem_singleton.1 hx]; exact hc (by simpa using h18)
  ·refine wc_exit (then_exit (then_exit (block_hit ?_)))
   refine then_go ?_
   refine wc_seq ?_
   refine wc_region ?_
   refine wl_val (v_assign' (by conv => (lhs; whnf))) rfl ?_
   refine wl_nil ?_
   refine then_go ?_
   refine wc_ret ?_
   refine ret1 rfl ⟨st.touch, true, rfl, fun _ => ⟨by omega, fun x hx => hbi x ?_⟩⟩
   rw [List.take_of_length_le (by omega)]
   exact hx
theorem c_fresh15 {z : Int} (st : St m0 m [] w0 w Es) :
  Ret Tryz.prog 18 #[.int .i64 z] w fun v w' => ∃ m' b s wv g lv sb mb n S sl, 8 ≤ n ∧ n ≤ 47 ∧ LogOk n S sl [] ∧ sl.gen = 1 ∧ (∀ k o, m k = some o → m' k = some o) ∧ v = .tuple #[.pointer (some ⟨b, 0, none⟩), .pointer (some ⟨sb, 0, none⟩)] ∧ St m0 m' [] w0 w' (lgE g b s n sl lv wv S [] (stE sb g mb [] Es)) := by
 refine ret_of Tryz.call18 Tryz.func18 rfl Tryz.ntmps18 Tryz.results18 rfl ?_
 refine wc_seq ?_
 refine wc_region ?_
 refine wl_val (v_assign' (by conv => (lhs; whnf))) rfl ?_
 refine wl_val (v_assign' (by conv => (lhs; whnf))) rfl ?_
 refine wl_nil ?_
 refine then_go ?_
 refine wc_seq ?_
 obtain ⟨u, hu⟩ : ∃ u, u = IntKind.u64.wrap z := ⟨_, rfl⟩
 have hu0 : 0 ≤ u := by rw [hu, IntKind.wrap_u64]; omega
 obtain ⟨k, hk⟩ : ∃ k : Nat, u % 40 = k := ⟨(u % 40).toNat, (Int.toNat_of_nonneg (Int.emod_nonneg _ (by omega))).symm⟩
 have hkl : k < 40 := by omega
 refine wc_region ?_
 refine wl_val (v_move' (by conv => (lhs; whnf))) rfl ?_
 refine wl_val (v_to (v' := .int .u64 u) (v_conv Tryz.underlying3 Tryz.underlying47 rfl) (by rw [hu])) rfl ?_
 refine wl_val (v_rem' rfl rfl hu0 (by omega) hk) rfl ?_
 refine wl_val (v_to (v' := .int .i64 (k : Nat)) (v_conv Tryz.underlying47 Tryz.underlying3 rfl) (by rw [wrap_i64 (by omega) (by omega)])) rfl ?_
 refine wl_val (v_add' (c := ((8 + k : Nat) : Int)) rfl rfl (by omega) (by omega) (by omega)) rfl ?_
 refine wl_call rfl (c_new ((8 + k : Nat) : Int) st.im) rfl ?_
 intro v13 w h13
 rw [if_neg (by omega)] at h13
 obtain ⟨p, ⟨b, s, wv, rfl, t13, hE⟩, rfl⟩ := h13
 have st := st.new t13 hE
 obtain ⟨n, hn⟩ : ∃ n, n = 8 + k := ⟨_, rfl⟩
 have hn8 : 8 ≤ n := by omega
 have hn2 : n ≤ 47 := by omega
 have st : St m0 m [] w0 w (diskO b s n wv (calm (List.replicate (64 * n) 0)) :: Es) := by rw [hn]; exact st
 obtain ⟨S', s', ho, hlog, hgen⟩ := open_new hn8 (by omega : n ≤ 16384)
 refine wl_val (v_move' (by conv => (lhs; whnf))) rfl ?_
 refine wl_val (v_extract rfl rfl) rfl ?_
 refine wl_val (v_extract rfl rfl) rfl ?_
 refine wl_val (v_assign' (by conv => (lhs; whnf))) rfl ?_
 refine wl_val (v_assign' (by conv => (lhs; whnf))) rfl ?_
 refine wl_nil ?_
 refine then_go ?_
 refine wc_seq ?_
 refine wc_seq ?_
 refine wc_region ?_
 refine wl_val (v_move' (by conv => (lhs; whnf))) rfl ?_
 refine wl_val (wl_valD (v_neq rfl rfl) (q := false) rfl) rfl ?_
 refine wl_val (v_move' (by conv => (lhs; whnf))) rfl ?_
 refine wl_on rfl rfl ?_
 refine wl_val (v_move' (by conv => (lhs; whnf))) rfl ?_
 refine wl_on rfl rfl ?_
 refine wl_val (v_eq_nil (p := some ⟨b, 0, none⟩) Tryz.underlying35 rfl rfl) rfl ?_
 refine wl_val (v_pick rfl) rfl ?_
 refine wl_nil ?_
 refine then_go ?_
 refine wc_false rfl ?_
 refine wc_skip ?_
 refine then_go ?_
 refine wc_seq ?_
 refine wc_region ?_
 refine wl_val (v_move' (by conv => (lhs; whnf))) rfl ?_
 refine wl_call rfl (c_sopen st (by simp) hn8 (by omega) ho hlog) rfl ?_
 rintro v24 w ⟨g, sb, mb, m1, wv1, lv, N', L', rfl, hmm1, _, hN, _, _, hpL, st⟩
 have hN0 : N' = [] := List.map_eq_nil_iff.1 hN
 subst hN0
 have hL0 : L' = [] := List.map_eq_nil_iff.1 (List.nil_perm.1 hpL)
 subst hL0
 refine wl_val (v_move' (by conv => (lhs; whnf))) rfl ?_
 refine wl_val (v_extract rfl rfl) rfl ?_
 refine wl_val (v_extract rfl rfl) rfl ?_
 refine wl_val (v_assign' (by conv => (lhs; whnf))) rfl ?_
 refine wl_val (v_assign' (by conv => (lhs; whnf))) rfl ?_
 refine wl_nil ?_
 refine then_go ?_
 refine wc_seq ?_
 refine wc_seq ?_
 refine wc_region ?_
 refine wl_val (v_move' (by conv => (lhs; whnf))) rfl ?_
 refine wl_val (v_neq rfl rfl) rfl ?_
 refine wl_nil ?_
 refine then_go ?_
 refine wc_false rfl ?_
 refine wc_skip ?_
 refine then_go ?_
 refine wc_seq ?_
 refine wc_region ?_
 refine wl_val (v_move' (by conv => (lhs; whnf))) rfl ?_
 refine wl_val (v_move' (by conv => (lhs; whnf))) rfl ?_
 refine wl_val (v_assign' (by conv => (lhs; whnf))) rfl ?_
 refine wl_val (v_assign' (by conv => (lhs; whnf))) rfl ?_
 refine wl_nil ?_
 refine then_go ?_
 refine wc_ret ?_
 exact ret2 rfl rfl ⟨m1, b, s, wv1, g, lv, sb, mb, n, S', s', hn8, hn2, hlog, hgen, hmm1, rfl, st⟩
end
end Go.Proofs.YtladpaehbolghaaGreat

namespace Go.Proofs.YtladpaehbolghaaGreat
open Go Go.RowKit K SH DK JR
def actR (W : List By) (o : OpV) (n : Nat) : Nat := if o.ag = true then resR (o.M.map (·.1)) n else appR W o.B n
section
variable {m0 m : Mem} {w0 w : World} {Es : List Ent}
theorem JR.LogOk.few {n : Nat} {S : By} {s : LG} {L : List By} (h : LogOk n S s L) : L.length ≤ 8192 ∧ ∀ x ∈ L, x.length ≤ 1048576 := by
 have h1 := sizeL_ge (l := L)
 have h2 := h.fit
 have h3 := h.nle
 exact ⟨by omega, fun x hx => (h.okr x hx).2⟩
end
end Go.Proofs.YtladpaehbolghaaGreat

namespace Go.Proofs.YtladpaehbolghaaGreat
open Go Go.RowKit K SH GC JR OS
open DK hiding By
section
variable {m0 m : Mem} {w0 w : World} {Es : List Ent}
abbrev wkA (b : Nat) : List AcT := [(⟨[97], true, [120]⟩, .slice (some ⟨b, 0, none⟩) 1 1), (⟨[98], false, []⟩, .slice none 0 0)]
abbrev wkL : List Ac := [⟨[97], true, [120]⟩, ⟨[98], false, []⟩]
theorem wk_chk : chkL wkL = 0 := by
 unfold chkL
 rw [if_pos]
 refine ⟨by decide, ?_, by decide⟩
 intro a ha
 rcases List.mem_cons.1 ha with rfl | ha
 ·exact ⟨by decide, by decide, .inl rfl, by decide⟩
 ·rw [List.mem_singleton.1 ha]; exact ⟨by decide, by decide, .inr rfl, by decide⟩
theorem wk_done : doneS [] wkL = [([97], [120])] := by decide
theorem wk_app : applyR [] [] wkL 8 = ([([97], [120])], [batB wkL], 0) := by
 have h1 : (batB wkL).length ≤ 73 := by
  unfold batB
  rw [List.length_append]
  have h := flat_lenA (L := wkL) (by decide)
  have h2 : bulkA wkL + 30 * wkL.length = 63 := by decide
  have h3 := numB_len10 (n := wkL.length) (by decide)
  omega
 have h0 : 1 ≤ (batB wkL).length := by
  unfold batB
  rw [List.length_append]
  have := numB_pos (n := wkL.length)
  omega
 have h2 : appR [] (batB wkL) 8 = 0 := by
  unfold appR
  have hc : checkE (batB wkL) = 0 := by unfold checkE; rw [if_pos ⟨h0, by omega⟩]
  rw [if_neg (by rw [hc]; decide), if_pos]
  unfold sizeL recL
  simp
  omega
 unfold applyR
 rw [if_neg (by rintro (h | h); exact h wk_chk; cases h), if_pos h2, wk_done]
 rfl
theorem c_works15 (st : St m0 m [] w0 w Es) : Ret Tryz.prog 9 #[] w fun v w' => (∃ m', (∀ k o, m k = some o → m' k = some o) ∧ St m0 m' [] w0 w' Es) ∧ v = .bool true := by
 refine ret_of Tryz.call9 Tryz.func9 rfl Tryz.ntmps9 Tryz.results9 rfl ?_
 refine wc_seq ?_
 refine wc_region ?_
 refine wl_val (v_assign' (by conv => (lhs; whnf))) rfl ?_
 refine wl_nil ?_
 refine then_go ?_
 refine wc_seq ?_
 refine wc_region ?_
 refine wl_call rfl (c_new 8 st.im) rfl ?_
 intro v9 w h9
 rw [if_neg (by decide)] at h9
 obtain ⟨p, ⟨b, s, wv, rfl, t9, hE⟩, rfl⟩ := h9
 have st := st.new t9 hE
 obtain ⟨S1, s1, ho, hlog, hgen⟩ := open_new (n := 8) (by decide) (by decide)
 have st : St m0 m [] w0 w (diskO b s 8 wv (calm (List.replicate (64 * 8) 0)) :: Es) := st
 refine wl_val (v_move' (by conv => (lhs; whnf))) rfl ?_
 refine wl_val (v_extract rfl rfl) rfl ?_
 refine wl_val (v_extract rfl rfl) rfl ?_
 refine wl_val (v_assign' (by conv => (lhs; whnf))) rfl ?_
 refine wl_val (v_assign' (by conv => (lhs; whnf))) rfl ?_
 refine wl_nil ?_
 refine then_go ?_
 refine wc_seq ?_
 refine wc_seq ?_
 refine wc_region ?_
 refine wl_val (v_move' (by conv => (lhs; whnf))) rfl ?_
 refine wl_val (wl_valD (v_neq rfl rfl) (q := false) rfl) rfl ?_
 refine wl_val (v_move' (by conv => (lhs; whnf))) rfl ?_
 refine wl_on rfl rfl ?_
 refine wl_val (v_move' (by conv => (lhs; whnf))) rfl ?_
 refine wl_on rfl rfl ?_
 refine wl_val (v_eq_nil (p := some ⟨b, 0, none⟩) Tryz.underlying35 rfl rfl) rfl ?_
 refine wl_val (v_pick rfl) rfl ?_
 refine wl_nil ?_
 refine then_go ?_
 refine wc_false rfl ?_
 refine wc_skip ?_
 refine then_go ?_
 refine wc_seq ?_
 refine wc_region ?_
 refine wl_val (v_move' (by conv => (lhs; whnf))) rfl ?_
 refine wl_call rfl (c_sopen st List.length_replicate (by decide) (by decide) ho hlog) rfl ?_
 rintro v20 w ⟨g, sb, mb, m1, wv1, lv, N', L', rfl, hmm1, _, hN, _, _, hpL, st⟩
 have hN0 : N' = [] := List.map_eq_nil_iff.1 hN
 subst hN0
 have hL0 : L' = [] := List.map_eq_nil_iff.1 (List.nil_perm.1 hpL)
 subst hL0
 refine wl_val (v_move' (by conv => (lhs; whnf))) rfl ?_
 refine wl_val (v_extract rfl rfl) rfl ?_
 refine wl_val (v_extract rfl rfl) rfl ?_
 refine wl_val (v_assign' (by conv => (lhs; whnf))) rfl ?_
 refine wl_val (v_assign' (by conv => (lhs; whnf))) rfl ?_
 refine wl_nil ?_
 refine then_go ?_
 refine wc_seq ?_
 refine wc_seq ?_
 refine wc_region ?_
 refine wl_val (v_move' (by conv => (lhs; whnf))) rfl ?_
 refine wl_val (wl_valD (v_neq rfl rfl) (q := false) rfl) rfl ?_
 refine wl_val (v_move' (by conv => (lhs; whnf))) rfl ?_
 refine wl_on rfl rfl ?_
 refine wl_val (v_move' (by conv => (lhs; whnf))) rfl ?_
 refine wl_on rfl rfl ?_
 refine wl_val (v_eq_nil (p := some ⟨sb, 0, none⟩) Tryz.underlying36 rfl rfl) rfl ?_
 refine wl_val (v_pick rfl) rfl ?_
 refine wl_val (v_move' (by conv => (lhs; whnf))) rfl ?_
 refine wl_on rfl rfl ?_
 refine wl_val (v_move' (by conv => (lhs; whnf))) rfl ?_
 refine wl_on rfl rfl ?_
 refine wl_byte1 120 Tryz.underlying23 TF.t5 TF.z5 rfl st rfl ?_
 intro b31 w st
 refine wl_on rfl rfl ?_
 refine wl_constB Tryz.underlying23 Tryz.underlying5 rfl st (by simp) rfl ?_
 intro m2 w hmm2 hm2 st
 have hb31 : SlM m2 (.slice (some ⟨b31, 0, none⟩) 1 1) 1 [(120 : UInt8)].length (bs [120]) := by
  exact SlM.ofBlock (o := 0) (cap := 1) (l := [120]) (pre := []) (post := []) hm2 rfl rfl (Nat.le_refl _)
 refine wl_on rfl rfl ?_
 refine wl_val (v_build (c' := (acC ⟨[97], true, [120]⟩ (.slice (some ⟨b31, 0, none⟩) 1 1)).toArray) [(0, .string (strB [97])), (1, .bool true), (2, .slice (some ⟨b31, 0, none⟩) 1 1)] TF.z57 TF.p57 rfl (fill_one [] [.string ⟨#[]⟩] [.bool false, .slice none 0 0] rfl rfl rfl (fill_one [.string (strB [97])] [.bool false] [.slice none 0 0] rfl rfl rfl (fill_one [.string (strB [97]), .bool true] [.slice none 0 0] [] rfl rfl rfl rfl)))) rfl ?_
 refine wl_on rfl rfl ?_
 refine wl_val (v_build (c' := (acC ⟨[98], false, []⟩ (.slice none 0 0)).toArray) [(0, .string (strB [98]))] TF.z57 TF.p57 rfl (fill_one [] [.string ⟨#[]⟩] [.bool false, .slice none 0 0] rfl rfl rfl rfl)) rfl ?_
 refine wl_on rfl rfl ?_
 refine wl_lsTwo (acC ⟨[97], true, [120]⟩ (.slice (some ⟨b31, 0, none⟩) 1 1)) (acC ⟨[98], false, []⟩ (.slice none 0 0)) Tryz.underlying22 TF.t57 TF.z57 (by decide) (by decide) rfl rfl rfl rfl st rfl ?_
 intro b35 w st
 have st : St m0 m2 [] w0 w (acE (.slice (some ⟨b35, 0, none⟩) 2 2) (wkA b31) :: lgE g b s 8 s1 lv wv1 S1 [] (stE sb g mb [] Es)) := st.rowShut 0 (b := b35) (k := 2) (cap := 2) (size := 3) rfl (by decide) rfl (by decide) rfl
 obtain ⟨m3, hg3, hls, st⟩ := st.keepLs (i := 0) rfl (fun _ _ => rfl)
 have hA : AcsM m3 (.slice (some ⟨b35, 0, none⟩) 2 2) (wkA b31) := ⟨hls, fun a ha => by
  rcases List.mem_cons.1 ha with rfl | ha
  ·exact ⟨by show 1 ≤ 9223372036854775807; omega, hb31.mono hg3.le⟩
  ·rw [List.mem_singleton.1 ha]; exact ⟨by show 1 ≤ 9223372036854775807; omega, SlM.nil⟩⟩
 have st : St m0 m3 [] w0 w (lgE g b s 8 s1 lv wv1 S1 [] (stE sb g mb [] Es)) := st
 have hmm3 : ∀ k o, m k = some o → m3 k = some o := fun k o h => hg3.le k o (hmm2 k o (hmm1 k o h))
 refine wl_on rfl rfl ?_
 refine wl_call rfl (c_sapply (N := []) (L := []) (M := []) st hlog (by rw [hgen]; decide) (by intro x hx; cases hx) (by intro x hx; cases hx) (by simp [Risen]) (List.Perm.refl _) hA (by simp) (by decide) (by simp [bulkK, bulkA])) rfl ?_
 rintro v36 w ⟨m4, wv4, lv4, N4, S4, sl4, L4, hmm4, rfl, _, _, _, _, _, hL4, _, hp4, st⟩
 have hap : applyR [] (([] : List (By × Value)).map (·.1)) ((wkA b31).map (·.1)) 8 = ([([97], [120])], [batB wkL], 0) := wk_app
 rw [hap] at hp4 ⊢
 refine wl_on rfl rfl ?_
 refine wl_val (wl_valD (v_neq rfl rfl) (q := false) rfl) rfl ?_
 refine wl_val (v_pick rfl) rfl ?_
 refine wl_nil ?_
 refine then_go ?_
 refine wc_false rfl ?_
 refine wc_skip ?_
 refine then_go ?_
 refine wc_seq ?_
 refine wc_region ?_
 refine wl_val (v_move' (by conv => (lhs; whnf))) rfl ?_
 refine wl_call rfl (c_sget (k := [97]) st hL4 (by simp [Risen]) hp4 (by simp)) rfl ?_
 rintro v41 w ⟨u, hv41, st⟩
 have e41 : getKV ([97] : By) ([([97], [120])] : Kys) = some [120] := by decide
 rw [e41] at hv41 st
 subst hv41
 obtain ⟨m5, hg5, hm5, st5⟩ := st.freezeR (i := 0) rfl (by simp)
 have hu : SlM m5 u 1 [(120 : UInt8)].length (bs [120]) := row_SlM (m := m5) (st.at (i := 0) rfl) hm5
 have st : St m0 m5 [] w0 w (lgE g b s 8 sl4 lv4 wv4 S4 N4 (stE sb g mb L4 Es)) := st5
 have hL5 := hL4.mono hg5.le
 refine wl_val (v_move' (by conv => (lhs; whnf))) rfl ?_
 refine wl_val (v_extract rfl rfl) rfl ?_
 refine wl_val (v_extract rfl rfl) rfl ?_
 refine wl_val (v_assign' (by conv => (lhs; whnf))) rfl ?_
 refine wl_val (v_assign' (by conv => (lhs; whnf))) rfl ?_
 refine wl_nil ?_
 refine then_go ?_
 refine wc_seq ?_
 refine wc_region ?_
 refine wl_val (v_move' (by conv => (lhs; whnf))) rfl ?_
 refine wl_call rfl (c_sget (k := [98]) st hL5 (by simp [Risen]) hp4 (by simp)) rfl ?_
 rintro v46 w ⟨u2, hv46, st⟩
 have e46 : getKV ([98] : By) ([([97], [120])] : Kys) = none := by decide
 rw [e46] at hv46 st
 subst hv46
 have st : St m0 m5 [] w0 w (lgE g b s 8 sl4 lv4 wv4 S4 N4 (stE sb g mb L4 Es)) := st.drop 0
 refine wl_val (v_move' (by conv => (lhs; whnf))) rfl ?_
 refine wl_val (v_extract rfl rfl) rfl ?_
 refine wl_val (v_extract rfl rfl) rfl ?_
 refine wl_val (v_assign' (by conv => (lhs; whnf))) rfl ?_
 refine wl_val (v_assign' (by conv => (lhs; whnf))) rfl ?_
 refine wl_nil ?_
 refine then_go ?_
 refine wc_seq ?_
 refine wc_region ?_
 refine wl_val (v_move' (by conv => (lhs; whnf))) rfl ?_
 refine wl_val (v_move' (by conv => (lhs; whnf))) rfl ?_
 refine wl_on rfl rfl ?_
 refine wl_val (v_move' (by conv => (lhs; whnf))) rfl ?_
 refine wl_on rfl rfl ?_
 refine wl_val (v_b2s Tryz.underlying23 Tryz.underlying5 Tryz.underlying9 st.im hu rfl) rfl ?_
 refine wl_on rfl rfl ?_
 refine wl_val (wl_valD (v_eqs (a := [120]) (b := [120]) rfl rfl) (q := true) rfl) rfl ?_
 refine wl_val (v_pick rfl) rfl ?_
 refine wl_val (v_move' (by conv => (lhs; whnf))) rfl ?_
 refine wl_on rfl rfl ?_
 refine wl_val (v_move' (by conv => (lhs; whnf))) rfl ?_
 refine wl_on rfl rfl ?_
 refine wl_val (v_not rfl) rfl ?_
 refine wl_val (v_pick rfl) rfl ?_
 refine wl_val (v_move' (by conv => (lhs; whnf))) rfl ?_
 refine wl_on rfl rfl ?_
 refine wl_val (v_move' (by conv => (lhs; whnf))) rfl ?_
 refine wl_on rfl rfl ?_
 refine wl_call rfl (c_slen st) rfl ?_
 rintro v61 w ⟨t61, rfl⟩
 have st := st.pure t61
 have hl4 : L4.length = 1 := by have := hp4.length_eq; rw [length_kvs] at this; exact this.symm
 refine wl_on rfl rfl ?_
 refine wl_val (v_eqlT (by rw [hl4]; rfl) rfl rfl) rfl ?_
 refine wl_val (v_pick rfl) rfl ?_
 refine wl_val (v_assign' (by conv => (lhs; whnf))) rfl ?_
 refine wl_nil ?_
 refine then_go ?_
 refine wc_ret ?_
 exact ret1 rfl ⟨⟨m5, fun k o h => hg5.le k o (hmm4 k o (hmm3 k o h)), ((((st.drop 0).drop 0).drop 0).drop 0).drop 0⟩, rfl⟩
end
end Go.Proofs.YtladpaehbolghaaGreat

namespace Go.Proofs.YtladpaehbolghaaGreat
open Go Go.RowKit K SH GC JR OS
open DK hiding By
end Go.Proofs.YtladpaehbolghaaGreat

namespace Go.Proofs.YtladpaehbolghaaGreat
open Go Go.RowKit Go.ChangeShapes Go.WideShapes K SH GC JR OS
open DK hiding By
theorem flat_map1 {α β : Type} (f : α → β) : ∀ L : List α, L.flatMap (fun y => [f y]) = L.map f
 | [] => rfl
 | y :: L => by rw [List.flatMap_cons, flat_map1 f L]; rfl
section
variable {H : Type} {enc : TypeId × Value → H} {w : World} {sp : Nat → Bool} {held : Bool} {fuel : Nat} {x : DataW H × List MemPlace} {v : Value} {cs : List Value}
theorem trod_strB (h : DataW.trod enc Tryz.prog w 0 sp held fuel 9 cs = some x) : ∃ s : By, cs = [.string (strB s)] ∧ s.length ≤ 9223372036854775807 ∧ s.length ≤ Rows.uptoBulk x.1 := by
 obtain ⟨s, q, hd, hs⟩ := DataW.trod_string Tryz.underlying9 h
 refine ⟨s.data.toList, by rw [q]; rfl, by unfold maxLen at hs; simpa using hs, ?_⟩
 rw [hd]
 simp [Rows.uptoBulk]
theorem trod_ac (h : DataW.trod enc Tryz.prog w 0 sp held fuel 57 cs = some x) : ∃ a : AcT, cs = acP a ∧ AcOk (heapM w) a.1 a.2 ∧ a.1.key.length ≤ Rows.uptoBulk x.1 ∧ a.1.data.length ≤ Rows.uptoBulk x.1 := by
 have hl := trod_len Tryz.underlying57 TF.t57 h
 obtain ⟨_, y0, e0, hy0⟩ := trod_segB TF.f57_0 TF.t9 h
 obtain ⟨_, _, e1⟩ := trod_seg TF.f57_1 TF.t4 h
 obtain ⟨_, y2, e2, hy2⟩ := trod_segB TF.f57_2 TF.t23 h
 match cs, hl with
 | [a, b, c], _ =>
  obtain ⟨k, q0, hk1, hk2⟩ := trod_strB e0
  obtain ⟨s, q1⟩ := trod_bo e1
  obtain ⟨d, hd, hdl⟩ := open_bytesB (v := c) e2
  have q0 : [a] = [.string (strB k)] := q0
  have q1 : [b] = [.bool s] := q1
  rw [List.cons.injEq] at q0 q1
  exact ⟨(⟨k, s, d⟩, c), by rw [q0.1, q1.1]; rfl, ⟨hk1, hd⟩, Nat.le_trans hk2 hy0, Nat.le_trans hdl hy2⟩
theorem open_actsB (h : DataW.trod enc Tryz.prog w 0 sp held fuel 22 [v] = some x) : ∃ A : List AcT, AcsM (heapM w) v A ∧ A.length ≤ Rows.uptoBulk x.1 ∧ ∀ a ∈ A, a.1.key.length ≤ Rows.uptoBulk x.1 ∧ a.1.data.length ≤ Rows.uptoBulk x.1 := by
 obtain ⟨A, h1, h2, h3⟩ := trod_listB (c := acP) (Q := fun a n => AcOk (heapM w) a.1 a.2 ∧ a.1.key.length ≤ n ∧ a.1.data.length ≤ n) Tryz.underlying22 TF.t57 (by decide) (fun h => by obtain ⟨o, q1, q2, q3⟩ := trod_ac h; exact ⟨o, q1, q2, q3⟩) (fun h hle => ⟨h.1, Nat.le_trans h.2.1 hle, Nat.le_trans h.2.2 hle⟩) h
 exact ⟨A, ⟨h1, fun a ha => (h2 a ha).1⟩, h3, fun a ha => (h2 a ha).2⟩
theorem open_batsB (h : DataW.trod enc Tryz.prog w 0 sp held fuel 34 [v] = some x) : ∃ L : List (List AcT × Value), BatsM (heapM w) v L ∧ L.length ≤ Rows.uptoBulk x.1 ∧ ∀ y ∈ L, y.1.length ≤ Rows.uptoBulk x.1 ∧ ∀ a ∈ y.1, a.1.key.length ≤ Rows.uptoBulk x.1 ∧ a.1.data.length ≤ Rows.uptoBulk x.1 := by
 obtain ⟨L, h1, h2, h3⟩ := trod_listB (c := fun y : List AcT × Value => [y.2]) (Q := fun y n => AcsM (heapM w) y.2 y.1 ∧ y.1.length ≤ n ∧ ∀ a ∈ y.1, a.1.key.length ≤ n ∧ a.1.data.length ≤ n) Tryz.underlying34 TF.t22 (by decide) (fun {n y cs} h => by
  obtain ⟨u, rfl⟩ : ∃ u, cs = [u] := by
   rcases DataW.trod_slice Tryz.underlying22 h with ⟨h1, _⟩ | h1
   ·exact ⟨_, h1⟩
   ·obtain ⟨_, _, _, _, _, _, _, h1, _⟩ := h1
    exact ⟨_, h1⟩
  obtain ⟨A, q1, q2, q3⟩ := open_actsB h
  exact ⟨(A, u), rfl, q1, q2, q3⟩) (fun h hle => ⟨h.1, Nat.le_trans h.2.1 hle, fun a ha => ⟨Nat.le_trans (h.2.2 a ha).1 hle, Nat.le_trans (h.2.2 a ha).2 hle⟩⟩) h
 have e : L.flatMap (fun y : List AcT × Value => [y.2]) = L.map (·.2) := flat_map1 _ L
 have hr := h1.row
 rw [e] at hr
 exact ⟨L, ⟨hr, fun a ha => (h2 a ha).1⟩, h3, fun a ha => (h2 a ha).2⟩
set_option maxRecDepth 100000 in
theorem open_str {W : World} {r : Reach} {base : Nat} {d : DataW H} {p : List MemPlace} (hv : Value.okWide Tryz.prog W r base 9 v) (h : DataW.Trod enc Tryz.prog w 0 sp held 9 v d p) : ∃ s : By, v = .string (strB s) ∧ s.length ≤ 9223372036854775807 := by
 obtain ⟨s, rfl⟩ := okWide_string Tryz.underlying9 hv
 obtain ⟨fu, hf⟩ := h
 obtain ⟨l, q, hl, _⟩ := trod_strB hf
 exact ⟨l, by simpa [Value.cells] using q, hl⟩
theorem shortA {A : List AcT} {n : Nat} (h1 : A.length ≤ n) (h2 : ∀ a ∈ A, a.1.key.length ≤ n ∧ a.1.data.length ≤ n) (hn : n ≤ 1048576) : ShortA A := ⟨Nat.le_trans h1 hn, fun a ha => ⟨Nat.le_trans (h2 a ha).1 hn, Nat.le_trans (h2 a ha).2 hn⟩⟩
end
end Go.Proofs.YtladpaehbolghaaGreat

namespace Go.Proofs.YtladpaehbolghaaGreat
open Go Go.RowKit K SH GC JR OS
open DK hiding By
theorem v_eq_nilfunc {P : Program} {r : Fr} {w : World} {ty : TypeId} {T U : TypeId} {x y : Operand} {ps rs : Array TypeId} {vd : Bool} {f : Fn} {a b : Array Value} (hT : P.underlying T = some (.func ps rs vd)) (hx : ev r x = .func f a b) (hy : ev r y = .nilFunc) : Val P (.binOp .eql T x y U) ty r w (.bool false) w := by
 intro _ _ _ _
 have h : (Op.equal T (.func f a b) .nilFunc).run P w = .ok false w := by
  unfold Op.equal
  rw [show Op.maxDepth = 9999 + 1 from rfl, Op.equalIn]
  simp only [Sem.run_bind, run_underlying hT, Result.andThen_ok]
  rfl
 simp [execOp, eqGuard, binOp, hx, hy, h]
section
variable {m0 m : Mem} {F : List Nat} {w0 w : World} {Es Xs : List Ent}
theorem c_slenX {sb mb g : Nat} {L : List (By × DV)} (i : Nat) (st : St m0 m F w0 w Xs) (hi : Xs[i]? = some (K.blk sb #[.pointer (some ⟨g, 0, none⟩), .map (some mb)] 95)) (hj : Xs[i + 1]? = some (kmE mb L)) :
  Ret Tryz.prog 34 #[.pointer (some ⟨sb, 0, none⟩)] w fun v w' => Tch w w' [] [] ∧ v = .int .i64 L.length := by
 refine ret_of Tryz.call34 Tryz.func34 rfl Tryz.ntmps34 Tryz.results34 rfl ?_
 refine wc_seq ?_
 refine wc_region ?_
 refine wl_val (v_assign' (by conv => (lhs; whnf))) rfl ?_
 refine wl_nil ?_
 refine then_go ?_
 refine wc_seq ?_
 refine wc_region ?_
 refine wl_val (v_move' (by conv => (lhs; whnf))) rfl ?_
 refine wl_val (v_nil rfl) rfl ?_
 refine wl_val (v_fa TF.f95_1 rfl) rfl ?_
 refine wl_val (v_load rfl (st.reads (v := .map (some mb)) i hi TF.t93 rfl)) rfl ?_
 refine wl_val (v_mapLen (i + 1) st hj Tryz.underlying93 rfl) rfl ?_
 refine wl_val (v_assign' (by conv => (lhs; whnf))) rfl ?_
 refine wl_nil ?_
 refine then_go ?_
 refine wc_ret ?_
 exact ret1 rfl ⟨Tch.refl _ _, rfl⟩
abbrev alE (kv vv : Value) (E : List (By × DV)) (T : List Ent → List Ent) (Es : List Ent) : List Ent := ksE kv E :: vsE vv E :: T (rowsE (E.map (·.2)) ++ Es)
theorem kvs_app {A B : List (By × DV)} : kvs (A ++ B) = kvs A ++ kvs B := List.map_append ..
theorem c_sallK {sb mb g b s n : Nat} {sl : LG} {lv wv : Value} {S : By} {N : List (By × Value)} {L : List (By × DV)} {M : Kys}
  (st : St m0 m [] w0 w (lgE g b s n sl lv wv S N (stE sb g mb L Es))) (hL : KvOk m L) (hM : Risen M) (hp : M.Perm (kvs L)) (hl : L.length ≤ 1000000) :
  Ret Tryz.prog 28 #[.pointer (some ⟨sb, 0, none⟩)] w fun v w' => ∃ kv vv E m', v = .tuple #[.agg #[kv, vv], .bool true] ∧ kvs E = M ∧ (∀ k o, m k = some o → m' k = some o) ∧ St m0 m' [] w0 w' (alE kv vv E (fun X => lgE g b s n sl lv wv S N (stE sb g mb L X)) Es) := by
 have hMl : M.length = L.length := by have := hp.length_eq; rw [length_kvs] at this; exact this
 refine ret_ofX Tryz.call28 Tryz.func28 rfl Tryz.ntmps28 Tryz.results28 rfl ?_
 refine wx_seqc ?_
 refine wc_region ?_
 refine wl_box (v := .pointer (some ⟨sb, 0, none⟩)) rfl st rfl ?_
 intro b1 w st
 refine wl_alloc TF.z43 st rfl ?_
 intro b2 w st
 refine wl_alloc TF.z4 st rfl ?_
 intro b3 w st
 refine wl_nil ?_
 refine then_go ?_
 refine wx_seqc ?_
 refine wc_region ?_
 refine wl_val (v_build (c' := #[.slice none 0 0, .slice none 0 0]) [] TF.z43 TF.p43 rfl rfl) rfl ?_
 refine wl_alloc TF.z43 st rfl ?_
 intro b4 w st
 refine wl_storeW (cs := #[.slice none 0 0, .slice none 0 0]) 0 st rfl TF.t43 rfl rfl rfl rfl (by simp [Value.oneCell']) ?_
 intro w st
 refine wl_nil ?_
 refine then_go ?_
 refine wx_seqc ?_
 refine wc_region ?_
 refine wl_val (v_load rfl (st.reads (v := .pointer (some ⟨sb, 0, none⟩)) 3 rfl TF.t36 rfl)) rfl ?_
 have st : St m0 m [] w0 w ([K.blk b4 #[.slice none 0 0, .slice none 0 0] 43, K.blk b3 #[.bool false] 4, K.blk b2 #[.slice none 0 0, .slice none 0 0] 43, K.blk b1 #[.pointer (some ⟨sb, 0, none⟩)] 36] ++ (lgE g b s n sl lv wv S N (stE sb g mb L []) ++ Es)) := st
 have st := st.perm (show List.Perm _ (lgE g b s n sl lv wv S N (stE sb g mb L []) ++ ([K.blk b4 #[.slice none 0 0, .slice none 0 0] 43, K.blk b3 #[.bool false] 4, K.blk b2 #[.slice none 0 0, .slice none 0 0] 43, K.blk b1 #[.pointer (some ⟨sb, 0, none⟩)] 36] ++ Es)) by rw [← List.append_assoc, ← List.append_assoc]; exact List.perm_append_comm.append_right _)
 refine wl_call rfl (c_sall st hL hM hp (by omega)) rfl ?_
 rintro v10 w ⟨ba, m1, av, A, rfl, hmm1, hA, hAM, hba, st⟩
 have st : St m0 m1 [] w0 w (lgE g b s n sl lv wv S N (stE sb g mb L []) ++ ([K.blk b4 #[.slice none 0 0, .slice none 0 0] 43, K.blk b3 #[.bool false] 4, K.blk b2 #[.slice none 0 0, .slice none 0 0] 43, K.blk b1 #[.pointer (some ⟨sb, 0, none⟩)] 36] ++ Es)) := st
 have st := st.perm (show List.Perm _ ([K.blk b4 #[.slice none 0 0, .slice none 0 0] 43, K.blk b3 #[.bool false] 4, K.blk b2 #[.slice none 0 0, .slice none 0 0] 43, K.blk b1 #[.pointer (some ⟨sb, 0, none⟩)] 36] ++ (lgE g b s n sl lv wv S N (stE sb g mb L []) ++ Es)) by rw [← List.append_assoc, ← List.append_assoc]; exact List.perm_append_comm.append_right _)
 have st := nilRow st 23 1
 have st := nilRow st 9 1
 have hAl : A.length = M.length := by have := congrArg List.length hAM; simpa [actsOf] using this
 have hAe : ∀ i (h : i < A.length), A[i].1 = ⟨(M[i]'(by omega)).1, true, (M[i]'(by omega)).2⟩ := fun i h => by
  have h1 : (A.map (·.1))[i]'(by simpa using h) = (actsOf M)[i]'(by simp [actsOf]; omega) := by simp [hAM]
  simpa [actsOf] using h1
 have hAd : ∀ a ∈ A, a.1.data.length ≤ 1048576 := fun a ha => by
  have h1 : a.1 ∈ actsOf M := by rw [← hAM]; exact List.mem_map.2 ⟨a, ha, rfl⟩
  obtain ⟨z, hz, e⟩ := List.mem_map.1 h1
  obtain ⟨y, hy, e2⟩ := List.mem_map.1 (hp.mem_iff.1 hz)
  rw [← e, ← e2]
  exact (hL y hy).2.1
 obtain ⟨T, hT⟩ : ∃ T : List Ent → List Ent, T = fun X => lgE g b s n sl lv wv S N (stE sb g mb L X) := ⟨_, rfl⟩
 have st : St m0 m1 [] w0 w (ksE (.slice none 0 0) [] :: vsE (.slice none 0 0) [] :: K.blk b4 #[.slice none 0 0, .slice none 0 0] 43 :: K.blk b3 #[.bool false] 4 :: K.blk b2 #[.slice none 0 0, .slice none 0 0] 43 :: K.blk b1 #[.pointer (some ⟨sb, 0, none⟩)] 36 :: lgE g b s n sl lv wv S N (stE sb g mb L (rowsE (([] : List (By × DV)).map (·.2)) ++ Es))) := st
 refine wl_val (v_assign' (by conv => (lhs; whnf))) rfl ?_
 refine wl_nil ?_
 refine then_go ?_
 refine wx_seqc ?_
 refine wc_seq ?_
 refine wc_region ?_
 refine wl_val (v_move' (by conv => (lhs; whnf))) rfl ?_
 refine wl_val (v_eq_nilfunc Tryz.underlying64 rfl rfl) rfl ?_
 refine wl_nil ?_
 refine then_go ?_
 refine wc_false rfl ?_
 refine wc_skip ?_
 refine then_go ?_
 refine wx_cut (fun ds r w' => ∃ (D l : Nat) (o : Obj) (kv vv : Value) (E : List (By × DV)), ds = [K.mark D] ∧ r 2 = .pointer (some ⟨b2, 0, none⟩) ∧ r 3 = .pointer (some ⟨b3, 0, none⟩) ∧ r 4 = .pointer (some ⟨b4, 0, none⟩) ∧ kvs E = M ∧ kv.oneCell' = true ∧ vv.oneCell' = true ∧ St m0 m1 [] w0 w' (objE l o :: objE D (.deferred (some [])) :: ksE kv E :: vsE vv E :: K.blk b4 #[kv, vv] 43 :: K.blk b3 #[.bool false] 4 :: K.blk b2 #[.slice none 0 0, .slice none 0 0] 43 :: K.blk b1 #[.pointer (some ⟨sb, 0, none⟩)] 36 :: lgE g b s n sl lv wv S N (stE sb g mb L (rowsE (E.map (·.2)) ++ Es)))) ?_ ?_
 ·refine wx_seqc ?_
  refine wc_region ?_
  refine wl_val (v_move' (by conv => (lhs; whnf))) rfl ?_
  refine wl_nil ?_
  refine then_go ?_
  refine wx_block ?_
  refine wx_range (lb := [.pointer (some ⟨ba, 0, none⟩)]) rfl Tryz.call64 st ?_
  intro l D fn tmps rec w1 hrec htm hval st
  refine Calls.mono (c_sall1 (l := l) (mA := m1)
   (J := fun i W => ∃ (kv vv : Value) (E : List (By × DV)), kvs E = M.take i ∧ kv.oneCell' = true ∧ vv.oneCell' = true ∧ St m0 m1 [] w0 W (objE l (.loop (rec .ready none)) :: objE D (.deferred (some [])) :: ksE kv E :: vsE vv E :: K.blk b4 #[kv, vv] 43 :: K.blk b3 #[.bool false] 4 :: K.blk b2 #[.slice none 0 0, .slice none 0 0] 43 :: K.blk b1 #[.pointer (some ⟨sb, 0, none⟩)] 36 :: lgE g b s n sl lv wv S N (stE sb g mb L (rowsE (E.map (·.2)) ++ Es))))
   (Jx := fun _ => False) (fun _ _ ⟨_, _, _, _, _, _, h⟩ => h.im) ?_ hA (by omega) hAd ⟨_, _, [], rfl, rfl, rfl, st⟩ (st.readm hba TF.t22 (by first | rfl | exact getV_all rfl))).2 ?_
  rintro i W W2 u hi ⟨kv, vv, E, hE, o1, o2, st⟩ sN
  have hiM : i < M.length := by omega
  rw [hAe i hi] at sN ⊢
  have st := st.newOf sN
  have st := st.perm (List.perm_middle (l₁ := [_, _, _, _, _, _, _, _, _, _, _, _, _])).symm
  have hE' : kvs (E ++ [(M[i].1, M[i].2, u)]) = M.take (i + 1) := by rw [kvs_app, hE, List.take_succ_eq_append_getElem hiM]; rfl
  have hEl : E.length = i := by have := congrArg List.length hE; rw [length_kvs, List.length_take] at this; omega
  have hrows : byE u M[i].2 :: (rowsE (E.map (·.2)) ++ Es) = rowsE ((E ++ [(M[i].1, M[i].2, u)]).map (·.2)) ++ Es := by simp [rowsE]
  have st : St m0 m1 [] w0 W2 (objE l (.loop (rec .ready none)) :: objE D (.deferred (some [])) :: ksE kv E :: vsE vv E :: K.blk b4 #[kv, vv] 43 :: K.blk b3 #[.bool false] 4 :: K.blk b2 #[.slice none 0 0, .slice none 0 0] 43 :: K.blk b1 #[.pointer (some ⟨sb, 0, none⟩)] 36 :: lgE g b s n sl lv wv S N (stE sb g mb L (rowsE ((E ++ [(M[i].1, M[i].2, u)]).map (·.2)) ++ Es))) := by rw [← hrows]; exact st
  have hu1 : u.oneCell' = true := byE_one sN 0 rfl
  obtain ⟨ka, kc, hkv⟩ := row_sl (st.at (i := 2) rfl)
  subst hkv
  refine yield_round hrec (st.at (i := 0) rfl) rfl htm hval rfl ?_
  ·refine wi_seq ?_
   refine wi_region (by kernel_rfl) (fun _ _ h => h) ?_
   refine wl_val (v_assign' (by conv => (lhs; whnf))) rfl ?_
   refine wl_nil ?_
   refine then_go ?_
   refine wi_region (by kernel_rfl) (fun _ _ h => h) ?_
   refine wl_val (v_assign' (by conv => (lhs; whnf))) rfl ?_
   refine wl_nil ?_
   refine then_go ⟨st.at (i := 0) rfl, ?_⟩
   have st := st.putObj 0 (.loop (rec .busy none)) rfl
   refine wi_block ?_
   refine wi_seq ?_
   refine wi_seq ?_
   refine wi_draw TF.mixed (by kernel_rfl) (fun _ _ h => h) ?_
   have st := st.pure (touch_drew _)
   refine fl_val 0 rfl (fun _ => (v_fa TF.f43_0 rfl)) rfl (by kernel_rfl) ?_
   refine fl_ld 1 rfl (v_load rfl (st.reads (v := .slice ka E.length kc) 4 rfl TF.t40 rfl)) (by kernel_rfl) ?_
   refine fl_val 2 rfl (fun _ => (v_len_s Tryz.underlying40 rfl)) rfl (by kernel_rfl) ?_
   refine fl_ld 3 rfl (v_load rfl (st.reads (v := .pointer (some ⟨sb, 0, none⟩)) 7 rfl TF.t36 rfl)) (by kernel_rfl) ?_
   refine fl_eff1 4 [2, 0] [1] (by kernel_rfl) ⟨obl_ld rfl rfl rfl (v_load rfl (st.reads (v := .pointer (some ⟨sb, 0, none⟩)) 7 rfl TF.t36 rfl)), obl_ld rfl rfl rfl (v_load rfl (st.reads (v := .slice ka E.length kc) 4 rfl TF.t40 rfl)), trivial⟩ rfl ?_
   refine wl_call rfl (c_slenX 11 st rfl rfl) rfl ?_
   rintro v21 w ⟨t21, rfl⟩
   have st := st.pure t21
   refine wl_nil ⟨rfl, ?_⟩
   refine fl_val 5 rfl (fun _ => (wl_valD (v_gtr (a := (E.length : Int)) (b := (L.length : Int)) rfl rfl) (q := false) (decide_eq_false (by omega)))) rfl (by kernel_rfl) ?_
   refine fl_nil (by kernel_rfl) ⟨obl_ld rfl rfl rfl (v_load rfl (st.reads (v := .slice ka E.length kc) 4 rfl TF.t40 rfl)), trivial⟩ ?_
   refine then_go ?_
   refine wi_false rfl ?_
   refine wi_skip ?_
   refine then_go ?_
   refine wi_seq ?_
   refine wi_region (by kernel_rfl) (fun _ _ h => h) ?_
   refine wl_val (v_fa TF.f43_0 rfl) rfl ?_
   refine wl_val (v_load rfl (st.reads (v := .slice ka E.length kc) 4 rfl TF.t40 rfl)) rfl ?_
   refine wl_val (v_move' (by conv => (lhs; whnf))) rfl ?_
   refine wl_rwOne (v := .string (strB M[i].1)) Tryz.underlying40 TF.t9 TF.z9 rfl rfl rfl st rfl ?_
   intro b27 w st
   refine wl_rwPut (fun x : By × DV => .string (strB x.1)) 2 (e := (M[i].1, M[i].2, u)) st rfl Tryz.underlying40 TF.t9 TF.z9 rfl rfl rfl rfl (by omega) (by omega) rfl ?_
   intro v28 w st o28
   refine wl_val (v_fa TF.f43_0 rfl) rfl ?_
   refine wl_store1 (v := v28) 4 st rfl TF.t40 rfl rfl o28 (lt_ok rfl) ?_
   intro w st
   refine wl_nil ?_
   refine then_go ?_
   refine wi_region (by kernel_rfl) (fun _ _ h => h) ?_
   refine wl_val (v_fa TF.f43_1 rfl) rfl ?_
   refine wl_val (v_load rfl (st.reads (v := vv) 4 rfl TF.t41 rfl)) rfl ?_
   refine wl_val (v_move' (by conv => (lhs; whnf))) rfl ?_
   refine wl_rwOne (v := u) Tryz.underlying41 TF.t23 TF.z23 rfl hu1 rfl st rfl ?_
   intro b33 w st
   refine wl_rwPut (fun x : By × DV => x.2.2) 3 (e := (M[i].1, M[i].2, u)) st rfl Tryz.underlying41 TF.t23 TF.z23 rfl hu1 rfl rfl (by omega) (by omega) rfl ?_
   intro v34 w st o34
   refine wl_val (v_fa TF.f43_1 rfl) rfl ?_
   refine wl_store1 (v := v34) 4 st rfl TF.t41 rfl rfl o34 (lt_ok rfl) ?_
   intro w st
   refine wl_nil ?_
   refine block_go ?_
   exact ⟨st.at (i := 0) rfl, .inl ⟨rfl, v28, v34, _, hE', o28, o34, st.putObj 0 _ rfl⟩⟩
  rintro e W ⟨v, rfl, ⟨kv, vv, E, hE, o1, o2, st⟩ | hF⟩
  ·have st2 := st.putObj 0 (.loop (rec .exhausted none)) rfl
   rw [List.take_of_length_le (by omega)] at hE
   exact ⟨v, rfl, .ready, none, by simp, st.at (i := 0) rfl, D, l, _, kv, vv, E, rfl, rfl, rfl, rfl, hE, o1, o2, st2⟩
  ·exact hF.elim
 ·clear st
  rintro ds r w ⟨D, l, o, kv, vv, E, rfl, h2, h3, h4, hE, o1, o2, st⟩
  refine wx_of_wc (wc_o 2 h2 (wc_o 3 h3 (wc_o 4 h4 ?_)))
  refine wc_seq ?_
  refine wc_region ?_
  refine wl_val (v_load rfl (st.reads (v := .agg #[kv, vv]) 4 rfl TF.t43 (getV_all rfl))) rfl ?_
  refine wl_storeW (cs := #[kv, vv]) 6 st rfl TF.t43 rfl rfl rfl rfl (by intro u hu; simp at hu; rcases hu with rfl | rfl <;> assumption) ?_
  intro w st
  refine wl_store1 (v := .bool true) 5 st rfl TF.t4 rfl rfl rfl (lt_ok rfl) ?_
  intro w st
  refine wl_nil ?_
  refine then_go ?_
  refine wc_ret ?_
  have hD' := st.at (i := 1) rfl
  have st7 := st.putObj 1 (.deferred none) rfl
  exact retX1 hD' (ret2cc (v := .agg #[kv, vv]) (v' := .bool true) rfl (st7.reads 6 rfl TF.t43 (getV_all rfl)) rfl (st7.reads 5 rfl TF.t4 rfl) ⟨kv, vv, E, m1, rfl, hE, hmm1, ((((((st7.drop 0).drop 0).drop 2).drop 2).drop 2).drop 2)⟩)
end
end Go.Proofs.YtladpaehbolghaaGreat

namespace Go.Proofs.YtladpaehbolghaaGreat
open Go Go.RowKit K SH GC JR OS
open DK hiding By
section
variable {m0 m : Mem} {w0 w : World} {Es : List Ent}
theorem all_keep {kv vv : Value} {E : List (By × DV)} {T : List Ent} (st : St m0 m [] w0 w (ksE kv E :: vsE vv E :: (T ++ (rowsE (E.map (·.2)) ++ Es)))) (h : ∀ x ∈ E, x.1.length ≤ 64 ∧ x.2.1.length ≤ 1048576) :
  ∃ m', (∀ k o, m k = some o → m' k = some o) ∧ KyM m' kv vv E ∧ St m0 m' [] w0 w (T ++ Es) := by
 obtain ⟨m1, hg1, hm1, st1⟩ := st.freezeR (i := 0) rfl (by simp)
 have hk := row_SlM (m := m1) (st.at (i := 0) rfl) hm1
 obtain ⟨m2, hg2, hm2, st2⟩ := st1.freezeR (i := 0) rfl (by simp)
 have hv := row_SlM (m := m2) (st1.at (i := 0) rfl) hm2
 have st3 : St m0 m2 [] w0 w (T ++ (rowsE (E.map (·.2)) ++ Es)) := st2
 have st4 := st3.perm (show List.Perm _ (rowsE (E.map (·.2)) ++ (T ++ Es)) by rw [← List.append_assoc, ← List.append_assoc]; exact List.perm_append_comm.append_right _)
 obtain ⟨m3, hmm3, hP, st5⟩ := rows_freeze (A := E.map (·.2)) st4
 exact ⟨m3, fun k o h => hmm3 k o (hg2.le k o (hg1.le k o h)), ⟨hk.mono fun k o h => hmm3 k o (hg2.le k o h), hv.mono hmm3, fun x hx => ⟨(h x hx).1, (h x hx).2, hP _ (List.mem_map.2 ⟨x, hx, rfl⟩)⟩⟩, st5⟩
theorem kvok_len {L E : List (By × DV)} {M : Kys} (hL : KvOk m L) (hp : M.Perm (kvs L)) (hE : kvs E = M) : ∀ x ∈ E, x.1.length ≤ 64 ∧ x.2.1.length ≤ 1048576 := fun x hx => by
 have h1 : (x.1, x.2.1) ∈ M := by rw [← hE]; exact List.mem_map.2 ⟨x, hx, rfl⟩
 obtain ⟨y, hy, e⟩ := List.mem_map.1 (hp.mem_iff.1 h1)
 have h2 := hL y hy
 have e : (y.1, y.2.1) = (x.1, x.2.1) := e
 rw [Prod.mk.injEq] at e
 rw [← e.1, ← e.2]
 exact ⟨h2.1, h2.2.1⟩
theorem c_like {sb mb g b s n : Nat} {sl : LG} {lv wv kv vv : Value} {S key : By} {N : List (By × Value)} {L G : List (By × DV)}
  (st : St m0 m [] w0 w (lgE g b s n sl lv wv S N (stE sb g mb L Es))) (hL : KvOk m L) (hM : Risen (kvs G)) (hp : (kvs G).Perm (kvs L)) (hl : L.length ≤ 1000000) (hG : KyM m kv vv G) (hk : key.length ≤ 9223372036854775807) :
  Ret Tryz.prog 25 #[.pointer (some ⟨sb, 0, none⟩), .agg #[kv, vv], .string (strB key)] w fun v w' => v = .bool true ∧ ∃ m', (∀ k o, m k = some o → m' k = some o) ∧ St m0 m' [] w0 w' (lgE g b s n sl lv wv S N (stE sb g mb L Es)) := by
 have hGl : G.length = L.length := by have := hp.length_eq; rw [length_kvs, length_kvs] at this; exact this
 have q1 := SlM.one1 hG.1
 have q2 := SlM.one1 hG.2.1
 obtain ⟨ka, kc, va, vc, rfl, rfl, hkc, hvc⟩ := hG.sl
 refine ret_of Tryz.call25 Tryz.func25 rfl Tryz.ntmps25 Tryz.results25 rfl ?_
 refine wc_seq ?_
 refine wc_region ?_
 refine wl_box (v := .agg #[.slice ka G.length kc, .slice va G.length vc]) rfl st rfl ?_
 intro b4 w st
 have st := st.perm (List.perm_middle (l₁ := [_, _, _, _, _])).symm
 have st : St m0 m [] w0 w (lgE g b s n sl lv wv S N (stE sb g mb L (K.blk b4 #[.slice ka G.length kc, .slice va G.length vc] 43 :: Es))) := st
 refine wl_val (v_assign' (by conv => (lhs; whnf))) rfl ?_
 refine wl_nil ?_
 refine then_go ?_
 refine wc_seq ?_
 refine wc_region ?_
 refine wl_val (v_move' (by conv => (lhs; whnf))) rfl ?_
 refine wl_call rfl (c_sallK st hL hM hp hl) rfl ?_
 rintro v15 w ⟨kv2, vv2, E2, m1, rfl, hE2, hmm1, st⟩
 have st : St m0 m1 [] w0 w (ksE kv2 E2 :: vsE vv2 E2 :: (lgE g b s n sl lv wv S N (stE sb g mb L []) ++ (rowsE (E2.map (·.2)) ++ (K.blk b4 #[.slice ka G.length kc, .slice va G.length vc] 43 :: Es)))) := st
 obtain ⟨m2, hmm2, hK2, st⟩ := all_keep st (kvok_len hL hp hE2)
 have p1 := SlM.one1 hK2.1
 have p2 := SlM.one1 hK2.2.1
 have st : St m0 m2 [] w0 w (lgE g b s n sl lv wv S N (stE sb g mb L (K.blk b4 #[.slice ka G.length kc, .slice va G.length vc] 43 :: Es))) := st
 have hmm2 : ∀ k o, m k = some o → m2 k = some o := fun k o h => hmm2 k o (hmm1 k o h)
 refine wl_val (v_move' (by conv => (lhs; whnf))) rfl ?_
 refine wl_val (v_extract rfl rfl) rfl ?_
 refine wl_val (v_extract rfl rfl) rfl ?_
 refine wl_alloc TF.z43 st rfl ?_
 intro b7 w st
 refine wl_storeW (cs := #[kv2, vv2]) 0 st rfl TF.t43 rfl rfl rfl rfl (by intro u hu; simp at hu; rcases hu with rfl | rfl <;> assumption) ?_
 intro w st
 have st := st.perm (List.perm_middle (l₁ := [_, _, _, _, _])).symm
 have st : St m0 m2 [] w0 w (lgE g b s n sl lv wv S N (stE sb g mb L (K.blk b7 #[kv2, vv2] 43 :: K.blk b4 #[.slice ka G.length kc, .slice va G.length vc] 43 :: Es))) := st
 refine wl_val (v_assign' (by conv => (lhs; whnf))) rfl ?_
 refine wl_nil ?_
 refine then_go ?_
 refine wc_seq ?_
 refine wc_region ?_
 refine wl_val (v_move' (by conv => (lhs; whnf))) rfl ?_
 refine wl_val (v_move' (by conv => (lhs; whnf))) rfl ?_
 refine wl_call rfl (c_sget (k := key) st (hL.mono hmm2) hM hp hk) rfl ?_
 rintro v21 w ⟨u, rfl, st⟩
 obtain ⟨m3, hg3, hm3, st3⟩ := st.freezeR (i := 0) rfl (by simp)
 have hu := row_SlM (m := m3) (st.at (i := 0) rfl) hm3
 have st : St m0 m3 [] w0 w (lgE g b s n sl lv wv S N (stE sb g mb L (K.blk b7 #[kv2, vv2] 43 :: K.blk b4 #[.slice ka G.length kc, .slice va G.length vc] 43 :: Es))) := st3
 have hmm3 : ∀ k o, m k = some o → m3 k = some o := fun k o h => hg3.le k o (hmm2 k o h)
 refine wl_val (v_move' (by conv => (lhs; whnf))) rfl ?_
 refine wl_val (v_extract rfl rfl) rfl ?_
 refine wl_val (v_extract rfl rfl) rfl ?_
 refine wl_val (v_assign' (by conv => (lhs; whnf))) rfl ?_
 refine wl_val (v_assign' (by conv => (lhs; whnf))) rfl ?_
 refine wl_nil ?_
 refine then_go ?_
 refine wc_seq ?_
 refine wc_region ?_
 refine wl_val (v_load rfl (st.reads (v := .agg #[.slice ka G.length kc, .slice va G.length vc]) 6 rfl TF.t43 (getV_all rfl))) rfl ?_
 refine wl_val (v_move' (by conv => (lhs; whnf))) rfl ?_
 refine wl_call rfl (c_rget (k := key) st.im (hG.mono hmm3) (by omega) hM) rfl ?_
 rintro v27 w ⟨t27, u2, rfl, hu2⟩
 have st := st.pure t27
 refine wl_val (v_move' (by conv => (lhs; whnf))) rfl ?_
 refine wl_val (v_extract rfl rfl) rfl ?_
 refine wl_val (v_extract rfl rfl) rfl ?_
 refine wl_val (v_assign' (by conv => (lhs; whnf))) rfl ?_
 refine wl_val (v_assign' (by conv => (lhs; whnf))) rfl ?_
 refine wl_nil ?_
 refine then_go ?_
 refine wc_seq ?_
 refine wc_draw TF.mixed ?_
 have st := st.pure (touch_drew _)
 refine fl_val 0 rfl (fun _ => (v_move' (by conv => (lhs; whnf)))) rfl (by kernel_rfl) ?_
 refine fl_val 1 rfl (fun _ => (v_move' (by conv => (lhs; whnf)))) rfl (by kernel_rfl) ?_
 refine fl_on 2 rfl rfl rfl rfl (fun _ => (v_move' (by conv => (lhs; whnf)))) rfl (by kernel_rfl) ?_
 refine fl_on 4 rfl rfl rfl rfl (fun _ => (v_fa TF.f43_0 rfl)) rfl (by kernel_rfl) ?_
 refine fl_ond 5 rfl rfl rfl rfl (v_load rfl (st.reads (v := .slice ka G.length kc) 6 rfl TF.t40 rfl)) rfl (by kernel_rfl) ?_
 refine fl_on 6 rfl rfl rfl rfl (fun _ => (v_len_s Tryz.underlying40 rfl)) rfl (by kernel_rfl) ?_
 refine fl_eff1 3 [6, 4, 0] [5] (by kernel_rfl) ⟨obl_on rfl rfl rfl rfl rfl (v_load rfl (st.reads (v := .slice ka G.length kc) 6 rfl TF.t40 rfl)), trivial⟩ rfl ?_
 refine wl_on rfl rfl ?_
 refine wl_call rfl (c_slen st) rfl ?_
 rintro v33 w ⟨t33, rfl⟩
 have st := st.pure t33
 refine wl_nil ⟨rfl, ?_⟩
 refine fl_on 7 rfl rfl rfl rfl (fun _ => (v_eqlT (a := (L.length : Int)) (b := (G.length : Int)) (by omega) rfl rfl)) rfl (by kernel_rfl) ?_
 refine fl_val 8 rfl (fun _ => (v_pick rfl)) rfl (by kernel_rfl) ?_
 refine fl_val 9 rfl (fun _ => (v_move' (by conv => (lhs; whnf)))) rfl (by kernel_rfl) ?_
 refine fl_ond 10 rfl rfl rfl rfl (v_load rfl (st.reads (v := .agg #[kv2, vv2]) 5 rfl TF.t43 (getV_all rfl))) rfl (by kernel_rfl) ?_
 refine fl_ond 11 rfl rfl rfl rfl (v_load rfl (st.reads (v := .agg #[.slice ka G.length kc, .slice va G.length vc]) 6 rfl TF.t43 (getV_all rfl))) rfl (by kernel_rfl) ?_
 refine fl_eff1 12 [8, 7, 6, 4, 0] [5] (by kernel_rfl) ⟨obl_on rfl rfl rfl rfl rfl (v_load rfl (st.reads (v := .agg #[.slice ka G.length kc, .slice va G.length vc]) 6 rfl TF.t43 (getV_all rfl))), obl_on rfl rfl rfl rfl rfl (v_load rfl (st.reads (v := .agg #[kv2, vv2]) 5 rfl TF.t43 (getV_all rfl))), obl_on rfl rfl rfl rfl rfl (v_load rfl (st.reads (v := .slice ka G.length kc) 6 rfl TF.t40 rfl)), trivial⟩ rfl ?_
 refine wl_on rfl rfl ?_
 refine wl_call rfl (c_samekeys st.im (hK2.mono hg3.le) (hG.mono hmm3) hE2 (by have := congrArg List.length hE2; rw [length_kvs, length_kvs] at this; omega)) rfl ?_
 rintro v42 w ⟨t42, m4, hg4, hi4, rfl⟩
 have st := st.grown hg4 t42 hi4
 refine wl_nil ⟨rfl, ?_⟩
 refine fl_val 13 rfl (fun _ => (v_pick rfl)) rfl (by kernel_rfl) ?_
 refine fl_val 14 rfl (fun _ => (v_move' (by conv => (lhs; whnf)))) rfl (by kernel_rfl) ?_
 refine fl_on 15 rfl rfl rfl rfl (fun _ => (v_move' (by conv => (lhs; whnf)))) rfl (by kernel_rfl) ?_
 refine fl_on 16 rfl rfl rfl rfl (fun _ => (v_move' (by conv => (lhs; whnf)))) rfl (by kernel_rfl) ?_
 refine fl_on 17 rfl rfl rfl rfl (fun _ => (wl_valD (v_eqb Tryz.underlying4 rfl rfl) (q := true) (by simp))) rfl (by kernel_rfl) ?_
 refine fl_val 18 rfl (fun _ => (v_pick rfl)) rfl (by kernel_rfl) ?_
 refine fl_val 19 rfl (fun _ => (v_move' (by conv => (lhs; whnf)))) rfl (by kernel_rfl) ?_
 refine fl_on 20 rfl rfl rfl rfl (fun _ => (v_move' (by conv => (lhs; whnf)))) rfl (by kernel_rfl) ?_
 refine fl_on 21 rfl rfl rfl rfl (fun _ => (v_move' (by conv => (lhs; whnf)))) rfl (by kernel_rfl) ?_
 refine fl_eff1 22 [18, 17, 16, 15, 14, 13, 8, 7, 6, 4, 0] [5] (by kernel_rfl) ⟨obl_on rfl rfl rfl rfl rfl (v_load rfl (st.reads (v := .slice ka G.length kc) 6 rfl TF.t40 rfl)), trivial⟩ rfl ?_
 refine wl_on rfl rfl ?_
 refine wl_call rfl (c_same17 st.im (hu.mono hg4.le) (hu2.mono hg4.le)) rfl ?_
 rintro v52 w ⟨t52, rfl⟩
 have st := st.pure t52
 rw [decide_eq_true rfl]
 refine wl_nil ⟨rfl, ?_⟩
 refine fl_val 23 rfl (fun _ => (v_pick rfl)) rfl (by kernel_rfl) ?_
 refine fl_eff1 24 [] [] (by kernel_rfl) ⟨obl_on rfl rfl rfl rfl rfl (v_load rfl (st.reads (v := .slice ka G.length kc) 6 rfl TF.t40 rfl)), trivial⟩ rfl ?_
 refine wl_val (v_assign' (by conv => (lhs; whnf))) rfl ?_
 refine wl_nil ⟨rfl, ?_⟩
 refine fl_nil (by kernel_rfl) trivial ?_
 refine then_go ?_
 refine wc_ret ?_
 exact ret1 rfl ⟨rfl, m4, fun k o h => hg4.le k o (hmm3 k o h), (st.drop 5).drop 5⟩
end
end Go.Proofs.YtladpaehbolghaaGreat

namespace Go.Proofs.YtladpaehbolghaaGreat
open Go Go.RowKit K SH DK JR
section
variable {m : Mem} {wI : World}
theorem c_same14 {av bv : Value} {A B : List (By × Value)} (him : Im m wI) (ha : PcsM m av A) (hb : PcsM m bv B) (hAB : A.map (·.1) = B.map (·.1)) (hA : A.length ≤ 1000000000) :
  Ret Tryz.prog 26 #[av, bv] wI fun v w' => Tch wI w' [] [] ∧ v = .bool true := by
 have st := St.start him
 refine ret_of Tryz.call26 Tryz.func26 rfl Tryz.ntmps26 Tryz.results26 rfl ?_
 refine wc_seq ?_
 refine wc_region ?_
 refine wl_val (v_assign' (by conv => (lhs; whnf))) rfl ?_
 refine wl_nil ?_
 refine then_go ?_
 refine wc_seq ?_
 refine wc_region ?_
 refine wl_val (v_move' (by conv => (lhs; whnf))) rfl ?_
 refine wl_val (v_move' (by conv => (lhs; whnf))) rfl ?_
 refine wl_call rfl (c_sametexts st.im ha hb hAB hA) rfl ?_
 rintro v7 w ⟨t7, rfl⟩
 have st := st.pure t7
 refine wl_val (v_assign' (by conv => (lhs; whnf))) rfl ?_
 refine wl_nil ?_
 refine then_go ?_
 refine wc_ret ?_
 exact ret1 rfl ⟨st.touch, rfl⟩
end
end Go.Proofs.YtladpaehbolghaaGreat

namespace Go.Proofs.YtladpaehbolghaaGreat
open Go Go.RowKit K SH GC JR OS
open DK hiding By
theorem apply_facts {M : Kys} {R : List By} {A : List Ac} {n : Nat} (h : Risen M) : Risen (applyR M R A n).1 ∧ bulkK (applyR M R A n).1 ≤ bulkK M + bulkA A ∧ (applyR M R A n).1.length ≤ M.length + A.length := by
 have h1 := bulk_done (M := M) (A := A)
 have h2 := doneS_rise (A := A) h
 unfold applyR
 split
 ·exact ⟨h, by show bulkK M ≤ _; omega, by show M.length ≤ _; omega⟩
 ·split
  ·exact ⟨h2, h1.1, h1.2⟩
  ·split
   ·exact ⟨h, by show bulkK M ≤ _; omega, by show M.length ≤ _; omega⟩
   ·exact ⟨h2, h1.1, h1.2⟩
theorem ofR_app : ∀ {R : List By} {M M' : Kys} {x : By} {A : List Ac}, ofR M R = some M' → batR x = some A → ofR M (R ++ [x]) = some (doneS M' A)
 | [], M, M', x, A, h, hx => by cases h; simp only [List.nil_append, ofR, hx]
 | y :: R, M, M', x, A, h, hx => by
  rw [ofR] at h
  split at h
  ·cases h
  ·rename_i B hB
   simp only [List.cons_append, ofR, hB]
   exact ofR_app h hx
theorem done_acts : ∀ {M P : Kys}, Risen (P ++ M) → doneS P (actsOf M) = P ++ M
 | [], P, _ => by simp [doneS, actsOf]
 | x :: M, P, h => by
  have e : oneS P ⟨x.1, true, x.2⟩ = P ++ [x] := by
   have h1 : ∀ y ∈ P, y.1 < x.1 := fun y hy => by
    unfold Risen at h
    rw [List.map_append, List.pairwise_append] at h
    exact h.2.2 y.1 (List.mem_map.2 ⟨y, hy, rfl⟩) x.1 (by simp)
   unfold oneS
   rw [if_pos rfl, List.filter_eq_self.2 (fun y hy => decide_eq_true (h1 y hy)), List.filter_eq_nil_iff.2 (fun y hy h => List.lt_irrefl _ (List.lt_trans (h1 y hy) (of_decide_eq_true h)))]
   rfl
  have h2 : doneS P (actsOf (x :: M)) = doneS (oneS P ⟨x.1, true, x.2⟩) (actsOf M) := rfl
  rw [h2, e, done_acts (by rw [List.append_assoc]; exact h), List.append_assoc]
  rfl
theorem okL_of {A : List Ac} (h : chkL A = 0) : okL A := by
 unfold chkL at h
 split at h
 ·assumption
 ·cases h
theorem apply_of {M : Kys} {R : List By} {A : List Ac} {n : Nat} (h : Risen M) (ho : ofR [] R = some M) : ofR [] (applyR M R A n).2.1 = some (applyR M R A n).1 := by
 unfold applyR
 split
 ·exact ho
 ·rename_i hc
  have hok : okL A := okL_of (Decidable.not_not.1 fun h => hc (.inl h))
  split
  ·exact ofR_app ho (batR_batB hok)
  ·split
   ·exact ho
   ·rename_i hc2
    have hok2 := okL_of (Decidable.not_not.1 fun h => hc2 (.inl h))
    show ofR [] (anewOf (doneS M A)) = some (doneS M A)
    unfold anewOf
    split
    ·rename_i h0; rw [h0]; rfl
    ·have := ofR_app (R := []) (M := []) (x := batB (actsOf (doneS M A))) rfl (batR_batB hok2)
     rw [done_acts (P := []) (M := doneS M A) (doneS_rise h)] at this
     exact this
structure Sh (m : Mem) (i n : Nat) (S : By) (sl : LG) (kv vv nv : Value) (G : List (By × DV)) (NR N : List (By × Value)) (L : List (By × DV)) : Prop where
 ky : KyM m kv vv G
 ri : Risen (kvs G)
 pn : PcsM m nv NR
 eq : NR.map (·.1) = N.map (·.1)
 nl : ∀ y ∈ NR, y.1.length ≤ 1048576
 pc : Pcs m N
 kv : KvOk m L
 pe : (kvs G).Perm (kvs L)
 lg : LogOk n S sl (N.map (·.1))
 gn : sl.gen.toNat ≤ 1 + 2 * i
 bk : bulkK (kvs G) ≤ i * 20000
 ln : G.length ≤ i * 60
 rc : ofR [] (N.map (·.1)) = some (kvs G)
theorem Sh.mono {m m' : Mem} {i n : Nat} {S : By} {sl : LG} {kv vv nv : Value} {G L : List (By × DV)} {NR N : List (By × Value)} (h : Sh m i n S sl kv vv nv G NR N L) (hm : ∀ k o, m k = some o → m' k = some o) : Sh m' i n S sl kv vv nv G NR N L :=
 ⟨h.ky.mono hm, h.ri, PcsM.mono h.pn hm, h.eq, h.nl, h.pc.mono hm, h.kv.mono hm, h.pe, h.lg, h.gn, h.bk, h.ln, h.rc⟩
theorem Sh.few {m : Mem} {i n : Nat} {S : By} {sl : LG} {kv vv nv : Value} {G L : List (By × DV)} {NR N : List (By × Value)} (h : Sh m i n S sl kv vv nv G NR N L) : NR.length ≤ 100000 ∧ L.length = G.length := by
 have h1 := sizeL_ge (l := N.map (·.1))
 have h2 := h.lg.fit
 have h3 := h.lg.nle
 have h4 := congrArg List.length h.eq
 rw [List.length_map, List.length_map] at h4
 rw [List.length_map] at h1
 have h5 := h.pe.length_eq
 rw [length_kvs, length_kvs] at h5
 exact ⟨by omega, h5.symm⟩
theorem Sh.first {m : Mem} {n : Nat} {S : By} {sl : LG} (hl : LogOk n S sl []) (hg : sl.gen = 1) : Sh m 0 n S sl (.slice none 0 0) (.slice none 0 0) (.slice none 0 0) [] [] [] [] :=
 ⟨KyM.nil, by simp [Risen], ⟨SlM.nil, by simp⟩, rfl, by simp, (fun _ h => by cases h), (fun _ h => by cases h), List.Perm.refl _, hl, by rw [hg]; decide, by simp [bulkK], by simp, rfl⟩
theorem Sh.next {m m3 : Mem} {i n a : Nat} {S S2 : By} {sl sl2 : LG} {kv vv nv kv2 vv2 nv2 : Value} {G L G2 L2 : List (By × DV)} {NR N NR2 N2 : List (By × Value)} {A : List Ac} (h : Sh m i n S sl kv vv nv G NR N L)
  (hE2 : KyM m3 kv2 vv2 G2) (hN2 : PcsM m3 nv2 NR2) (hap : applyR (kvs G) (NR.map (·.1)) A n = (kvs G2, NR2.map (·.1), a)) (hnl : ∀ y ∈ NR2, y.1.length ≤ 1048576)
  (hNe : N2.map (·.1) = (applyR (kvs G) (N.map (·.1)) A n).2.1) (hlg : LogOk n S2 sl2 (N2.map (·.1))) (hgn : sl2.gen.toNat ≤ sl.gen.toNat + 2) (hkv : KvOk m3 L2) (hpe : (applyR (kvs G) (N.map (·.1)) A n).1.Perm (kvs L2)) (hpc : Pcs m3 N2) (hb : bulkA A ≤ 20000) (hl : A.length ≤ 60) :
  Sh m3 (i + 1) n S2 sl2 kv2 vv2 nv2 G2 NR2 N2 L2 := by
 have hf := apply_facts (R := NR.map (·.1)) (A := A) (n := n) h.ri
 rw [hap] at hf
 rw [← h.eq, hap] at hNe hpe
 obtain ⟨f1, f2, f3⟩ := hf
 have h1 := h.bk
 have h2 := h.ln
 have h3 := h.gn
 have f2 : bulkK (kvs G2) ≤ bulkK (kvs G) + bulkA A := f2
 have f3 : (kvs G2).length ≤ (kvs G).length + A.length := f3
 rw [length_kvs, length_kvs] at f3
 refine ⟨hE2, f1, hN2, hNe.symm, hnl, hpc, hkv, hpe, hlg, by omega, by omega, by omega, ?_⟩
 have hr := apply_of (A := A) (n := n) h.ri (h.eq ▸ h.rc)
 rw [hap] at hr
 rw [hNe]
 exact hr
section
variable {m : Mem} {wI : World}
theorem c_storeDoes {z : Int} {lv : Value} {Q : List (List AcT × Value)} {key : By} (him : Im m wI) (hQ : BatsM m lv Q) (hs : ∀ x ∈ Q, ShortA x.1) (hk : key.length ≤ 9223372036854775807) :
  Ret Tryz.prog 4 #[.int .i64 z, lv, .string (strB key)] wI fun v w' => Tch wI w' [] [] ∧ v = .bool true := by
 have st := St.start him
 have hQ0 := hQ
 obtain ⟨la, lc, rfl⟩ : ∃ a c, lv = .slice a Q.length c := by obtain ⟨⟨_, a, c, h, _⟩, _⟩ := hQ0; exact ⟨a, c, h⟩
 refine ret_of Tryz.call4 Tryz.func4 rfl Tryz.ntmps4 Tryz.results4 rfl ?_
 refine wc_seq ?_
 refine wc_region ?_
 refine wl_val (v_assign' (by conv => (lhs; whnf))) rfl ?_
 refine wl_nil ?_
 refine then_go ?_
 refine wc_seq ?_
 refine wc_region ?_
 refine wl_val (v_move' (by conv => (lhs; whnf))) rfl ?_
 refine wl_call rfl (c_fresh15 st) rfl ?_
 rintro v22 w ⟨m1, db, ds, wv, g, glv, sb, mb, n, S, sl, hn8, hn47, hlg, hgen, hmm1, rfl, st⟩
 have hQ := hQ.mono hmm1
 refine wl_val (v_move' (by conv => (lhs; whnf))) rfl ?_
 refine wl_val (v_extract rfl rfl) rfl ?_
 refine wl_val (v_extract rfl rfl) rfl ?_
 refine wl_val (v_assign' (by conv => (lhs; whnf))) rfl ?_
 refine wl_val (v_assign' (by conv => (lhs; whnf))) rfl ?_
 refine wl_nil ?_
 refine then_go ?_
 refine wc_seq ?_
 refine wc_seq ?_
 refine wc_region ?_
 refine wl_val (v_move' (by conv => (lhs; whnf))) rfl ?_
 refine wl_val (v_eq_nil (p := some ⟨db, 0, none⟩) Tryz.underlying35 rfl rfl) rfl ?_
 refine wl_val (v_move' (by conv => (lhs; whnf))) rfl ?_
 refine wl_on rfl rfl ?_
 refine wl_val (v_move' (by conv => (lhs; whnf))) rfl ?_
 refine wl_on rfl rfl ?_
 refine wl_val (v_eq_nil (p := some ⟨sb, 0, none⟩) Tryz.underlying36 rfl rfl) rfl ?_
 refine wl_val (v_pick rfl) rfl ?_
 refine wl_nil ?_
 refine then_go ?_
 refine wc_false rfl ?_
 refine wc_skip ?_
 refine then_go ?_
 refine wc_seq ?_
 refine wc_seq ?_
 refine wc_region ?_
 refine wl_val (v_move' (by conv => (lhs; whnf))) rfl ?_
 refine wl_call rfl (c_few15 st.im hQ hs) rfl ?_
 rintro v32 w ⟨t32, cf, rfl, hfew⟩
 have st := st.pure t32
 refine wl_val (v_not rfl) rfl ?_
 refine wl_nil ?_
 refine then_go ?_
 refine wc_cond rfl (fun h33 => ?_) (fun h33 => ?_)
 ·refine wc_seq ?_
  refine wc_region ?_
  refine wl_call rfl (c_works15 (Es := []) (st.keepOnly (List.nil_sublist _))) rfl ?_
  rintro vw w ⟨⟨mw, hmw, st⟩, rfl⟩
  refine wl_val (v_assign' (by conv => (lhs; whnf))) rfl ?_
  refine wl_nil ?_
  refine then_go ?_
  refine wc_ret (then_ret ?_)
  exact ret1 rfl ⟨st.touch, rfl⟩
 ·refine wc_skip ?_
  refine then_go ?_
  refine wc_seq ?_
  obtain ⟨hQ20, hQb⟩ := hfew (by simpa using h33)
  refine wc_region ?_
  refine wl_val (v_build (c' := #[.slice none 0 0, .slice none 0 0]) [] TF.z43 TF.p43 rfl rfl) rfl ?_
  refine wl_alloc TF.z43 st rfl ?_
  intro b9 w st
  refine wl_storeW (cs := #[.slice none 0 0, .slice none 0 0]) 0 st rfl TF.t43 rfl rfl rfl rfl (by simp [Value.oneCell']) ?_
  intro w st
  have st := st.perm (List.perm_middle (l₁ := [_, _, _, _, _])).symm
  have st : St m m1 [] wI w (lgE g db ds n sl glv wv S [] (stE sb g mb [] [K.blk b9 #[.slice none 0 0, .slice none 0 0] 43])) := st
  refine wl_nil ?_
  refine then_go ?_
  refine wc_seq ?_
  refine wc_region ?_
  refine wl_val (v_assign' (by conv => (lhs; whnf))) rfl ?_
  refine wl_nil ?_
  refine then_go ?_
  refine wc_seq ?_
  refine wc_seq ?_
  refine wc_region ?_
  refine wl_val (v_assign' (by conv => (lhs; whnf))) rfl ?_
  refine wl_nil ?_
  refine then_go ?_
  refine wc_block ?_
  refine wc_loop (S := Nat) (fun q r w' => ∃ (i : Nat) (m' : Mem) (kv vv nv wv glv : Value) (G L : List (By × DV)) (NR N : List (By × Value)) (S : By) (sl : LG), q + i = Q.length ∧ r 1 = .slice la Q.length lc ∧ r 2 = .string (strB key) ∧ r 7 = .pointer (some ⟨db, 0, none⟩) ∧ r 8 = .pointer (some ⟨sb, 0, none⟩) ∧ r 9 = .pointer (some ⟨b9, 0, none⟩) ∧ r 10 = nv ∧ r 11 = .int .i64 i ∧ (∀ k o, m1 k = some o → m' k = some o) ∧ Sh m' i n S sl kv vv nv G NR N L ∧ St m m' [] wI w' (lgE g db ds n sl glv wv S N (stE sb g mb L [K.blk b9 #[kv, vv] 43]))) id Q.length ⟨0, m1, _, _, _, wv, glv, [], [], [], [], S, sl, by omega, rfl, rfl, rfl, rfl, rfl, rfl, rfl, fun _ _ h => h, Sh.first hlg hgen, st⟩ ?_
  clear st hlg hgen
  rintro q r w2 ⟨i, m', kv, vv, nv, wv, glv, G, L, NR, N, S, sl, hqi, g1, g2, g7, g8, g9, g10, g11, hmm', sh, st⟩
  refine wc_o 1 g1 (wc_o 2 g2 (wc_o 7 g7 (wc_o 8 g8 (wc_o 9 g9 (wc_o 10 g10 (wc_o 11 g11 ?_))))))
  have hQ := hQ.mono hmm'
  refine wc_seq ?_
  refine wc_seq ?_
  refine wc_region ?_
  refine wl_val (v_move' (by conv => (lhs; whnf))) rfl ?_
  refine wl_val (v_move' (by conv => (lhs; whnf))) rfl ?_
  refine wl_val (v_len_s Tryz.underlying34 rfl) rfl ?_
  refine wl_val (v_lss rfl rfl) rfl ?_
  refine wl_nil ?_
  refine then_go ?_
  refine wc_if rfl (fun h39 => ?_) (fun h39 => ?_)
  ·refine wc_skip ?_
   refine then_go ?_
   refine wc_seq ?_
   refine wc_block ?_
   refine wc_seq ?_
   have hi : i < Q.length := by omega
   obtain ⟨ab, ao, _, hqa, hrq⟩ := hQ.at hi
   cases hqa
   have hA := hQ.2 _ (List.getElem_mem hi)
   obtain ⟨hA60, hAb⟩ := hQb _ (List.getElem_mem hi)
   obtain ⟨hNR, hLl⟩ := sh.few
   have hbk := sh.bk
   have hln := sh.ln
   have hGl : G.length ≤ 1200 := by omega
   have hgl := sh.gn
   have hrd : Rdy n (calm S) 100000 := rdy_calm sh.lg.len (by omega) (by omega)
   have o1 := SlM.one1 sh.ky.1
   have o2 := SlM.one1 sh.ky.2.1
   refine wc_draw TF.mixed ?_
   have st := st.pure (touch_drew _)
   show FL _ _ ?ops11 ?post11 [] [] [] _ _
   have fin : ∀ (r : Fr) (w : World) (m2 : Mem) (b12 : Nat) (kv2 vv2 nv2 : Value) (G2 : List (By × DV)) (NR2 : List (By × Value)) (a : Nat), r 1 = .slice (some ⟨ab, ao, none⟩) Q.length lc → r 2 = .string (strB key) → r 7 = .pointer (some ⟨db, 0, none⟩) → r 8 = .pointer (some ⟨sb, 0, none⟩) → r 9 = .pointer (some ⟨b9, 0, none⟩) → r 11 = .int .i64 i → r 12 = .pointer (some ⟨b12, 0, none⟩) → r 52 = .agg #[kv2, vv2] → r 53 = nv2 → r 54 = .int .i64 a → (∀ k o, m' k = some o → m2 k = some o) → KyM m2 kv2 vv2 G2 → PcsM m2 nv2 NR2 → applyR (kvs G) (NR.map (·.1)) (Q[i].1.map (·.1)) n = (kvs G2, NR2.map (·.1), a) → (∀ y ∈ NR2, y.1.length ≤ 1048576) → St m m2 [] wI w (lgE g db ds n sl glv wv S N (stE sb g mb L [K.blk b9 #[kv, vv] 43, K.blk b12 #[.slice none 0 0, .slice none 0 0] 43])) → FL Tryz.prog 103 ?ops11 ?post11 [13, 12, 11, 10, 9, 8, 7, 6, 5, 4, 3, 2, 1, 0] [12, 11, 10, 9, 4, 3, 2] [] r w := by
    clear st
    rintro r w m2 b12 kv2 vv2 nv2 G2 NR2 a g1 g2 g7 g8 g9 g11 g12 g52 g53 g54 hmm2 hE2 hN2 hap hnl st
    refine fl_o 1 g1 (fl_o 2 g2 (fl_o 7 g7 (fl_o 8 g8 (fl_o 9 g9 (fl_o 11 g11 (fl_o 12 g12 (fl_o 52 g52 (fl_o 53 g53 (fl_o 54 g54 ?_)))))))))
    have p1 := SlM.one1 hE2.1
    have p2 := SlM.one1 hE2.2.1
    refine fl_eff1 14 [12, 11] [] (by kernel_rfl) trivial rfl ?_
    refine wl_storeW (cs := #[kv2, vv2]) 6 st rfl TF.t43 rfl rfl rfl rfl (by intro u hu; simp at hu; rcases hu with rfl | rfl <;> assumption) ?_
    intro w st
    refine wl_nil ⟨rfl, ?_⟩
    refine fl_eff1 15 [12] [] (by kernel_rfl) trivial rfl ?_
    refine wl_val (v_assign' (by conv => (lhs; whnf))) rfl ?_
    refine wl_nil ⟨rfl, ?_⟩
    refine fl_eff1 16 [] [] (by kernel_rfl) trivial rfl ?_
    refine wl_val (v_assign' (by conv => (lhs; whnf))) rfl ?_
    refine wl_nil ⟨rfl, ?_⟩
    refine fl_nil (by kernel_rfl) trivial ?_
    refine then_go ?_
    refine wc_seq ?_
    refine wc_seq ?_
    refine wc_region ?_
    refine wl_val (v_move' (by conv => (lhs; whnf))) rfl ?_
    refine wl_val (v_move' (by conv => (lhs; whnf))) rfl ?_
    refine wl_val (v_move' (by conv => (lhs; whnf))) rfl ?_
    refine wl_val (v_ias i Tryz.underlying34 TF.t22 rfl rfl (by first | rfl | omega) (by first | omega | (dsimp only at *; omega))) rfl ?_
    refine wl_val (v_load rfl (hrq (fun k o h => st.im k o (hmm2 k o h)))) rfl ?_
    refine wl_call rfl (c_sapply st sh.lg (by omega) (sh.pc.mono hmm2) (sh.kv.mono hmm2) sh.ri sh.pe (hA.mono hmm2) (by omega) (by omega) (by omega)) rfl ?_
    rintro v60 w ⟨m3, wv3, glv3, N3, S3, sl3, L3, hmm3, rfl, hP3, _, hN3, ok3, hg3, hkv3, _, hpe3, st⟩
    have sh3 := Sh.next sh (hE2.mono hmm3) (PcsM.mono hN2 hmm3) hap hnl hN3 ok3 hg3 hkv3 hpe3 hP3 hAb (by simpa using hA60)
    have hap' : applyR (kvs G) (N.map (·.1)) (Q[i].1.map (·.1)) n = (kvs G2, NR2.map (·.1), a) := by rw [← sh.eq]; exact hap
    rw [hap']
    obtain ⟨hNR3, hLl3⟩ := sh3.few
    have hln3 := sh3.ln
    refine wl_val (v_move' (by conv => (lhs; whnf))) rfl ?_
    refine wl_val (v_neqF rfl rfl rfl) rfl ?_
    refine wl_nil ?_
    refine then_go ?_
    refine wc_false rfl ?_
    refine wc_skip ?_
    refine then_go ?_
    refine wc_seq ?_
    refine wc_region ?_
    refine wl_val (v_load rfl (st.reads (v := .agg #[kv2, vv2]) 6 rfl TF.t43 (getV_all rfl))) rfl ?_
    refine wl_val (v_move' (by conv => (lhs; whnf))) rfl ?_
    refine wl_storeW (cs := #[kv2, vv2]) 5 st rfl TF.t43 rfl rfl rfl rfl (by intro u hu; simp at hu; rcases hu with rfl | rfl <;> assumption) ?_
    intro w st
    have st : St m m3 [] wI w (lgE g db ds n sl3 glv3 wv3 S3 N3 (stE sb g mb L3 [K.blk b9 #[kv2, vv2] 43])) := st.drop 6
    refine wl_val (v_assign' (by conv => (lhs; whnf))) rfl ?_
    refine wl_nil ?_
    refine then_go ?_
    refine wc_seq ?_
    refine wc_region ?_
    refine wl_val (v_move' (by conv => (lhs; whnf))) rfl ?_
    refine wl_call rfl (c_dump (im_heapM _) (disk_at 2 st rfl (ok_calm ok3.len (by omega) (by omega)))) rfl ?_
    rintro v67 w ⟨t67, m4, hf4, hi4, hS⟩
    obtain ⟨m5, hmm5, hm45, st⟩ := st.absorb t67 hf4 hi4
    have hS : SlM m5 v67 1 S3.length (bs S3) := hS.mono hm45
    refine wl_call rfl (c_rRead st.im hS (by rw [ok3.len]; omega)) rfl ?_
    rintro v68 w ⟨t68, m6, hg6, hi6, rv, RR, hRR, hRRe, rfl⟩
    have st := st.grown hg6 t68 hi6
    rw [ok3.read] at hRRe
    have sh6 := sh3.mono fun k o h => hg6.le k o (hmm5 k o h)
    refine wl_val (v_move' (by conv => (lhs; whnf))) rfl ?_
    refine wl_val (v_extract rfl rfl) rfl ?_
    refine wl_val (v_extract rfl rfl) rfl ?_
    refine wl_val (v_extract rfl rfl) rfl ?_
    refine wl_val (v_assign' (by conv => (lhs; whnf))) rfl ?_
    refine wl_val (v_assign' (by conv => (lhs; whnf))) rfl ?_
    refine wl_val (v_assign' (by conv => (lhs; whnf))) rfl ?_
    refine wl_nil ?_
    refine then_go ?_
    refine wc_seq ?_
    refine wc_region ?_
    refine wl_val (v_move' (by conv => (lhs; whnf))) rfl ?_
    refine wl_val (v_load rfl (st.reads (v := .agg #[kv2, vv2]) 5 rfl TF.t43 (getV_all rfl))) rfl ?_
    refine wl_val (v_move' (by conv => (lhs; whnf))) rfl ?_
    refine wl_call rfl (c_like (key := key) st sh6.kv sh6.ri sh6.pe (by omega) sh6.ky hk) rfl ?_
    rintro v75 w ⟨rfl, m7, hmm7, st⟩
    have sh7 := sh6.mono hmm7
    refine wl_val (v_not rfl) rfl ?_
    refine wl_val (v_move' (by conv => (lhs; whnf))) rfl ?_
    refine wl_on rfl rfl ?_
    refine wl_val (v_move' (by conv => (lhs; whnf))) rfl ?_
    refine wl_on rfl rfl ?_
    refine wl_val (v_move' (by conv => (lhs; whnf))) rfl ?_
    refine wl_on rfl rfl ?_
    refine wl_call rfl (c_same14 st.im (PcsM.mono hRR hmm7) sh7.pn (by rw [hRRe, sh7.eq]) (by have := congrArg List.length hRRe; rw [List.length_map, ← sh7.eq, List.length_map] at this; omega)) rfl ?_
    rintro v80 w ⟨t80, rfl⟩
    have st := st.pure t80
    refine wl_on rfl rfl ?_
    refine wl_val (v_not rfl) rfl ?_
    refine wl_val (v_pick rfl) rfl ?_
    refine wl_nil ?_
    refine then_go ?_
    refine wc_false rfl ?_
    refine wc_skip ?_
    refine block_go (then_go ?_)
    refine wc_region ?_
    refine wl_val (v_move' (by conv => (lhs; whnf))) rfl ?_
    refine wl_val (v_add' (c := ((i + 1 : Nat) : Int)) rfl rfl (by omega) (by omega) (by omega)) rfl ?_
    refine wl_val (v_assign' (by conv => (lhs; whnf))) rfl ?_
    refine wl_nil ?_
    refine then_go ?_
    exact ⟨q - 1, by simp; omega, i + 1, m7, kv2, vv2, nv2, wv3, glv3, G2, L3, NR2, N3, S3, sl3, by omega, rfl, rfl, rfl, rfl, rfl, rfl, rfl, fun k o h => hmm7 k o (hg6.le k o (hmm5 k o (hmm3 k o (hmm2 k o (hmm' k o h))))), sh7, st⟩
   refine fl_ld 0 rfl (v_load rfl (st.reads (v := .agg #[kv, vv]) 5 rfl TF.t43 (getV_all rfl))) (by kernel_rfl) ?_
   refine fl_val 1 rfl (fun _ => (v_move' (by conv => (lhs; whnf)))) rfl (by kernel_rfl) ?_
   refine fl_val 2 rfl (fun _ => (v_move' (by conv => (lhs; whnf)))) rfl (by kernel_rfl) ?_
   refine fl_val 3 rfl (fun _ => (v_move' (by conv => (lhs; whnf)))) rfl (by kernel_rfl) ?_
   refine fl_val 4 rfl (fun _ => (v_ias i Tryz.underlying34 TF.t22 rfl rfl (by first | rfl | omega) (by first | omega | (dsimp only at *; omega)))) rfl (by kernel_rfl) ?_
   refine fl_ld 5 rfl (v_load rfl (hrq (fun k o h => st.im k o (by first | exact h | exact hmm2 k o h)))) (by kernel_rfl) ?_
   refine fl_val 6 rfl (fun _ => (v_move' (by conv => (lhs; whnf)))) rfl (by kernel_rfl) ?_
   refine fl_effs [7, 13] (by kernel_rfl) ⟨obl_ld rfl rfl rfl (v_load rfl (hrq (fun k o h => st.im k o (by first | exact h | exact hmm2 k o h)))), obl_ld rfl rfl rfl (v_load rfl (st.reads (v := .agg #[kv, vv]) 5 rfl TF.t43 (getV_all rfl))), trivial⟩ (all2 ?_ ?_)
   ·refine stepE 7 (pure' := [4, 3, 2, 1]) (lds' := [5, 0]) rfl (by kernel_rfl) (by kernel_rfl) ?_
    refine wl_call rfl (c_size (im_heapM _) (disk_at 2 st rfl hrd.ok)) rfl ?_
    rintro v50 w ⟨rfl, rfl⟩
    refine wl_nil ⟨rfl, ?_⟩
    refine fl_effs [8, 13] (by kernel_rfl) ⟨obl_ld rfl rfl rfl (v_load rfl (hrq (fun k o h => st.im k o (by first | exact h | exact hmm2 k o h)))), obl_ld rfl rfl rfl (v_load rfl (st.reads (v := .agg #[kv, vv]) 5 rfl TF.t43 (getV_all rfl))), trivial⟩ (all2 ?_ ?_)
    ·refine stepE 8 (pure' := [4, 3, 2]) (lds' := []) rfl (by kernel_rfl) (by kernel_rfl) ?_
     refine wl_call rfl (c_rapply st.im sh.ky sh.ri sh.pn sh.nl hNR hA (by omega) (by omega) (by omega) (by omega) (by omega)) rfl ?_
     rintro v51 w ⟨t51, m2, hg2, hi2, kv2, vv2, G2, nv2, NR2, a, rfl, hE2, hN2, hap, _, _, hnl⟩
     have st := st.grown hg2 t51 hi2
     have hmm2 := hg2.le
     refine wl_nil ⟨rfl, ?_⟩
     refine fl_val 9 rfl (fun _ => (v_move' (by conv => (lhs; whnf)))) rfl (by kernel_rfl) ?_
     refine fl_val 10 rfl (fun _ => (v_extract rfl rfl)) rfl (by kernel_rfl) ?_
     refine fl_val 11 rfl (fun _ => (v_extract rfl rfl)) rfl (by kernel_rfl) ?_
     refine fl_val 12 rfl (fun _ => (v_extract rfl rfl)) rfl (by kernel_rfl) ?_
     refine fl_eff1 13 [12, 11, 10, 9, 4, 3, 2] [] (by kernel_rfl) trivial rfl ?_
     refine wl_alloc TF.z43 st rfl ?_
     intro b12 w st
     have st := st.perm (List.perm_middle (l₁ := [_, _, _, _, _, _])).symm
     refine wl_nil ⟨rfl, ?_⟩
     refine FL.permB [13, 12, 11, 10, 9, 8, 7, 6, 5, 4, 3, 2, 1, 0] [12, 11, 10, 9, 4, 3, 2] [] (by kernel_rfl) ?_
     exact fin _ _ m2 b12 kv2 vv2 nv2 G2 NR2 a rfl rfl rfl rfl rfl rfl rfl rfl rfl rfl hmm2 hE2 hN2 hap hnl st
    ·refine stepE 13 (pure' := [4, 3, 2, 1]) (lds' := [5, 0]) rfl (by kernel_rfl) (by kernel_rfl) ?_
     refine wl_alloc TF.z43 st rfl ?_
     intro b12 w st
     have st := st.perm (List.perm_middle (l₁ := [_, _, _, _, _, _])).symm
     refine wl_nil ⟨rfl, ?_⟩
     refine fl_eff1 8 [4, 3, 2] [] (by kernel_rfl) ⟨obl_ld rfl rfl rfl (v_load rfl (hrq (fun k o h => st.im k o (by first | exact h | exact hmm2 k o h)))), obl_ld rfl rfl rfl (v_load rfl (st.reads (v := .agg #[kv, vv]) 5 rfl TF.t43 (getV_all rfl))), trivial⟩ rfl ?_
     refine wl_call rfl (c_rapply st.im sh.ky sh.ri sh.pn sh.nl hNR hA (by omega) (by omega) (by omega) (by omega) (by omega)) rfl ?_
     rintro v51 w ⟨t51, m2, hg2, hi2, kv2, vv2, G2, nv2, NR2, a, rfl, hE2, hN2, hap, _, _, hnl⟩
     have st := st.grown hg2 t51 hi2
     have hmm2 := hg2.le
     refine wl_nil ⟨rfl, ?_⟩
     refine fl_val 9 rfl (fun _ => (v_move' (by conv => (lhs; whnf)))) rfl (by kernel_rfl) ?_
     refine fl_val 10 rfl (fun _ => (v_extract rfl rfl)) rfl (by kernel_rfl) ?_
     refine fl_val 11 rfl (fun _ => (v_extract rfl rfl)) rfl (by kernel_rfl) ?_
     refine fl_val 12 rfl (fun _ => (v_extract rfl rfl)) rfl (by kernel_rfl) ?_
     refine FL.permB [13, 12, 11, 10, 9, 8, 7, 6, 5, 4, 3, 2, 1, 0] [12, 11, 10, 9, 4, 3, 2] [] (by kernel_rfl) ?_
     exact fin _ _ m2 b12 kv2 vv2 nv2 G2 NR2 a rfl rfl rfl rfl rfl rfl rfl rfl rfl rfl hmm2 hE2 hN2 hap hnl st
   ·refine stepE 13 (pure' := [6, 4, 3, 2, 1]) (lds' := [5, 0]) rfl (by kernel_rfl) (by kernel_rfl) ?_
    refine wl_alloc TF.z43 st rfl ?_
    intro b12 w st
    have st := st.perm (List.perm_middle (l₁ := [_, _, _, _, _, _])).symm
    refine wl_nil ⟨rfl, ?_⟩
    refine fl_eff1 7 [4, 3, 2, 1] [5, 0] (by kernel_rfl) ⟨obl_ld rfl rfl rfl (v_load rfl (hrq (fun k o h => st.im k o (by first | exact h | exact hmm2 k o h)))), obl_ld rfl rfl rfl (v_load rfl (st.reads (v := .agg #[kv, vv]) 5 rfl TF.t43 (getV_all rfl))), trivial⟩ rfl ?_
    refine wl_call rfl (c_size (im_heapM _) (disk_at 2 st rfl hrd.ok)) rfl ?_
    rintro v50 w ⟨rfl, rfl⟩
    refine wl_nil ⟨rfl, ?_⟩
    refine fl_eff1 8 [4, 3, 2] [] (by kernel_rfl) ⟨obl_ld rfl rfl rfl (v_load rfl (hrq (fun k o h => st.im k o (by first | exact h | exact hmm2 k o h)))), obl_ld rfl rfl rfl (v_load rfl (st.reads (v := .agg #[kv, vv]) 5 rfl TF.t43 (getV_all rfl))), trivial⟩ rfl ?_
    refine wl_call rfl (c_rapply st.im sh.ky sh.ri sh.pn sh.nl hNR hA (by omega) (by omega) (by omega) (by omega) (by omega)) rfl ?_
    rintro v51 w ⟨t51, m2, hg2, hi2, kv2, vv2, G2, nv2, NR2, a, rfl, hE2, hN2, hap, _, _, hnl⟩
    have st := st.grown hg2 t51 hi2
    have hmm2 := hg2.le
    refine wl_nil ⟨rfl, ?_⟩
    refine fl_val 9 rfl (fun _ => (v_move' (by conv => (lhs; whnf)))) rfl (by kernel_rfl) ?_
    refine fl_val 10 rfl (fun _ => (v_extract rfl rfl)) rfl (by kernel_rfl) ?_
    refine fl_val 11 rfl (fun _ => (v_extract rfl rfl)) rfl (by kernel_rfl) ?_
    refine fl_val 12 rfl (fun _ => (v_extract rfl rfl)) rfl (by kernel_rfl) ?_
    refine FL.permB [13, 12, 11, 10, 9, 8, 7, 6, 5, 4, 3, 2, 1, 0] [12, 11, 10, 9, 4, 3, 2] [] (by kernel_rfl) ?_
    exact fin _ _ m2 b12 kv2 vv2 nv2 G2 NR2 a rfl rfl rfl rfl rfl rfl rfl rfl rfl rfl hmm2 hE2 hN2 hap hnl st
  ·refine wc_exit (then_exit (then_exit (block_hit ?_)))
   refine then_go ?_
   refine wc_seq ?_
   refine wc_region ?_
   refine wl_val (v_move' (by conv => (lhs; whnf))) rfl ?_
   have st := st.perm (List.perm_middle (l₁ := [_, _]))
   refine wl_call rfl (c_sopen st sh.lg.len (by omega) (by omega) sh.lg.opens sh.lg) rfl ?_
   rw [sh.rc]
   rintro v85 w ⟨g2, sb2, mb2, m3, wv3, glv3, N3, L3, rfl, hmm3, hP3, hN3, hri3, hkv3, hpe3, st⟩
   obtain ⟨hNR, hLl⟩ := sh.few
   have hln := sh.ln
   have hl3 : L3.length = G.length := by have := hpe3.length_eq; rw [length_kvs, length_kvs] at this; exact this.symm
   refine wl_val (v_move' (by conv => (lhs; whnf))) rfl ?_
   refine wl_val (v_extract rfl rfl) rfl ?_
   refine wl_val (v_extract rfl rfl) rfl ?_
   refine wl_val (v_assign' (by conv => (lhs; whnf))) rfl ?_
   refine wl_val (v_assign' (by conv => (lhs; whnf))) rfl ?_
   refine wl_nil ?_
   refine then_go ?_
   refine wc_seq ?_
   refine wc_region ?_
   refine wl_val (v_move' (by conv => (lhs; whnf))) rfl ?_
   refine wl_val (v_eql rfl rfl) rfl ?_
   refine wl_val (v_move' (by conv => (lhs; whnf))) rfl ?_
   refine wl_on rfl rfl ?_
   refine wl_val (v_move' (by conv => (lhs; whnf))) rfl ?_
   refine wl_on rfl rfl ?_
   refine wl_val (v_ne_nil (p := some ⟨sb2, 0, none⟩) Tryz.underlying36 rfl rfl) rfl ?_
   refine wl_val (v_pick rfl) rfl ?_
   refine wl_val (v_move' (by conv => (lhs; whnf))) rfl ?_
   refine wl_on rfl rfl ?_
   refine wl_val (v_move' (by conv => (lhs; whnf))) rfl ?_
   refine wl_on rfl rfl ?_
   refine wl_val (v_load rfl (st.reads (v := .agg #[kv, vv]) 9 rfl TF.t43 (getV_all rfl))) rfl ?_
   refine wl_on rfl rfl ?_
   refine wl_val (v_move' (by conv => (lhs; whnf))) rfl ?_
   refine wl_on rfl rfl ?_
   refine wl_call rfl (c_like (key := key) st hkv3 hri3 hpe3 (by omega) (sh.ky.mono hmm3) hk) rfl ?_
   rintro v98 w ⟨rfl, m4, hmm4, st⟩
   refine wl_val (v_pick rfl) rfl ?_
   refine wl_val (v_move' (by conv => (lhs; whnf))) rfl ?_
   refine wl_on rfl rfl ?_
   refine wl_call rfl (c_works15 (Es := []) (st.keepOnly (List.nil_sublist _))) rfl ?_
   rintro v101 w ⟨⟨m5, hmm5, st⟩, rfl⟩
   refine wl_val (v_pick rfl) rfl ?_
   refine wl_val (v_assign' (by conv => (lhs; whnf))) rfl ?_
   refine wl_nil ?_
   refine then_go ?_
   refine wc_ret ?_
   exact ret1 rfl ⟨st.touch, rfl⟩
end
end Go.Proofs.YtladpaehbolghaaGreat

namespace Go.Proofs.YtladpaehbolghaaGreat
open Go Go.ChangeShapes Go.WideShapes Go.ChangeAt Go.RowKit K SH GC JR OS
theorem Try.ownoc : ownKnob Tryz.prog.godebug = none := by kernel_rfl
theorem Try.laidOutoc : laidOutB Tryz.prog = true := by kernel_rfl
theorem Try.trodAlloc {H : Type} {enc : TypeId × Value → H} {w : World} {held : Bool} {P : Program} {base : Nat} {spare : Nat → Bool} {t0 t1 t2 : TypeId} {args : Array Value} {ds : List (DataW H)} {ps : List MemPlace} (h : DataW.TrodAll enc P w base spare held [t0, t1, t2] args.toList ds ps) :
  ∃ v0 v1 v2 d0 d1 d2 p0 p1 p2, args = #[v0, v1, v2] ∧ ds = [d0, d1, d2] ∧ ps = p0 ++ p1 ++ p2 ∧ DataW.Trod enc P w base spare held t0 v0 d0 p0 ∧ DataW.Trod enc P w base spare held t1 v1 d1 p1 ∧ DataW.Trod enc P w base spare held t2 v2 d2 p2 := by
 obtain ⟨v0, vs0, d0, ds0, p0, q0, hargs, rfl, rfl, hd0, h⟩ := trodAll_cons h
 obtain ⟨v1, vs1, d1, ds1, p1, q1, rfl, rfl, rfl, hd1, h⟩ := trodAll_cons h
 obtain ⟨v2, vs2, d2, ds2, p2, q2, rfl, rfl, rfl, hd2, h⟩ := trodAll_cons h
 obtain ⟨rfl, rfl, rfl⟩ := trodAll_nil h
 exact ⟨v0, v1, v2, d0, d1, d2, p0, p1, p2, by cases args; simp_all, rfl, by simp, hd0, hd1, hd2⟩
set_option maxRecDepth 100000 in
theorem storeDoes_lifted (os : Os) (started : os.Started) (H : Type) (enc : TypeId × Value → H) (Fi : Stop.Interp) :
  ReturnsInHanded {} Tryz.checked os 4 .any ((Rows.OpenSpec.upto Rows.storeDoesSpec).pre6 enc Tryz.prog Tryz.f4 Rows.storeDoesUptoRow.domain false) (((Rows.OpenSpec.upto Rows.storeDoesSpec).at Fi).post enc Tryz.prog Tryz.f4 false true false false) := by
 refine returnsInHanded_of_cond (C := Tryz.checked) (s := (Rows.OpenSpec.upto Rows.storeDoesSpec)) (k := Rows.uptoSmall) rfl Try.ownoc started (by kernel_rfl) Tryz.func4
  (OpenSpec.witness (enc := enc) (C := Tryz.checked) (s := (Rows.OpenSpec.upto Rows.storeDoesSpec)) (k := Rows.uptoSmall) rfl false ⟨#[], #[.int .i64 0, .slice none 0 0, .string ⟨#[]⟩], []⟩ 12 (by kernel_rfl) (by kernel_rfl) (by kernel_rfl) (x := ([.lit (.int .i64 0), .nil, .lit (.string [])], [], [])) (by kernel_rfl) rfl (by kernel_rfl)) ?_
 intro W base args ds gs before hval0 hW _ hk _
 have hval : ∀ (j : Nat) t v, Tryz.f4.params[j]? = some t → args[j]? = some v → Value.okWide Tryz.prog W .any base t v := hval0
 have hW' := hW
 obtain ⟨p, q, hA0, hV, rfl, hfz, hnd⟩ := hW
 have hkb := bulk_of hk
 have hA : DataW.TrodAll enc Tryz.prog W 0 (fun _ => true) true Tryz.f4.params.toList args.toList ds p := hA0
 rw [Tryz.params4] at hA hval
 obtain ⟨v0, v1, v2, d0, d1, d2, p0, p1, p2, rfl, rfl, rfl, h0, h1, h2⟩ := Try.trodAlloc hA
 obtain ⟨a0, rfl, rfl, rfl, wa0⟩ := open_int Tryz.underlying3 (hval 0 3 v0 rfl rfl) h0
 obtain ⟨fu1, hf1⟩ := h1
 obtain ⟨sa1, sl1, sc1, rfl⟩ := okWide_slice Tryz.underlying34 (hval 1 34 v1 rfl rfl)
 have hb1 := hkb d1 (by simp)
 obtain ⟨l1, hl1, hu1⟩ := open_batsB hf1
 obtain ⟨l2, rfl, hl2⟩ := open_str (hval 2 9 v2 rfl rfl) h2
 refine Calls.mono (P := Tryz.prog) (c_storeDoes (im_heapM W) hl1 (fun x hx => shortA (hu1.2 x hx).1 (hu1.2 x hx).2 hb1) hl2).2 fun e W1 ⟨v, he, t, hv⟩ => ?_
 subst hv
 subst he
 exact ⟨_, rfl, post_true Try.laidOutoc (by kernel_rfl) rfl hW' t rfl rfl Tryz.underlying4⟩
theorem storeDoesUpto_holds : Rows.StoreDoesUptoSaid :=
 OpenClaim.holds_of_cond 4 Tryz.f4 rfl rfl rfl rfl rfl rfl rfl ⟨rfl, rfl, rfl, rfl, rfl⟩ rfl rfl rfl rfl rfl (by kernel_rfl) Tryz.func4 (by kernel_rfl)
  (of_decide_eq_true (by kernel_rfl)) (by unfold Func.isWrapper; first | (rw [if_pos (by decide +kernel)]; kernel_rfl) | (rw [if_neg (by decide +kernel)]; exact ⟨rfl, rfl⟩))
  (fun os started H enc _ Fi => storeDoes_lifted os started H enc Fi)
end Go.Proofs.YtladpaehbolghaaGreat
