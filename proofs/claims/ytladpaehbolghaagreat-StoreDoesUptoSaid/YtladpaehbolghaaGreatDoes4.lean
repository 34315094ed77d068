/-
  Several texts as one: Jg Jh Da Db Dc Dd Ji Jj Of Ob Gd Ge Od Zn Ha Lay Og Oh Jk Jl Jm Oi.
-/
import Derived.Lib.BytesEntry
import Derived.Laws.Externs
import Derived.Shelf.SlLaysF0
import Derived.Shelf.SlLaysW
import Derived.Test.YtladpaehbolghaaGreatProg
import Derived.Test.YtladpaehbolghaaGreatDoes3

namespace Go.Proofs.YtladpaehbolghaaGreat
open Go Go.RowKit K SH DK JR
def checkE (b : By) : Nat := if 1 ≤ b.length ∧ b.length ≤ 1048576 then 0 else 1
def appR (L : List By) (b : By) (n : Nat) : Nat := if checkE b ≠ 0 then 1 else if sizeL (L ++ [b]) ≤ n / 2 * 64 - 64 then 0 else 13
def resR (M : List By) (n : Nat) : Nat := if ∃ b ∈ M, checkE b ≠ 0 then 1 else if sizeL M ≤ n / 2 * 64 - 64 then 0 else 13
theorem sizeL_le {L : List By} (h : ∀ x ∈ L, x.length ≤ 1000000000) : sizeL L ≤ L.length * 1000000120 := by
 induction L with
 | nil => simp [sizeL]
 | cons x L ih =>
  have h1 := h x List.mem_cons_self
  have h2 := ih fun y hy => h y (List.mem_cons_of_mem _ hy)
  rw [sizeL_cons, List.length_cons]
  unfold recL
  omega
section
variable {m : Mem} {wI : World}
def ReadOut (m : Mem) (v : Value) (b : By) : Prop := ∃ lv N, PcsM m lv N ∧ N.map (·.1) = (readF b).2.1 ∧ v = .tuple #[u64 (readF b).1, lv, .int .i64 (readF b).2.2]
theorem c_rRead {v : Value} {b : By} (him : Im m wI) (hb : SlM m v 1 b.length (bs b)) (hl : b.length ≤ 500000000) : Ret Tryz.prog 23 #[v] wI fun v' w' => Out m wI w' fun m' => ReadOut m' v' b := by
 have st := St.start him
 obtain ⟨ba, bc, rfl, hbc⟩ := hb.opn
 refine ret_of Tryz.call23 Tryz.func23 rfl Tryz.ntmps23 Tryz.results23 rfl ?_
 refine wc_seq ?_
 refine wc_region ?_
 refine wl_val (v_assign' (by conv => (lhs; whnf))) rfl ?_
 refine wl_val (v_assign' (by conv => (lhs; whnf))) rfl ?_
 refine wl_val (v_assign' (by conv => (lhs; whnf))) rfl ?_
 refine wl_nil ?_
 refine then_go ?_
 refine wc_seq ?_
 refine wc_seq ?_
 refine wc_region ?_
 refine wl_val (v_move' (by conv => (lhs; whnf))) rfl ?_
 refine wl_val (v_len_s Tryz.underlying23 rfl) rfl ?_
 refine wl_val (v_rem' (c := ((b.length % 64 : Nat) : Int)) rfl rfl (by omega) (by omega) (by omega)) rfl ?_
 refine wl_val (v_neq rfl rfl) rfl ?_
 refine wl_val (v_move' (by conv => (lhs; whnf))) rfl ?_
 refine wl_valg rfl rfl (fun e => (v_move' (by conv => (lhs; whnf)))) rfl ?_
 refine wl_valg rfl rfl (fun e => (v_len_s Tryz.underlying23 (by first | rfl | exact gx e rfl))) rfl ?_
 refine wl_valg rfl rfl (fun e => (v_lss (by first | rfl | exact gx e rfl) (by first | rfl | exact gx e rfl))) rfl ?_
 refine wl_val (v_pickO rfl rfl rfl) rfl ?_
 refine wl_nil ?_
 refine then_go ?_
 refine wc_cond rfl (fun h17 => ?_) (fun h17 => ?_)
 ·refine wc_seq ?_
  refine wc_region ?_
  refine wl_val (v_assign' (by conv => (lhs; whnf))) rfl ?_
  refine wl_val (v_assign' (by conv => (lhs; whnf))) rfl ?_
  refine wl_val (v_assign' (by conv => (lhs; whnf))) rfl ?_
  refine wl_nil ?_
  refine then_go ?_
  refine wc_ret (then_ret ?_)
  have hr : readF b = (0, [], 1) := by
   unfold readF
   rw [if_pos]
   simp only [Bool.or_eq_true, decide_eq_true_eq] at h17
   omega
  exact ret3 rfl rfl rfl (st.out ⟨.slice none 0 0, [], ⟨SlM.nil, by intro x hx; cases hx⟩, by rw [hr]; rfl, by rw [hr]; rfl⟩)
 ·refine wc_skip ?_
  refine then_go ?_
  refine wc_seq ?_
  refine wc_region ?_
  refine wl_val (v_move' (by conv => (lhs; whnf))) rfl ?_
  have hn : ¬ (b.length % 64 ≠ 0 ∨ b.length < 512) := by
   simp only [Bool.or_eq_false_iff, decide_eq_false_iff_not] at h17
   omega
  refine wl_call rfl (c_rpick st.im hb hl (by omega)) rfl ?_
  rintro v20 w ⟨t20, rfl⟩
  have st := st.pure t20
  have hrd : readF b = if (pickF b (hlf b.length)).2 = 0 then (0, [], 0) else ((pickF b (hlf b.length)).2, recs (pickF b (hlf b.length)).2 (halfB b (hlf b.length) (pickF b (hlf b.length)).1), 0) := by
   unfold readF
   rw [if_neg hn]
   rfl
  have hk := pickF_le (b := b) (n := hlf b.length)
  obtain ⟨k, hke⟩ : ∃ k, k = (pickF b (hlf b.length)).1 := ⟨_, rfl⟩
  obtain ⟨g, hge⟩ : ∃ g, g = (pickF b (hlf b.length)).2 := ⟨_, rfl⟩
  rw [← hke, ← hge] at hrd ⊢
  rw [← hke] at hk
  have h64 : 64 ≤ hlf b.length := by unfold hlf; omega
  have hle : hlf b.length ≤ b.length := by unfold hlf; omega
  have hl0 := length_halfB (b := b) hk
  refine wl_val (v_move' (by conv => (lhs; whnf))) rfl ?_
  refine wl_val (v_extract rfl rfl) rfl ?_
  refine wl_val (v_extract rfl rfl) rfl ?_
  refine wl_val (v_assign' (by conv => (lhs; whnf))) rfl ?_
  refine wl_val (v_assign' (by conv => (lhs; whnf))) rfl ?_
  refine wl_nil ?_
  refine then_go ?_
  refine wc_seq ?_
  refine wc_seq ?_
  refine wc_region ?_
  refine wl_val (v_move' (by conv => (lhs; whnf))) rfl ?_
  refine wl_val (v_eql64 (q := 0) rfl rfl) rfl ?_
  refine wl_nil ?_
  refine then_go ?_
  refine wc_if rfl (fun h24 => ?_) (fun h24 => ?_)
  ·refine wc_seq ?_
   refine wc_region ?_
   refine wl_val (v_assign' (by conv => (lhs; whnf))) rfl ?_
   refine wl_val (v_assign' (by conv => (lhs; whnf))) rfl ?_
   refine wl_val (v_assign' (by conv => (lhs; whnf))) rfl ?_
   refine wl_nil ?_
   refine then_go ?_
   refine wc_ret (then_ret ?_)
   rw [if_pos h24] at hrd
   exact ret3 rfl rfl rfl (st.out ⟨.slice none 0 0, [], ⟨SlM.nil, by intro x hx; cases hx⟩, by rw [hrd]; rfl, by rw [hrd]; rfl⟩)
  ·refine wc_skip ?_
   refine then_go ?_
   refine wc_seq ?_
   refine wc_region ?_
   refine wl_val (v_move' (by conv => (lhs; whnf))) rfl ?_
   refine wl_val (v_move' (by conv => (lhs; whnf))) rfl ?_
   refine wl_val (v_move' (by conv => (lhs; whnf))) rfl ?_
   refine wl_call rfl (c_rhalf st.im hk hbc hl) rfl ?_
   rintro v29 w ⟨t29, rfl⟩
   have st := st.pure t29
   refine wl_call rfl (c_records st.im (half_slM hb hk) (by omega) (by omega)) rfl ?_
   rintro v30 w ⟨t30, m1, hg1, hi1, lv, N, hN, hNe, rfl⟩
   have st := st.grown hg1 t30 hi1
   refine wl_val (v_move' (by conv => (lhs; whnf))) rfl ?_
   refine wl_val (v_extract rfl rfl) rfl ?_
   refine wl_val (v_extract rfl rfl) rfl ?_
   refine wl_val (v_assign' (by conv => (lhs; whnf))) rfl ?_
   refine wl_val (v_assign' (by conv => (lhs; whnf))) rfl ?_
   refine wl_nil ?_
   refine then_go ?_
   refine wc_seq ?_
   refine wc_region ?_
   refine wl_val (v_move' (by conv => (lhs; whnf))) rfl ?_
   refine wl_val (v_move' (by conv => (lhs; whnf))) rfl ?_
   refine wl_val (v_assign' (by conv => (lhs; whnf))) rfl ?_
   refine wl_val (v_assign' (by conv => (lhs; whnf))) rfl ?_
   refine wl_val (v_assign' (by conv => (lhs; whnf))) rfl ?_
   refine wl_nil ?_
   refine then_go ?_
   refine wc_ret ?_
   rw [if_neg h24] at hrd
   exact ret3 rfl rfl rfl (st.out ⟨lv, N, hN, by rw [hrd]; exact hNe, by rw [hrd]; rfl⟩)
theorem c_rsize {v : Value} {N : List (By × Value)} (him : Im m wI) (hN : PcsM m v N) (hNl : ∀ x ∈ N, x.1.length ≤ 1000000000) (hNn : N.length ≤ 1048577) : Ret Tryz.prog 90 #[v] wI fun v' w' => Tch wI w' [] [] ∧ v' = .int .i64 (sizeL (N.map (·.1)) : Nat) := by
 have st := St.start him
 obtain ⟨na, nc, hlv⟩ : ∃ a c, v = .slice a N.length c := by obtain ⟨⟨_, a, c, h, _⟩, _⟩ := hN; exact ⟨a, c, h⟩
 subst hlv
 refine ret_of Tryz.call90 Tryz.func90 rfl Tryz.ntmps90 Tryz.results90 rfl ?_
 refine wc_seq ?_
 refine wc_region ?_
 refine wl_val (v_assign' (by conv => (lhs; whnf))) rfl ?_
 refine wl_nil ?_
 refine then_go ?_
 refine wc_seq ?_
 refine wc_region ?_
 refine wl_val (v_assign' (by conv => (lhs; whnf))) rfl ?_
 refine wl_nil ?_
 refine then_go ?_
 refine wc_seq ?_
 refine wc_seq ?_
 refine wc_region ?_
 refine wl_val (v_assign' (by conv => (lhs; whnf))) rfl ?_
 refine wl_nil ?_
 refine then_go ?_
 refine wc_block ?_
 refine wc_loop (S := Nat) (fun q r w' => ∃ (i : Nat), q + i = N.length ∧ r 0 = .slice na N.length nc ∧ r 3 = .int .i64 ((sizeL ((N.take i).map (·.1)) : Nat) : Int) ∧ r 4 = .int .i64 i ∧ St m m [] wI w' []) id N.length ⟨0, by omega, rfl, rfl, rfl, st⟩ ?_
 clear st
 rintro q r w2 ⟨i, hqi, g0, g3, g4, st⟩
 refine wc_o 0 g0 (wc_o 3 g3 (wc_o 4 g4 ?_))
 refine wc_seq ?_
 refine wc_seq ?_
 refine wc_region ?_
 refine wl_val (v_move' (by conv => (lhs; whnf))) rfl ?_
 refine wl_val (v_move' (by conv => (lhs; whnf))) rfl ?_
 refine wl_val (v_len_s Tryz.underlying41 rfl) rfl ?_
 refine wl_val (v_lss rfl rfl) rfl ?_
 refine wl_nil ?_
 refine then_go ?_
 refine wc_if rfl (fun h8 => ?_) (fun h8 => ?_)
 ·refine wc_skip ?_
  refine then_go ?_
  refine wc_seq ?_
  refine wc_block ?_
  have hi : i < N.length := by omega
  obtain ⟨nb, no, _, hnv, hsk, hrk⟩ := hN.elem hi
  cases hnv
  have hxl := hNl _ (List.getElem_mem hi)
  obtain ⟨_, qa, qc, hqv, _⟩ := id hsk
  rw [hqv] at hrk
  have hsz : sizeL ((N.take i).map (·.1)) ≤ 1048577 * 1000000120 := Nat.le_trans (sizeL_le fun x hx => by obtain ⟨y, hy, rfl⟩ := List.mem_map.1 hx; exact hNl y (List.mem_of_mem_take hy)) (Nat.mul_le_mul_right _ (by rw [List.length_map, List.length_take]; omega))
  have hrl : recL N[i].1.length ≤ N[i].1.length + 120 := by unfold recL; omega
  refine wc_region ?_
  refine wl_val (v_move' (by conv => (lhs; whnf))) rfl ?_
  refine wl_val (v_move' (by conv => (lhs; whnf))) rfl ?_
  refine wl_val (v_move' (by conv => (lhs; whnf))) rfl ?_
  refine wl_val (v_ias i Tryz.underlying41 TF.t23 rfl rfl (by first | rfl | omega) (by first | omega | (dsimp only at *; omega))) rfl ?_
  refine wl_val (v_load rfl (hrk st.im)) rfl ?_
  refine wl_val (v_len_s Tryz.underlying23 rfl) rfl ?_
  refine wl_val (v_add' (c := ((N[i].1.length + 57 : Nat) : Int)) rfl rfl (by omega) (by omega) (by omega)) rfl ?_
  refine wl_val (v_add' (c := ((N[i].1.length + 120 : Nat) : Int)) rfl rfl (by omega) (by omega) (by omega)) rfl ?_
  refine wl_val (v_to (v' := .int .i64 (((N[i].1.length + 120) / 64 : Nat) : Int)) (v_quo' rfl rfl (by omega) (by omega) rfl (by omega)) (by rw [Int.natCast_ediv]; rfl)) rfl ?_
  refine wl_val (v_mul' (c := ((recL N[i].1.length : Nat) : Int)) rfl rfl (by unfold recL; omega) (by omega) (by omega)) rfl ?_
  refine wl_val (v_add' (c := ((sizeL ((N.take i).map (·.1)) + recL N[i].1.length : Nat) : Int)) rfl rfl (by omega) (by omega) (by omega)) rfl ?_
  refine wl_val (v_assign' (by conv => (lhs; whnf))) rfl ?_
  refine wl_nil ?_
  refine block_go (then_go ?_)
  refine wc_region ?_
  refine wl_val (v_move' (by conv => (lhs; whnf))) rfl ?_
  refine wl_val (v_add' (c := ((i + 1 : Nat) : Int)) rfl rfl (by omega) (by omega) (by omega)) rfl ?_
  refine wl_val (v_assign' (by conv => (lhs; whnf))) rfl ?_
  refine wl_nil ?_
  refine then_go ?_
  refine ⟨q - 1, by simp; omega, i + 1, by omega, rfl, ?_, rfl, st⟩
  rw [List.take_succ_eq_append_getElem hi, List.map_append, List.map_singleton, sizeL_snoc]
  rfl
 ·refine wc_exit (then_exit (then_exit (block_hit ?_)))
  refine then_go ?_
  refine wc_seq ?_
  refine wc_region ?_
  refine wl_val (v_move' (by conv => (lhs; whnf))) rfl ?_
  refine wl_val (v_assign' (by conv => (lhs; whnf))) rfl ?_
  refine wl_nil ?_
  refine then_go ?_
  refine wc_ret ?_
  have hiN : i = N.length := by omega
  subst hiN
  exact ret1 rfl ⟨st.touch, by rw [List.take_length]; rfl⟩
theorem c_fits {v : Value} {N : List (By × Value)} {n : Nat} (him : Im m wI) (hN : PcsM m v N) (hNl : ∀ x ∈ N, x.1.length ≤ 1000000000) (hNn : N.length ≤ 1048577) (hn : n ≤ 1000000) (hn2 : 2 ≤ n) : Ret Tryz.prog 72 #[v, .int .i64 n] wI fun v' w' => Tch wI w' [] [] ∧ v' = .bool (decide (sizeL (N.map (·.1)) ≤ n / 2 * 64 - 64)) := by
 have st := St.start him
 refine ret_of Tryz.call72 Tryz.func72 rfl Tryz.ntmps72 Tryz.results72 rfl ?_
 refine wc_seq ?_
 refine wc_region ?_
 refine wl_val (v_assign' (by conv => (lhs; whnf))) rfl ?_
 refine wl_nil ?_
 refine then_go ?_
 refine wc_seq ?_
 refine wc_region ?_
 refine wl_val (v_move' (by conv => (lhs; whnf))) rfl ?_
 refine wl_call rfl (c_rsize st.im hN hNl hNn) rfl ?_
 rintro v6 w ⟨t6, rfl⟩
 have st := st.pure t6
 refine wl_val (v_move' (by conv => (lhs; whnf))) rfl ?_
 refine wl_val (v_to (v' := .int .i64 ((n / 2 : Nat) : Int)) (v_quo' rfl rfl (by omega) (by omega) rfl (by omega)) (by rw [Int.natCast_ediv]; rfl)) rfl ?_
 refine wl_val (v_mul' (c := ((n / 2 * 64 : Nat) : Int)) rfl rfl (by omega) (by omega) (by omega)) rfl ?_
 refine wl_val (v_sub' (c := ((n / 2 * 64 - 64 : Nat) : Int)) rfl rfl (by omega) (by omega) (by omega)) rfl ?_
 refine wl_val (wl_valD (v_leq rfl rfl) (q := decide (sizeL (N.map (·.1)) ≤ n / 2 * 64 - 64)) (by rw [decide_eq_decide]; omega)) rfl ?_
 refine wl_val (v_assign' (by conv => (lhs; whnf))) rfl ?_
 refine wl_nil ?_
 refine then_go ?_
 refine wc_ret ?_
 exact ret1 rfl ⟨st.touch, rfl⟩
theorem c_rcheck {v : Value} {b : By} (him : Im m wI) (hb : SlM m v 1 b.length (bs b)) : Ret Tryz.prog 71 #[v] wI fun v' w' => Tch wI w' [] [] ∧ v' = .int .i64 (checkE b) := by
 have st := St.start him
 obtain ⟨ba, bc, rfl, hbc⟩ := hb.opn
 refine ret_of Tryz.call71 Tryz.func71 rfl Tryz.ntmps71 Tryz.results71 rfl ?_
 refine wc_seq ?_
 refine wc_region ?_
 refine wl_val (v_assign' (by conv => (lhs; whnf))) rfl ?_
 refine wl_nil ?_
 refine then_go ?_
 refine wc_seq ?_
 refine wc_seq ?_
 refine wc_region ?_
 refine wl_val (v_move' (by conv => (lhs; whnf))) rfl ?_
 refine wl_val (v_len_s Tryz.underlying23 rfl) rfl ?_
 refine wl_val (v_eql rfl rfl) rfl ?_
 refine wl_val (v_move' (by conv => (lhs; whnf))) rfl ?_
 refine wl_valg rfl rfl (fun e => (v_move' (by conv => (lhs; whnf)))) rfl ?_
 refine wl_valg rfl rfl (fun e => (v_len_s Tryz.underlying23 (by first | rfl | exact gx e rfl))) rfl ?_
 refine wl_valg rfl rfl (fun e => (v_gtr (by first | rfl | exact gx e rfl) (by first | rfl | exact gx e rfl))) rfl ?_
 refine wl_val (v_pickO rfl rfl rfl) rfl ?_
 refine wl_nil ?_
 refine then_go ?_
 refine wc_cond rfl (fun h10 => ?_) (fun h10 => ?_)
 ·refine wc_seq ?_
  refine wc_region ?_
  refine wl_val (v_assign' (by conv => (lhs; whnf))) rfl ?_
  refine wl_nil ?_
  refine then_go ?_
  refine wc_ret (then_ret ?_)
  exact ret1 rfl ⟨st.touch, by unfold checkE; rw [if_neg (fun h => by rw [Bool.or_eq_true, decide_eq_true_eq, decide_eq_true_eq] at h10; omega)]; rfl⟩
 ·refine wc_skip ?_
  refine then_go ?_
  refine wc_seq ?_
  refine wc_region ?_
  refine wl_val (v_assign' (by conv => (lhs; whnf))) rfl ?_
  refine wl_nil ?_
  refine then_go ?_
  refine wc_ret ?_
  exact ret1 rfl ⟨st.touch, by unfold checkE; rw [if_pos (by rw [Bool.or_eq_false_iff, decide_eq_false_iff_not, decide_eq_false_iff_not] at h10; omega)]; rfl⟩
end
end Go.Proofs.YtladpaehbolghaaGreat

namespace Go.Proofs.YtladpaehbolghaaGreat
open Go Go.RowKit K SH DK JR
namespace JR
def writesD (n : Nat) : DS → Nat → List By → DS × Int
 | d, _, [] => syncD d
 | d, i, c :: cs => if (writeD d n i c).2 ≠ 0 then writeD d n i c else writesD n (writeD d n i c).1 (i + 1) cs
def chunk (b : By) : List By := (List.range (b.length / 64)).map fun j => (b.drop (64 * j)).take 64
def putD (n : Nat) (d : DS) (i : Nat) (b : By) : DS × Int := writesD n d i (chunk b)
structure LG where
 half : Nat
 gen : UInt64
 fin : Nat
def overD (n : Nat) (d : DS) (s : LG) (L : List By) : DS × LG × Int :=
 if n / 2 * 64 - 64 < sizeL L then (d, s, 13) else
 if (putD n d ((1 - s.half) * (n / 2)) (List.replicate (n / 2 * 64) 0)).2 ≠ 0 then ((putD n d ((1 - s.half) * (n / 2)) (List.replicate (n / 2 * 64) 0)).1, s, (putD n d ((1 - s.half) * (n / 2)) (List.replicate (n / 2 * 64) 0)).2) else
 if (putD n (putD n d ((1 - s.half) * (n / 2)) (List.replicate (n / 2 * 64) 0)).1 ((1 - s.half) * (n / 2) + 1) (allB (s.gen + 1) 0 L)).2 ≠ 0 then ((putD n (putD n d ((1 - s.half) * (n / 2)) (List.replicate (n / 2 * 64) 0)).1 ((1 - s.half) * (n / 2) + 1) (allB (s.gen + 1) 0 L)).1, s, (putD n (putD n d ((1 - s.half) * (n / 2)) (List.replicate (n / 2 * 64) 0)).1 ((1 - s.half) * (n / 2) + 1) (allB (s.gen + 1) 0 L)).2) else
 if (putD n (putD n (putD n d ((1 - s.half) * (n / 2)) (List.replicate (n / 2 * 64) 0)).1 ((1 - s.half) * (n / 2) + 1) (allB (s.gen + 1) 0 L)).1 ((1 - s.half) * (n / 2)) (headB (s.gen + 1))).2 ≠ 0 then ((putD n (putD n (putD n d ((1 - s.half) * (n / 2)) (List.replicate (n / 2 * 64) 0)).1 ((1 - s.half) * (n / 2) + 1) (allB (s.gen + 1) 0 L)).1 ((1 - s.half) * (n / 2)) (headB (s.gen + 1))).1, s, (putD n (putD n (putD n d ((1 - s.half) * (n / 2)) (List.replicate (n / 2 * 64) 0)).1 ((1 - s.half) * (n / 2) + 1) (allB (s.gen + 1) 0 L)).1 ((1 - s.half) * (n / 2)) (headB (s.gen + 1))).2) else
 ((putD n (putD n (putD n d ((1 - s.half) * (n / 2)) (List.replicate (n / 2 * 64) 0)).1 ((1 - s.half) * (n / 2) + 1) (allB (s.gen + 1) 0 L)).1 ((1 - s.half) * (n / 2)) (headB (s.gen + 1))).1, ⟨1 - s.half, s.gen + 1, 64 + sizeL L⟩, 0)
def appD (n : Nat) (d : DS) (s : LG) (L : List By) (b : By) : DS × LG × Int :=
 if checkE b ≠ 0 then (d, s, 1) else
 if n / 2 * 64 < s.fin + recL b.length then (d, s, 13) else
 if (putD n d ((s.half * (n / 2 * 64) + s.fin) / 64) (recB s.gen (UInt64.ofNat L.length) b)).2 ≠ 0 then ((putD n d ((s.half * (n / 2 * 64) + s.fin) / 64) (recB s.gen (UInt64.ofNat L.length) b)).1, s, (putD n d ((s.half * (n / 2 * 64) + s.fin) / 64) (recB s.gen (UInt64.ofNat L.length) b)).2) else
 ((putD n d ((s.half * (n / 2 * 64) + s.fin) / 64) (recB s.gen (UInt64.ofNat L.length) b)).1, { s with fin := s.fin + recL b.length }, 0)
theorem chunk_len {b : By} : (chunk b).length = b.length / 64 := by simp [chunk]
theorem chunk_64 {b : By} : ∀ c ∈ chunk b, c.length = 64 := fun c hc => by
 obtain ⟨j, hj, rfl⟩ := List.mem_map.1 hc
 have := List.mem_range.1 hj
 rw [List.length_take, List.length_drop]
 omega
theorem chunk_at {b : By} {j : Nat} (hj : j < (chunk b).length) : (chunk b)[j] = (b.drop (64 * j)).take 64 := by simp [chunk]
theorem chunk_join {b : By} (h : b.length % 64 = 0) : (chunk b).flatten = b := by
 have key : ∀ k, k ≤ b.length / 64 → ((List.range k).map fun j => (b.drop (64 * j)).take 64).flatten = b.take (64 * k) := by
  intro k
  induction k with
  | zero => intro _; simp
  | succ k ih =>
   intro hk
   rw [List.range_succ, List.map_append, List.flatten_append, ih (by omega), Nat.mul_succ, List.take_add]
   simp
 unfold chunk
 rw [key _ (Nat.le_refl _), List.take_of_length_le (by omega)]
def calm (S : By) : DS := ⟨S, [], -1, false⟩
def spl : By → Nat → List By → By
 | S, _, [] => S
 | S, i, c :: cs => spl (splice S (64 * i) c) (i + 1) cs
theorem writes_calm {n : Nat} : ∀ {cs : List By} {S : By} {W : List (Nat × By)} {i : Nat}, (∀ c ∈ cs, c.length = 64) → i + cs.length ≤ n → writesD n ⟨S, W, -1, false⟩ i cs = (calm (spl (dump ⟨S, W, -1, false⟩) i cs), 0)
 | [], S, W, i, _, _ => by simp [writesD, syncD, burn, calm, spl, dump]
 | c :: cs, S, W, i, hc, hn => by
  rw [List.length_cons] at hn
  have h64 := hc c List.mem_cons_self
  have hw : writeD ⟨S, W, -1, false⟩ n i c = (⟨S, W ++ [(i, c)], -1, false⟩, 0) := by
   unfold writeD
   rw [if_neg (by simp), if_neg (by omega), if_neg (by omega)]
   simp [burn]
  rw [writesD, hw, if_neg (by simp)]
  rw [writes_calm (fun x hx => hc x (List.mem_cons_of_mem _ hx)) (by omega)]
  simp [spl, dump]
theorem splice_splice {S a b : By} {o : Nat} (h : o + a.length + b.length ≤ S.length) : splice (splice S o a) (o + a.length) b = splice S o (a ++ b) := by
 have h1 : (S.take o ++ a).length = o + a.length := by simp; omega
 unfold splice
 have e : (S.take o ++ a ++ S.drop (o + a.length)).drop (o + a.length) = S.drop (o + a.length) := List.drop_left' h1
 rw [List.take_left' h1, ← List.drop_drop, e, List.drop_drop, List.length_append]
 simp only [List.append_assoc, Nat.add_assoc]
theorem spl_eq : ∀ {cs : List By} {S : By} {i : Nat}, (∀ c ∈ cs, c.length = 64) → 64 * (i + cs.length) ≤ S.length → spl S i cs = splice S (64 * i) cs.flatten
 | [], S, i, _, _ => by simp [spl, splice_nil]
 | c :: cs, S, i, hc, hn => by
  have h64 := hc c List.mem_cons_self
  have hfl : cs.flatten.length = 64 * cs.length := by
   have : ∀ l : List By, (∀ c ∈ l, c.length = 64) → l.flatten.length = 64 * l.length := by
    intro l
    induction l with
    | nil => intro _; rfl
    | cons x l ih => intro h; rw [List.flatten_cons, List.length_append, ih fun y hy => h y (List.mem_cons_of_mem _ hy), h x List.mem_cons_self, List.length_cons]; omega
   exact this cs fun x hx => hc x (List.mem_cons_of_mem _ hx)
  rw [List.length_cons] at hn
  rw [spl, spl_eq (fun x hx => hc x (List.mem_cons_of_mem _ hx)) (by rw [length_splice (by omega)]; omega), List.flatten_cons]
  have e : 64 * (i + 1) = 64 * i + c.length := by omega
  rw [e, splice_splice (by omega)]
theorem put_calm {n i : Nat} {S b : By} (hS : S.length = 64 * n) (hb : b.length % 64 = 0) (hi : 64 * i + b.length ≤ 64 * n) : putD n (calm S) i b = (calm (splice S (64 * i) b), 0) := by
 have hc := chunk_len (b := b)
 unfold putD calm
 rw [writes_calm chunk_64 (by omega)]
 have : dump ⟨S, [], -1, false⟩ = S := rfl
 rw [this, spl_eq chunk_64 (by omega), chunk_join hb]
 rfl
theorem ok_burn {d : DS} {n : Nat} (h : d.ok n) : (burn d).ok n := ⟨h.pos, h.len, h.le, h.wt⟩
theorem length_foldl_splice : ∀ {W : List (Nat × By)} {S : By} {n : Nat}, S.length = 64 * n → (∀ x ∈ W, x.1 < n ∧ x.2.length = 64) → (W.foldl (fun S x => splice S (64 * x.1) x.2) S).length = 64 * n
 | [], S, n, h, _ => h
 | x :: W, S, n, h, hW => by
  obtain ⟨h1, h2⟩ := hW x List.mem_cons_self
  rw [List.foldl_cons]
  exact length_foldl_splice (by rw [length_splice (by omega)]; exact h) fun y hy => hW y (List.mem_cons_of_mem _ hy)
theorem length_dump {d : DS} {n : Nat} (h : d.ok n) : (dump d).length = 64 * n := length_foldl_splice h.len h.wt
theorem ok_write {d : DS} {n i : Nat} {c : By} (h : d.ok n) : (writeD d n i c).1.ok n := by
 unfold writeD
 split
 ·exact h
 ·split
  ·exact h
  ·split
   ·exact h
   ·rename_i h1 h2 h3
    refine ok_burn ⟨h.pos, h.len, h.le, fun x hx => ?_⟩
    rcases List.mem_append.1 hx with hx | hx
    ·exact h.wt x hx
    ·rw [List.mem_singleton.1 hx]
     exact ⟨by simp; omega, by simpa using h3⟩
theorem ok_sync {d : DS} {n : Nat} (h : d.ok n) : (syncD d).1.ok n := by
 unfold syncD
 split
 ·exact h
 ·split
  ·exact ok_burn h
  ·exact ⟨h.pos, length_dump h, h.le, by intro x hx; cases hx⟩
def Fz (d : DS) : Prop := -1 ≤ d.fuse ∧ d.fuse ≤ 9223372036854775807
theorem fz_burn {d : DS} (h : Fz d) : Fz (burn d) := by
 unfold Fz burn at *
 dsimp only
 split <;> omega
theorem fz_write {d : DS} {n i : Nat} {c : By} (h : Fz d) : Fz (writeD d n i c).1 := by
 unfold writeD
 split
 ·exact h
 ·split
  ·exact h
  ·split
   ·exact h
   ·exact fz_burn (d := { d with wt := d.wt ++ [((i : Int).toNat, c)] }) h
theorem fz_sync {d : DS} (h : Fz d) : Fz (syncD d).1 := by
 unfold syncD
 split
 ·exact h
 ·split
  ·exact fz_burn h
  ·exact fz_burn h
theorem wt_write {d : DS} {n i : Nat} {c : By} : (writeD d n i c).1.wt.length ≤ d.wt.length + 1 := by
 unfold writeD
 split
 ·simp
 ·split
  ·simp
  ·split
   ·simp
   ·simp [burn]
theorem wt_sync {d : DS} : (syncD d).1.wt.length ≤ d.wt.length := by
 unfold syncD
 split
 ·simp
 ·split
  ·simp [burn]
  ·simp
theorem sync_done {d : DS} (h : (syncD d).2 = 0) : (syncD d).1.wt = [] := by
 unfold syncD at *
 split at h
 ·cases h
 ·split at h
  ·cases h
  ·rename_i h1 h2; rw [if_neg h1, if_neg h2]
structure Rdy (n : Nat) (d : DS) (k : Nat) : Prop where
 ok : d.ok n
 fz : Fz d
 few : d.wt.length ≤ k
theorem rdy_writes {n : Nat} : ∀ {cs : List By} {d : DS} {i k : Nat}, Rdy n d k → Rdy n (writesD n d i cs).1 (k + cs.length) ∧ ((writesD n d i cs).2 = 0 → (writesD n d i cs).1.wt = [])
 | [], d, i, k, h => ⟨⟨ok_sync h.ok, fz_sync h.fz, Nat.le_trans wt_sync h.few⟩, sync_done⟩
 | c :: cs, d, i, k, h => by
  have h1 : Rdy n (writeD d n i c).1 (k + 1) := ⟨ok_write h.ok, fz_write h.fz, Nat.le_trans wt_write (by have := h.few; omega)⟩
  rw [writesD]
  split
  ·rename_i hz
   exact ⟨⟨h1.ok, h1.fz, by have := h1.few; rw [List.length_cons]; omega⟩, fun h0 => (hz h0).elim⟩
  ·have := rdy_writes (cs := cs) (i := i + 1) h1
   rw [List.length_cons]
   exact ⟨⟨this.1.ok, this.1.fz, by have := this.1.few; omega⟩, this.2⟩
theorem rdy_put {n : Nat} {d : DS} {i k : Nat} {b : By} (h : Rdy n d k) : Rdy n (putD n d i b).1 (k + b.length / 64) ∧ ((putD n d i b).2 = 0 → (putD n d i b).1.wt = []) := by
 have := rdy_writes (cs := chunk b) (i := i) h
 rwa [chunk_len] at this
end JR
end Go.Proofs.YtladpaehbolghaaGreat

namespace Go.Proofs.YtladpaehbolghaaGreat
open Go Go.RowKit K DK
def wtCells (l : List (Nat × By)) : List Value := l.flatMap fun x => Value.int .i64 x.1 :: bs x.2
theorem drop_wtCells {l : List (Nat × By)} (h : ∀ x ∈ l, x.2.length = 64) (i : Nat) : (wtCells l).drop (i * 65) = wtCells (l.drop i) := by
 induction l generalizing i with
 | nil => simp [wtCells]
 | cons x l ih =>
  cases i with
  | zero => simp
  | succ i =>
   have h1 := ih (fun y hy => h y (List.mem_cons_of_mem _ hy)) i
   have h2 := h x List.mem_cons_self
   have e : (i + 1) * 65 = (Value.int .i64 x.1 :: bs x.2).length + i * 65 := by simp [length_bs, h2]; omega
   have e2 : wtCells (x :: l) = (Value.int .i64 x.1 :: bs x.2) ++ wtCells l := by simp [wtCells]
   rw [e, e2, ← List.drop_drop, List.drop_left, List.drop_succ_cons]
   exact h1
theorem wt_elem {l : List (Nat × By)} (h : ∀ x ∈ l, x.2.length = 64) {i : Nat} (hi : i < l.length) : cellsAt (wtCells l) 65 i = Value.int .i64 l[i].1 :: bs l[i].2 := by
 unfold cellsAt
 rw [drop_wtCells h, List.drop_eq_getElem_cons hi]
 have h2 := h l[i] (List.getElem_mem hi)
 simp only [wtCells, List.flatMap_cons]
 have e : (65 : Nat) = (Value.int .i64 l[i].1 :: bs l[i].2).length := by simp [length_bs, h2]
 rw [e, List.take_left]
structure diskM (m : Mem) (b n : Nat) (d : DS) : Prop where
 ok : d.ok n
 mem : ∃ s wv, m b = some (.cells #[.slice (some ⟨s, 0, none⟩) n n, wv, .int .i64 d.fuse, .bool d.down] 91 (0, 0)) ∧ m s = some (.cells (bs d.S).toArray 104 (0, 0)) ∧ SlM m wv 65 d.wt.length (wtCells d.wt)
 few : d.wt.length ≤ 9223372036854775807
theorem bs_append (a b : By) : bs (a ++ b) = bs a ++ bs b := by simp [bs]
theorem secs_split (S : By) (i : Nat) : S.take (64 * i) ++ sec S i ++ S.drop (64 * i + 64) = S := by
 unfold sec
 rw [List.append_assoc, ← List.drop_drop, List.take_append_drop, List.take_append_drop]
theorem c_check {m : Mem} {w : World} {b n : Nat} {d : DS} (i : Int) (him : Im m w) (hd : diskM m b n d) :
  Ret Tryz.prog 112 #[.pointer (some ⟨b, 0, none⟩), .int .i64 i] w fun v w' => w' = w ∧ v = .int .i64 (if d.down then 14 else if i < 0 ∨ i ≥ n then 2 else 0) := by
 obtain ⟨ok, ⟨s, wv, hb, hs, hw⟩, hf⟩ := hd
 have st := St.start him
 refine ret_of Tryz.call112 Tryz.func112 rfl Tryz.ntmps112 Tryz.results112 rfl ?_
 refine wc_seq ?_
 refine wc_region ?_
 refine wl_val (v_assign' (by conv => (lhs; whnf))) rfl ?_
 refine wl_nil ?_
 refine then_go ?_
 refine wc_seq ?_
 refine wc_block ?_
 refine wc_seq ?_
 refine wc_region ?_
 refine wl_val (v_move' (by conv => (lhs; whnf))) rfl ?_
 refine wl_val (v_nil rfl) rfl ?_
 refine wl_val (v_fa TF.f91_3 rfl) rfl ?_
 refine wl_val (v_load rfl (st.readm hb TF.t4 rfl)) rfl ?_
 refine wl_val (v_assign' (by conv => (lhs; whnf))) rfl ?_
 refine wl_nil ?_
 refine then_go ?_
 refine wc_cond rfl (fun h5 => ?_) (fun h5 => ?_)
 ·refine wc_seq ?_
  refine wc_region ?_
  refine wl_val (v_assign' (by conv => (lhs; whnf))) rfl ?_
  refine wl_nil ?_
  refine then_go ?_
  refine wc_ret (block_ret (then_ret ?_))
  exact ret1 (v := .int .i64 14) rfl ⟨rfl, by simp [h5]⟩
 ·refine wc_seq ?_
  refine wc_region ?_
  refine wl_val (v_move' (by conv => (lhs; whnf))) rfl ?_
  refine wl_val (v_lss rfl rfl) rfl ?_
  refine wl_val (v_move' (by conv => (lhs; whnf))) rfl ?_
  by_cases hg2 : i < 0
  ·rw [show decide (i < 0) = true from decide_eq_true hg2]
   refine wl_off rfl rfl rfl rfl ?_
   refine wl_off rfl rfl rfl rfl ?_
   refine wl_off rfl rfl rfl rfl ?_
   refine wl_off rfl rfl rfl rfl ?_
   refine wl_off rfl rfl rfl rfl ?_
   refine wl_off rfl rfl rfl rfl ?_
   refine wl_off rfl rfl rfl rfl ?_
   refine wl_val (v_pick rfl) rfl ?_
   refine wl_val (v_assign' (by conv => (lhs; whnf))) rfl ?_
   refine wl_nil ?_
   refine then_go ?_
   refine wc_true rfl ?_
   refine wc_seq ?_
   refine wc_region ?_
   refine wl_val (v_assign' (by conv => (lhs; whnf))) rfl ?_
   refine wl_nil ?_
   refine then_go ?_
   refine wc_ret (block_ret (then_ret ?_))
   exact ret1 (v := .int .i64 2) rfl ⟨rfl, by simp [h5, hg2]⟩
  ·rw [show decide (i < 0) = false from decide_eq_false hg2]
   refine wl_on rfl rfl ?_
   refine wl_val (v_move' (by conv => (lhs; whnf))) rfl ?_
   refine wl_on rfl rfl ?_
   refine wl_val (v_move' (by conv => (lhs; whnf))) rfl ?_
   refine wl_on rfl rfl ?_
   refine wl_val (v_nil rfl) rfl ?_
   refine wl_on rfl rfl ?_
   refine wl_val (v_fa TF.f91_0 rfl) rfl ?_
   refine wl_on rfl rfl ?_
   refine wl_val (v_load rfl (st.readm hb TF.t88 rfl)) rfl ?_
   refine wl_on rfl rfl ?_
   refine wl_val (v_len_s Tryz.underlying88 rfl) rfl ?_
   refine wl_on rfl rfl ?_
   refine wl_val (v_geq rfl rfl) rfl ?_
   refine wl_val (v_pick rfl) rfl ?_
   refine wl_val (v_assign' (by conv => (lhs; whnf))) rfl ?_
   refine wl_nil ?_
   refine then_go ?_
   refine wc_if rfl (fun h10 => ?_) (fun h10 => ?_)
   ·refine wc_seq ?_
    refine wc_region ?_
    refine wl_val (v_assign' (by conv => (lhs; whnf))) rfl ?_
    refine wl_nil ?_
    refine then_go ?_
    refine wc_ret (block_ret (then_ret ?_))
    exact ret1 (v := .int .i64 2) rfl ⟨rfl, by simp [h5, h10]⟩
   ·refine wc_skip ?_
    refine block_go (then_go ?_)
    refine wc_seq ?_
    refine wc_region ?_
    refine wl_val (v_assign' (by conv => (lhs; whnf))) rfl ?_
    refine wl_nil ?_
    refine then_go ?_
    refine wc_ret ?_
    exact ret1 (v := .int .i64 0) rfl ⟨rfl, by simp [h5, hg2]; omega⟩
theorem c_size {m : Mem} {w : World} {b n : Nat} {d : DS} (him : Im m w) (hd : diskM m b n d) :
  Ret Tryz.prog 21 #[.pointer (some ⟨b, 0, none⟩)] w fun v w' => w' = w ∧ v = .int .i64 n := by
 obtain ⟨ok, ⟨s, wv, hb, hs, hw⟩, hf⟩ := hd
 have st := St.start him
 refine ret_of Tryz.call21 Tryz.func21 rfl Tryz.ntmps21 Tryz.results21 rfl ?_
 refine wc_seq ?_
 refine wc_region ?_
 refine wl_val (v_assign' (by conv => (lhs; whnf))) rfl ?_
 refine wl_nil ?_
 refine then_go ?_
 refine wc_seq ?_
 refine wc_region ?_
 refine wl_val (v_move' (by conv => (lhs; whnf))) rfl ?_
 refine wl_val (v_nil rfl) rfl ?_
 refine wl_val (v_fa TF.f91_0 rfl) rfl ?_
 refine wl_val (v_load rfl (st.readm hb TF.t88 rfl)) rfl ?_
 refine wl_val (v_len_s Tryz.underlying88 rfl) rfl ?_
 refine wl_val (v_assign' (by conv => (lhs; whnf))) rfl ?_
 refine wl_nil ?_
 refine then_go ?_
 refine wc_ret ?_
 exact ret1 rfl ⟨rfl, rfl⟩
end Go.Proofs.YtladpaehbolghaaGreat

namespace Go.Proofs.YtladpaehbolghaaGreat
open Go Go.RowKit K DK
def diskL (b s n : Nat) (wv : Value) (d : DS) : List Ent :=
 [blk b #[.slice (some ⟨s, 0, none⟩) n n, wv, .int .i64 d.fuse, .bool d.down] 91, blk s (bs d.S).toArray 104, rowE wv 106 65 d.wt.length (wtCells d.wt)]
def diskO (b s n : Nat) (wv : Value) (d : DS) : Ent := joinE (diskL b s n wv d)
def DiskCall (f : FuncId) (args : List Value) (b s n : Nat) (wv : Value) (d : DS) (w : World) (R : Value → DS → Prop) : Prop :=
 Ret Tryz.prog f (.pointer (some ⟨b, 0, none⟩) :: args).toArray w fun v w' => ∃ wv' d', Tch w w' (diskO b s n wv d).foot (diskO b s n wv' d').foot ∧ (diskO b s n wv' d').holds w' ∧ R v d'
theorem row_few {w : World} {v : Value} {e size n : Nat} {xs : List Value} (h : (rowE v e size n xs).holds w) : n ≤ 9223372036854775807 := by
 rcases h.2 with ⟨_, rfl⟩ | ⟨g, cap, cur, _, _, _, hc, hm, _⟩
 ·omega
 ·unfold maxLen at hm; omega
theorem disk_snap {m0 m : Mem} {F : List Nat} {w0 w : World} {Es : List Ent} {b s n : Nat} {wv : Value} {d : DS} (st : St m0 m F w0 w (diskL b s n wv d ++ Es)) (ok : d.ok n) : diskM (heapM w) b n d :=
 ⟨ok, ⟨s, wv, st.at (i := 0) rfl, st.at (i := 1) rfl, row_SlM (st.at (i := 2) rfl) fun _ _ _ h => h⟩, row_few (st.at (i := 2) rfl)⟩
section
variable {m : Mem} {w : World} {b s n : Nat} {wv : Value} {d : DS}
theorem c_burns (him : Im m w) (hE : (diskO b s n wv d).holds w) (hm : ∀ k ∈ (diskO b s n wv d).foot, m k = none) (hf : -1 ≤ d.fuse ∧ d.fuse ≤ 9223372036854775807) :
  DiskCall 113 [] b s n wv d w fun v d' => d' = burn d ∧ v = .bool (burn d).down := by
 have st := St.begin him hE hm
 have h1 := hf.1
 have h2 := hf.2
 refine ret_of Tryz.call113 Tryz.func113 rfl Tryz.ntmps113 Tryz.results113 rfl ?_
 refine wc_seq ?_
 refine wc_region ?_
 refine wl_val (v_assign' (by conv => (lhs; whnf))) rfl ?_
 refine wl_nil ?_
 refine then_go ?_
 refine wc_seq ?_
 refine wc_region ?_
 refine wl_val (v_move' (by conv => (lhs; whnf))) rfl ?_
 refine wl_val (v_move' (by conv => (lhs; whnf))) rfl ?_
 refine wl_val (v_nil rfl) rfl ?_
 refine wl_val (v_fa TF.f91_2 rfl) rfl ?_
 refine wl_val (v_load rfl (by first | exact st.reads 0 rfl TF.t3 rfl | exact st.reads 1 rfl TF.t3 rfl | exact st.reads 2 rfl TF.t3 rfl | exact st.reads 3 rfl TF.t3 rfl | exact st.reads 4 rfl TF.t3 rfl | assumption)) rfl ?_
 refine wl_val (v_eql rfl rfl) rfl ?_
 refine wl_val (v_nil rfl) rfl ?_
 refine wl_val (v_fa TF.f91_3 rfl) rfl ?_
 refine wl_store1 0 st rfl TF.t4 rfl (by conv => (lhs; whnf)) rfl (by first | exact lt_ok rfl | decide | simp) ?_
 intro w st
 have st : St m m _ _ _ (diskL b s n wv { d with down := decide (d.fuse = 0) }) := st
 refine wl_nil ?_
 refine then_go ?_
 refine wc_seq ?_
 refine wc_seq ?_
 refine wc_region ?_
 refine wl_val (v_move' (by conv => (lhs; whnf))) rfl ?_
 refine wl_val (v_nil rfl) rfl ?_
 refine wl_val (v_fa TF.f91_2 rfl) rfl ?_
 refine wl_val (v_load rfl (by first | exact st.reads 0 rfl TF.t3 rfl | exact st.reads 1 rfl TF.t3 rfl | exact st.reads 2 rfl TF.t3 rfl | exact st.reads 3 rfl TF.t3 rfl | exact st.reads 4 rfl TF.t3 rfl | assumption)) rfl ?_
 refine wl_val (v_gtr rfl rfl) rfl ?_
 refine wl_nil ?_
 refine then_go ?_
 refine wc_if rfl (fun h15 => ?_) (fun h15 => ?_)
 ·refine wc_region ?_
  refine wl_val (v_move' (by conv => (lhs; whnf))) rfl ?_
  refine wl_val (v_nil rfl) rfl ?_
  refine wl_val (v_fa TF.f91_2 rfl) rfl ?_
  refine wl_val (v_load rfl (by first | exact st.reads 0 rfl TF.t3 rfl | exact st.reads 1 rfl TF.t3 rfl | exact st.reads 2 rfl TF.t3 rfl | exact st.reads 3 rfl TF.t3 rfl | exact st.reads 4 rfl TF.t3 rfl | assumption)) rfl ?_
  refine wl_val (v_sub' rfl rfl rfl (by first | omega | (dsimp only at *; omega)) (by first | omega | (dsimp only at *; omega))) rfl ?_
  refine wl_val (v_nil rfl) rfl ?_
  refine wl_val (v_fa TF.f91_2 rfl) rfl ?_
  refine wl_store1 0 st rfl TF.t3 rfl (by conv => (lhs; whnf)) rfl (by first | exact lt_ok rfl | decide | simp) ?_
  intro w st
  have st : St m m _ _ _ (diskL b s n wv { d with down := decide (d.fuse = 0), fuse := d.fuse - 1 }) := st
  refine wl_nil ?_
  refine then_go ?_
  refine wc_seq ?_
  refine wc_region ?_
  refine wl_val (v_move' (by conv => (lhs; whnf))) rfl ?_
  refine wl_val (v_nil rfl) rfl ?_
  refine wl_val (v_fa TF.f91_3 rfl) rfl ?_
  refine wl_val (v_load rfl (by first | exact st.reads 0 rfl TF.t4 rfl | exact st.reads 1 rfl TF.t4 rfl | exact st.reads 2 rfl TF.t4 rfl | exact st.reads 3 rfl TF.t4 rfl | exact st.reads 4 rfl TF.t4 rfl | assumption)) rfl ?_
  refine wl_val (v_assign' (by conv => (lhs; whnf))) rfl ?_
  refine wl_nil ?_
  refine then_go ?_
  refine wc_ret ?_
  exact ret1 rfl ⟨wv, { d with down := decide (d.fuse = 0), fuse := d.fuse - 1 }, (St.finish (Es := []) st).1, (St.finish (Es := []) st).2, by simp [burn, h15], rfl⟩
 ·refine wc_skip ?_
  refine then_go ?_
  refine wc_seq ?_
  refine wc_region ?_
  refine wl_val (v_move' (by conv => (lhs; whnf))) rfl ?_
  refine wl_val (v_nil rfl) rfl ?_
  refine wl_val (v_fa TF.f91_3 rfl) rfl ?_
  refine wl_val (v_load rfl (by first | exact st.reads 0 rfl TF.t4 rfl | exact st.reads 1 rfl TF.t4 rfl | exact st.reads 2 rfl TF.t4 rfl | exact st.reads 3 rfl TF.t4 rfl | exact st.reads 4 rfl TF.t4 rfl | assumption)) rfl ?_
  refine wl_val (v_assign' (by conv => (lhs; whnf))) rfl ?_
  refine wl_nil ?_
  refine then_go ?_
  refine wc_ret ?_
  exact ret1 rfl ⟨wv, { d with down := decide (d.fuse = 0) }, (St.finish (Es := []) st).1, (St.finish (Es := []) st).2, by simp [burn, h15], rfl⟩
theorem wtCells_snoc (l : List (Nat × By)) (x : Nat × By) : wtCells (l ++ [x]) = wtCells l ++ (Value.int .i64 x.1 :: bs x.2) := by simp [wtCells]
theorem disk_call {m0 : Mem} {F : List Nat} {w0 : World} {Es : List Ent} {f : FuncId} {args : List Value} {R : Value → DS → Prop} (st : St m0 m F w0 w (diskO b s n wv d :: Es)) (h : DiskCall f args b s n wv d w R) :
  Ret Tryz.prog f (.pointer (some ⟨b, 0, none⟩) :: args).toArray w fun v w' => ∃ wv' d', St m0 m F w0 w' (diskO b s n wv' d' :: Es) ∧ R v d' :=
 h.mono fun _ _ ⟨wv', d', t, hE, hR⟩ => ⟨wv', d', st.step 0 rfl t hE, hR⟩
theorem c_write {v : Value} {l : By} (i : Int) (him : Im m w) (hE : (diskO b s n wv d).holds w) (hm : ∀ k ∈ (diskO b s n wv d).foot, m k = none) (ok : d.ok n) (hf : -1 ≤ d.fuse ∧ d.fuse ≤ 9223372036854775807) (hfew : d.wt.length ≤ 1000000)
  (hv : SlM m v 1 l.length (bs l)) :
  DiskCall 96 [.int .i64 i, v] b s n wv d w fun v' d' => d' = (writeD d n i l).1 ∧ v' = .int .i64 (writeD d n i l).2 := by
 have hv0 := hv
 obtain ⟨hvl, va, vc, rfl, hv1⟩ := hv
 have st := St.begin him hE hm
 have hlen : (l.length : Int) ≤ 9223372036854775807 ∨ True := .inr trivial
 refine ret_of Tryz.call96 Tryz.func96 rfl Tryz.ntmps96 Tryz.results96 rfl ?_
 refine wc_seq ?_
 refine wc_region ?_
 refine wl_val (v_assign' (by conv => (lhs; whnf))) rfl ?_
 refine wl_nil ?_
 refine then_go ?_
 refine wc_seq ?_
 refine wc_seq ?_
 refine wc_region ?_
 refine wl_val (v_move' (by conv => (lhs; whnf))) rfl ?_
 refine wl_val (v_move' (by conv => (lhs; whnf))) rfl ?_
 refine wl_call rfl (c_check i (im_heapM w) (disk_snap (Es := []) st ok)) rfl ?_
 rintro v10 w' ⟨rfl, rfl⟩
 refine wl_val (v_assign' (by conv => (lhs; whnf))) rfl ?_
 refine wl_nil ?_
 refine then_go ?_
 refine wc_seq ?_
 refine wc_region ?_
 refine wl_val (v_move' (by conv => (lhs; whnf))) rfl ?_
 refine wl_val (v_neq rfl rfl) rfl ?_
 refine wl_nil ?_
 refine then_go ?_
 refine wc_if rfl (fun h12 => ?_) (fun h12 => ?_)
 ·refine wc_seq ?_
  refine wc_region ?_
  refine wl_val (v_move' (by conv => (lhs; whnf))) rfl ?_
  refine wl_val (v_assign' (by conv => (lhs; whnf))) rfl ?_
  refine wl_nil ?_
  refine then_go ?_
  refine wc_ret (then_ret ?_)
  refine ret1 (v := .int .i64 (if d.down = true then 14 else if i < 0 ∨ i ≥ n then 2 else 0)) rfl ⟨wv, d, (St.finish (Es := []) st).1, (St.finish (Es := []) st).2, ?_, ?_⟩
  ·unfold writeD
   by_cases hd : d.down = true
   ·rw [if_pos hd]
   ·rw [if_neg hd]
    by_cases hr : i < 0 ∨ i ≥ n
    ·rw [if_pos hr]
    ·exact absurd (by rw [if_neg hd, if_neg hr]) h12
  ·unfold writeD
   by_cases hd : d.down = true
   ·rw [if_pos hd]; simp [hd]
   ·rw [if_neg hd]
    by_cases hr : i < 0 ∨ i ≥ n
    ·rw [if_pos hr]; simp [hd, hr]
    ·exact absurd (by rw [if_neg hd, if_neg hr]) h12
 ·refine wc_skip ?_
  refine then_go ?_
  refine wc_seq ?_
  refine wc_seq ?_
  have hd : ¬ d.down = true := fun hd => h12 (by rw [if_pos hd]; decide)
  have hr : ¬ (i < 0 ∨ i ≥ n) := fun hr => h12 (by rw [if_neg hd, if_pos hr]; decide)
  have hun : l.length ≠ 64 → writeD d n i l = (d, 1) := fun h => by unfold writeD; rw [if_neg hd, if_neg hr, if_pos h]
  have hdo : l.length = 64 → writeD d n i l = (burn { d with wt := d.wt ++ [(i.toNat, l)] }, if (burn { d with wt := d.wt ++ [(i.toNat, l)] }).down then 14 else 0) := fun h => by unfold writeD; rw [if_neg hd, if_neg hr, if_neg (by simp [h])]
  refine wc_region ?_
  refine wl_val (v_move' (by conv => (lhs; whnf))) rfl ?_
  refine wl_val (v_len_s Tryz.underlying23 rfl) rfl ?_
  refine wl_val (v_neq rfl rfl) rfl ?_
  refine wl_nil ?_
  refine then_go ?_
  refine wc_if rfl (fun h16 => ?_) (fun h16 => ?_)
  ·refine wc_seq ?_
   refine wc_region ?_
   refine wl_val (v_assign' (by conv => (lhs; whnf))) rfl ?_
   refine wl_nil ?_
   refine then_go ?_
   refine wc_ret (then_ret ?_)
   exact ret1 (v := .int .i64 1) rfl ⟨wv, d, (St.finish (Es := []) st).1, (St.finish (Es := []) st).2, by rw [hun (by omega)], by rw [hun (by omega)]⟩
  ·refine wc_skip ?_
   refine then_go ?_
   refine wc_seq ?_
   have hl64 : l.length = 64 := by omega
   obtain ⟨vb, vo, vcap, hve, hvk, hrd⟩ := hv0.rd Tryz.prog (by simp [bs, hl64])
   cases hve
   obtain ⟨k, rfl⟩ : ∃ k : Nat, i = k := ⟨i.toNat, by omega⟩
   refine wc_draw TF.mixed ?_
   have st := st.pure (touch_drew _)
   refine fl_val 0 rfl (fun _ => (v_move' (by conv => (lhs; whnf)))) rfl (by kernel_rfl) ?_
   refine fl_val 1 rfl (fun _ => (v_move' (by conv => (lhs; whnf)))) rfl (by kernel_rfl) ?_
   refine fl_val 2 rfl (fun _ => (v_nil rfl)) rfl (by kernel_rfl) ?_
   refine fl_val 3 rfl (fun _ => (v_fa TF.f91_1 rfl)) rfl (by kernel_rfl) ?_
   refine fl_ld 4 rfl (v_load rfl (by first | exact st.reads 0 rfl TF.t89 rfl | exact st.reads 1 rfl TF.t89 rfl | exact st.reads 2 rfl TF.t89 rfl | exact st.reads 3 rfl TF.t89 rfl | exact st.reads 4 rfl TF.t89 rfl | assumption)) (by kernel_rfl) ?_
   refine fl_val 5 rfl (fun _ => (v_move' (by conv => (lhs; whnf)))) rfl (by kernel_rfl) ?_
   refine fl_val 6 rfl (fun _ => (v_move' (by conv => (lhs; whnf)))) rfl (by kernel_rfl) ?_
   refine fl_val 7 rfl (fun _ => (v_s2a Tryz.underlying104 rfl (by omega))) rfl (by kernel_rfl) ?_
   refine fl_ld 8 rfl (v_load rfl (show Reads Tryz.prog _ _ (Addr.mk vb (vo + 0) none) (arr l) from hrd st.im TF.t104 (getV_all (by rw [List.size_toArray, length_bs, hl64])))) (by kernel_rfl) ?_
   refine fl_val 9 rfl (fun _ => (v_build (c' := (Value.int .i64 k :: bs l).toArray) [(0, .int .i64 k), (1, .agg (bs l).toArray)] TF.z106 TF.p106 rfl (fill_one [] [.int .i64 0] (List.replicate 64 (.int .u8 0)) rfl rfl rfl (fill_one [.int .i64 k] (List.replicate 64 (.int .u8 0)) [] rfl rfl (by simp [Value.cells, bs, hl64]) (by simp [FillR, Value.cells]))))) rfl (by kernel_rfl) ?_
   refine fl_eff1 10 [7, 6, 5, 3, 2, 1, 0] [8, 4] (by kernel_rfl) ⟨obl_ld rfl rfl rfl (v_load rfl (show Reads Tryz.prog _ _ (Addr.mk vb (vo + 0) none) (arr l) from hrd st.im TF.t104 (getV_all (by rw [List.size_toArray, length_bs, hl64])))), obl_ld rfl rfl rfl (v_load rfl (by first | exact st.reads 0 rfl TF.t89 rfl | exact st.reads 1 rfl TF.t89 rfl | exact st.reads 2 rfl TF.t89 rfl | exact st.reads 3 rfl TF.t89 rfl | exact st.reads 4 rfl TF.t89 rfl | assumption)), trivial⟩ rfl ?_
   refine wl_buildSlice (c' := (Value.int .i64 k :: bs l).toArray) [(0, .agg (Value.int .i64 k :: bs l).toArray)] Tryz.underlying89 TF.t106 TF.z106 (by decide) (by decide) rfl ⟨0, 65, rfl, by simp [Value.cells, bs, hl64], by simp [Value.cells, size_madeCells], setSeg_all (by simp [Value.cells, bs, hl64, size_madeCells])⟩ st rfl ?_
   intro b27 w st
   refine wl_nil ⟨rfl, ?_⟩
   refine fl_eff1 11 [7, 6, 5, 3, 2, 1, 0] [8] (by kernel_rfl) ⟨obl_ld rfl rfl rfl (v_load rfl (show Reads Tryz.prog _ _ (Addr.mk vb (vo + 0) none) (arr l) from hrd st.im TF.t104 (getV_all (by rw [List.size_toArray, length_bs, hl64])))), obl_ld rfl rfl rfl (v_load rfl (by first | exact st.reads 0 rfl TF.t89 rfl | exact st.reads 1 rfl TF.t89 rfl | exact st.reads 2 rfl TF.t89 rfl | exact st.reads 3 rfl TF.t89 rfl | exact st.reads 4 rfl TF.t89 rfl | assumption)), trivial⟩ rfl ?_
   refine wl_append 3 st rfl Tryz.underlying89 Tryz.underlying89 (.inr ⟨_, rfl⟩) TF.t106 TF.z106 (by simp [Value.cells]) rfl rfl (st.srcArr (news := Value.int .i64 k :: bs l) 0 rfl (by simp [bs, hl64]) (fun j u hj => by simpa using hj) (fun u hu => by rcases List.mem_cons.1 hu with rfl | hu; rfl; exact one_bs _ u hu)) (by omega) (by omega) rfl ?_
   intro wv' w _ st
   refine wl_nil ⟨rfl, ?_⟩
   refine fl_val 12 rfl (fun _ => (v_nil rfl)) rfl (by kernel_rfl) ?_
   refine fl_val 13 rfl (fun _ => (v_fa TF.f91_1 rfl)) rfl (by kernel_rfl) ?_
   refine fl_eff1 14 [12] [] (by kernel_rfl) ⟨obl_ld rfl rfl rfl (v_load rfl (show Reads Tryz.prog _ _ (Addr.mk vb (vo + 0) none) (arr l) from hrd st.im TF.t104 (getV_all (by rw [List.size_toArray, length_bs, hl64])))), trivial⟩ rfl ?_
   refine wl_store1 1 st rfl TF.t89 rfl rfl (row_one (st.at (i := 3) rfl)) (by simp) ?_
   intro w st
   have st := st.drop 0
   have e1 : d.wt.length + 1 = (d.wt ++ [((k : Int).toNat, l)]).length := by simp
   have e2 : wtCells d.wt ++ (Value.int .i64 k :: bs l) = wtCells (d.wt ++ [((k : Int).toNat, l)]) := by rw [wtCells_snoc]; simp
   rw [e1, e2] at st
   have st : St m m (joinE (diskL b s n wv d)).foot _ w (diskL b s n wv' { d with wt := d.wt ++ [((k : Int).toNat, l)] } ++ []) := st
   have st := st.join
   refine wl_nil ⟨rfl, ?_⟩
   refine fl_nil (by kernel_rfl) trivial ?_
   refine then_go ?_
   refine wc_seq ?_
   refine wc_seq ?_
   refine wc_region ?_
   refine wl_val (v_move' (by conv => (lhs; whnf))) rfl ?_
   refine wl_call rfl (disk_call st (c_burns st.im (st.at (i := 0) rfl) (st.none (i := 0) rfl) hf)) rfl ?_
   rintro v32 w ⟨wv3, d3, st, rfl, rfl⟩
   refine wl_nil ?_
   refine then_go ?_
   refine wc_cond rfl (fun h32 => ?_) (fun h32 => ?_)
   ·refine wc_seq ?_
    refine wc_region ?_
    refine wl_val (v_assign' (by conv => (lhs; whnf))) rfl ?_
    refine wl_nil ?_
    refine then_go ?_
    refine wc_ret (then_ret ?_)
    exact ret1 (v := .int .i64 14) rfl ⟨wv3, _, (St.finish (Es := []) st.split).1, (St.finish (Es := []) st.split).2, by rw [hdo hl64], by rw [hdo hl64]; simp only [h32, if_true]⟩
   ·refine wc_skip ?_
    refine then_go ?_
    refine wc_seq ?_
    refine wc_region ?_
    refine wl_val (v_assign' (by conv => (lhs; whnf))) rfl ?_
    refine wl_nil ?_
    refine then_go ?_
    refine wc_ret ?_
    exact ret1 (v := .int .i64 0) rfl ⟨wv3, _, (St.finish (Es := []) st.split).1, (St.finish (Es := []) st.split).2, by rw [hdo hl64], by rw [hdo hl64]; simp only [h32, Bool.false_eq_true, if_false]⟩
theorem setSeg_bs {S l : By} {o : Nat} : setSeg (bs S).toArray o (bs l) = (bs (splice S o l)).toArray := by
 apply Array.ext'
 simp [setSeg, splice, bs, List.map_take, List.map_drop]
theorem st_nil {m0 : Mem} {F : List Nat} {w0 : World} {Es : List Ent} {v : Value} {e size k : Nat} {xs : List Value} (st : St m0 m F w0 w Es) (i : Nat) (hi : Es[i]? = some (rowE v e size k xs)) : St m0 m F w0 w (Es.set i (rowE (.slice none 0 0) e size 0 [])) :=
 st.step i hi ⟨rfl, rfl, rfl, Nat.le_refl _, fun _ _ _ => rfl, by simp [rowE, Value.ownBlock]⟩ ⟨by simp, .inl ⟨rfl, rfl⟩⟩
def dumpK (d : DS) (k : Nat) : By := (d.wt.take k).foldl (fun S x => splice S (64 * x.1) x.2) d.S
theorem dumpK_succ (d : DS) (k : Nat) (h : k < d.wt.length) : dumpK d (k + 1) = splice (dumpK d k) (64 * d.wt[k].1) d.wt[k].2 := by
 unfold dumpK
 rw [List.take_succ_eq_append_getElem h, List.foldl_append]
 rfl
theorem length_dumpK {d : DS} {n : Nat} (ok : d.ok n) : ∀ k, k ≤ d.wt.length → (dumpK d k).length = 64 * n
 | 0, _ => by simp [dumpK, ok.len]
 | k + 1, h => by
  have ih := length_dumpK ok k (by omega)
  have hx := ok.wt d.wt[k] (List.getElem_mem _)
  rw [dumpK_succ d k (by omega), length_splice (by rw [ih, hx.2]; omega), ih]
theorem c_sync (him : Im m w) (hE : (diskO b s n wv d).holds w) (hm : ∀ k ∈ (diskO b s n wv d).foot, m k = none) (ok : d.ok n) (hf : -1 ≤ d.fuse ∧ d.fuse ≤ 9223372036854775807) (hfew : d.wt.length ≤ 1000000) :
  DiskCall 97 [] b s n wv d w fun v' d' => d' = (syncD d).1 ∧ v' = .int .i64 (syncD d).2 := by
 have st := St.begin him hE hm
 have ok' := ok.wt
 refine ret_of Tryz.call97 Tryz.func97 rfl Tryz.ntmps97 Tryz.results97 rfl ?_
 refine wc_seq ?_
 refine wc_region ?_
 refine wl_val (v_assign' (by conv => (lhs; whnf))) rfl ?_
 refine wl_nil ?_
 refine then_go ?_
 refine wc_seq ?_
 refine wc_seq ?_
 refine wc_region ?_
 refine wl_val (v_move' (by conv => (lhs; whnf))) rfl ?_
 refine wl_val (v_nil rfl) rfl ?_
 refine wl_val (v_fa TF.f91_3 rfl) rfl ?_
 refine wl_val (v_load rfl (by first | exact st.reads 0 rfl TF.t4 rfl | exact st.reads 1 rfl TF.t4 rfl | exact st.reads 2 rfl TF.t4 rfl | exact st.reads 3 rfl TF.t4 rfl | exact st.reads 4 rfl TF.t4 rfl | assumption)) rfl ?_
 refine wl_val (v_move' (by conv => (lhs; whnf))) rfl ?_
 rcases Bool.eq_false_or_eq_true (d.down) with hg4 | hg4
 ·rw [hg4]
  refine wl_off rfl rfl rfl rfl ?_
  refine wl_off rfl rfl rfl rfl ?_
  refine wl_val (v_pick rfl) rfl ?_
  refine wl_nil ?_
  refine then_go ?_
  refine wc_true rfl ?_
  refine wc_seq ?_
  refine wc_region ?_
  refine wl_val (v_assign' (by conv => (lhs; whnf))) rfl ?_
  refine wl_nil ?_
  refine then_go ?_
  refine wc_ret (then_ret ?_)
  exact ret1 (v := .int .i64 14) rfl ⟨wv, d, (St.finish (Es := []) st).1, (St.finish (Es := []) st).2, by simp [syncD, hg4], by simp [syncD, hg4]⟩
 ·rw [hg4]
  refine wl_on rfl rfl ?_
  refine wl_val (v_move' (by conv => (lhs; whnf))) rfl ?_
  refine wl_on rfl rfl ?_
  have st : St m m (joinE (diskL b s n wv d)).foot w w (diskL b s n wv d ++ []) := st
  have st := st.join
  refine wl_call rfl (disk_call st (c_burns st.im (st.at (i := 0) rfl) (st.none (i := 0) rfl) hf)) rfl ?_
  rintro v32 w1 ⟨wv3, d3, st, rfl, rfl⟩
  refine wl_val (v_pick rfl) rfl ?_
  refine wl_nil ?_
  refine then_go ?_
  refine wc_cond rfl (fun h12 => ?_) (fun h12 => ?_)
  ·refine wc_seq ?_
   refine wc_region ?_
   refine wl_val (v_assign' (by conv => (lhs; whnf))) rfl ?_
   refine wl_nil ?_
   refine then_go ?_
   refine wc_ret (then_ret ?_)
   have h12' : d.fuse = 0 := by simpa [burn] using h12
   exact ret1 (v := .int .i64 14) rfl ⟨wv3, _, (St.finish (Es := []) st.split).1, (St.finish (Es := []) st.split).2, by simp [syncD, hg4, h12'], by simp [syncD, hg4, h12']⟩
  ·refine wc_skip ?_
   refine then_go ?_
   refine wc_seq ?_
   refine wc_seq ?_
   have hf0 : ¬ d.fuse = 0 := by
    intro h
    have : (burn d).down = true := by simp [burn, h]
    rw [h12] at this
    cases this
   have st : St m m (joinE (diskL b s n wv d)).foot w w1 (diskL b s n wv3 (burn d)) := by have := st.split; rwa [List.append_nil] at this
   obtain ⟨hnil, wa, wc, hwv, hk3, hn3⟩ : ∃ (_ : True) (wa : Option Addr) (wc : Nat), wv3 = .slice wa d.wt.length wc ∧ d.wt.length ≤ wc ∧ True := by
    obtain ⟨_, a, c, h1, h2, _⟩ := row_SlM (m := heapM w1) (st.at (i := 2) rfl) fun _ _ _ h => h
    exact ⟨trivial, a, c, h1, h2, trivial⟩
   subst hwv
   refine wc_region ?_
   refine wl_val (v_move' (by conv => (lhs; whnf))) rfl ?_
   refine wl_val (v_nil rfl) rfl ?_
   refine wl_val (v_fa TF.f91_1 rfl) rfl ?_
   refine wl_val (v_load rfl (by first | exact st.reads 0 rfl TF.t89 rfl | exact st.reads 1 rfl TF.t89 rfl | exact st.reads 2 rfl TF.t89 rfl | exact st.reads 3 rfl TF.t89 rfl | exact st.reads 4 rfl TF.t89 rfl | assumption)) rfl ?_
   refine wl_val (v_len_s Tryz.underlying89 rfl) rfl ?_
   refine wl_val (v_move' (by conv => (lhs; whnf))) rfl ?_
   refine wl_nil ?_
   refine then_go ?_
   refine wc_block ?_
   refine wc_loop (S := Nat) (fun k r w' => ∃ j, k + j = d.wt.length ∧ r 0 = .pointer (some ⟨b, 0, none⟩) ∧ r 16 = .slice wa d.wt.length wc ∧ r 17 = .int .i64 d.wt.length ∧ r 18 = .int .i64 j ∧
    St m m (joinE (diskL b s n wv d)).foot w w' (diskL b s n (.slice wa d.wt.length wc) { burn d with S := dumpK d j })) id d.wt.length ⟨0, rfl, rfl, rfl, rfl, rfl, st⟩ ?_
   rintro k r w2 ⟨j, hkj, h0, h16, h17, h18, st⟩
   refine wc_o 0 h0 (wc_o 16 h16 (wc_o 17 h17 (wc_o 18 h18 ?_)))
   refine wc_seq ?_
   refine wc_region ?_
   refine wl_val (v_lss rfl rfl) rfl ?_
   refine wl_nil ?_
   refine then_go ?_
   refine wc_seq ?_
   refine wc_if rfl (fun h19 => ?_) (fun h19 => ?_)
   ·refine wc_skip ?_
    refine then_go ?_
    refine wc_seq ?_
    refine wc_block ?_
    refine wc_seq ?_
    have hj : j < d.wt.length := by omega
    obtain ⟨wb, wo, wcap, hv, _, hrd⟩ := (row_SlM (m := heapM w2) (st.at (i := 2) rfl) fun _ _ _ h => h).elem Tryz.prog (i := j) hj (by omega)
    cases hv
    have hel := wt_elem (fun x hx => (ok' x hx).2) hj
    have hx := ok' d.wt[j] (List.getElem_mem _)
    refine wc_region ?_
    refine wl_val (v_ias j Tryz.underlying89 TF.t106 rfl rfl (by first | rfl | omega) (by first | omega | (dsimp only at *; omega))) rfl ?_
    refine wl_val (v_load rfl (hrd (im_heapM _) (off := 0) TF.t106 (getV_all (by show ((cellsAt (wtCells d.wt) 65 j).toArray).size = 65; rw [hel]; simp [bs, hx.2])))) rfl ?_
    refine wl_alloc TF.z106 st rfl ?_
    intro b4 w st
    refine wl_storeW 0 st rfl TF.t106 rfl rfl (by show ((cellsAt (wtCells d.wt) 65 j).toArray).size = 65; rw [hel]; simp [bs, hx.2]) (by simp [Value.cells]) (fun u hu => by
     have hu' : u ∈ cellsAt (wtCells d.wt) 65 j := (by simpa using hu : u ∈ cellsAt (wtCells (burn d).wt) 65 j)
     rw [hel] at hu'
     rcases List.mem_cons.1 hu' with rfl | hu'
     ·rfl
     ·exact one_bs _ u hu') ?_
    intro w st
    have hel' : cellsAt (wtCells (burn d).wt) 65 j = Value.int .i64 d.wt[j].1 :: bs d.wt[j].2 := hel
    change St _ _ _ _ _ (blk b4 (cellsAt (wtCells (burn d).wt) 65 j).toArray 106 :: diskL b s n (.slice (some ⟨wb, wo, none⟩) d.wt.length wc) { burn d with S := dumpK d j }) at st
    rw [hel'] at st
    refine wl_nil ?_
    refine then_go ?_
    refine wc_draw TF.mixed ?_
    have st := st.pure (touch_drew _)
    refine fl_val 0 rfl (fun _ => (v_move' (by conv => (lhs; whnf)))) rfl (by kernel_rfl) ?_
    refine fl_val 1 rfl (fun _ => (v_nil rfl)) rfl (by kernel_rfl) ?_
    refine fl_val 2 rfl (fun _ => (v_fa TF.f91_0 rfl)) rfl (by kernel_rfl) ?_
    refine fl_ld 3 rfl (v_load rfl (by first | exact st.reads 0 rfl TF.t88 rfl | exact st.reads 1 rfl TF.t88 rfl | exact st.reads 2 rfl TF.t88 rfl | exact st.reads 3 rfl TF.t88 rfl | exact st.reads 4 rfl TF.t88 rfl | assumption)) (by kernel_rfl) ?_
    refine fl_val 4 rfl (fun _ => (v_fa TF.f106_0 rfl)) rfl (by kernel_rfl) ?_
    refine fl_ld 5 rfl (v_load rfl (by first | exact st.rdp 0 rfl (by exact rfl) TF.t3 (by exact rfl) | exact st.rdp 1 rfl (by exact rfl) TF.t3 (by exact rfl) | exact st.rdp 2 rfl (by exact rfl) TF.t3 (by exact rfl) | exact st.rdp 3 rfl (by exact rfl) TF.t3 (by exact rfl) | exact st.rdp 4 rfl (by exact rfl) TF.t3 (by exact rfl) | exact st.rdp 5 rfl (by exact rfl) TF.t3 (by exact rfl) | exact st.rdp 6 rfl (by exact rfl) TF.t3 (by exact rfl) | exact st.rdp 7 rfl (by exact rfl) TF.t3 (by exact rfl))) (by kernel_rfl) ?_
    refine fl_val 6 rfl (fun _ => (v_fa TF.f106_1 rfl)) rfl (by kernel_rfl) ?_
    refine fl_ld 7 rfl (v_load rfl (st.reads 0 rfl TF.t104 (getV_tl (by simp [bs, hx.2])))) (by kernel_rfl) ?_
    refine fl_val 8 rfl (fun _ => (v_ias (d.wt[j].1) Tryz.underlying88 TF.t104 rfl rfl (by first | rfl | omega) hx.1)) rfl (by kernel_rfl) ?_
    refine fl_eff1 9 [] [] (by kernel_rfl) ⟨obl_ld rfl rfl rfl (v_load rfl (st.reads 0 rfl TF.t104 (getV_tl (by simp [bs, hx.2])))), obl_ld rfl rfl rfl (v_load rfl (by first | exact st.rdp 0 rfl (by exact rfl) TF.t3 (by exact rfl) | exact st.rdp 1 rfl (by exact rfl) TF.t3 (by exact rfl) | exact st.rdp 2 rfl (by exact rfl) TF.t3 (by exact rfl) | exact st.rdp 3 rfl (by exact rfl) TF.t3 (by exact rfl) | exact st.rdp 4 rfl (by exact rfl) TF.t3 (by exact rfl) | exact st.rdp 5 rfl (by exact rfl) TF.t3 (by exact rfl) | exact st.rdp 6 rfl (by exact rfl) TF.t3 (by exact rfl) | exact st.rdp 7 rfl (by exact rfl) TF.t3 (by exact rfl))), obl_ld rfl rfl rfl (v_load rfl (by first | exact st.reads 0 rfl TF.t88 rfl | exact st.reads 1 rfl TF.t88 rfl | exact st.reads 2 rfl TF.t88 rfl | exact st.reads 3 rfl TF.t88 rfl | exact st.reads 4 rfl TF.t88 rfl | assumption)), trivial⟩ rfl ?_
    have hlS : (dumpK d j).length = 64 * n := length_dumpK ok j (by omega)
    refine wl_store (v := .agg (bs d.wt[j].2).toArray) 2 st rfl TF.t104 rfl rfl (by simp [Value.cells, bs, hx.2]) (fun u hu => one_bs _ u (by simpa [Value.cells] using hu)) (by simp [bs, hlS]; omega) ?_
    intro w st
    have e : setSeg (bs (dumpK d j)).toArray (0 + d.wt[j].1 * 64) (Value.agg (bs d.wt[j].2).toArray).cells.toList = (bs (dumpK d (j + 1))).toArray := by
     rw [dumpK_succ d j hj, show 0 + d.wt[j].1 * 64 = 64 * d.wt[j].1 by omega]
     exact setSeg_bs
    have st := st.drop 0
    change St _ _ _ _ _ [_, blk s (setSeg (bs (dumpK d j)).toArray (0 + d.wt[j].1 * 64) (Value.agg (bs d.wt[j].2).toArray).cells.toList) _, _] at st
    rw [e] at st
    change St _ _ _ _ _ (diskL b s n (.slice (some ⟨wb, wo, none⟩) d.wt.length wc) { burn d with S := dumpK d (j + 1) }) at st
    refine wl_nil ⟨rfl, ?_⟩
    refine fl_nil (by kernel_rfl) trivial ?_
    refine block_go (then_go ?_)
    refine wc_region ?_
    refine wl_val (v_add' rfl rfl rfl (by first | omega | (dsimp only at *; omega)) (by first | omega | (dsimp only at *; omega))) rfl ?_
    refine wl_val (v_move' (by conv => (lhs; whnf))) rfl ?_
    refine wl_nil ?_
    refine then_go ?_
    exact ⟨k - 1, by simp; omega, j + 1, by omega, rfl, rfl, rfl, rfl, st⟩
   ·refine wc_exit (then_exit (then_exit (block_hit ?_)))
    refine then_go ?_
    refine wc_seq ?_
    refine wc_region ?_
    refine wl_val (v_move' (by conv => (lhs; whnf))) rfl ?_
    refine wl_val (v_nil rfl) rfl ?_
    refine wl_val (v_fa TF.f91_1 rfl) rfl ?_
    refine wl_store1 0 st rfl TF.t89 rfl rfl rfl (by simp) ?_
    intro w st
    have hjl : j = d.wt.length := by omega
    subst hjl
    have st := st_nil st 2 rfl
    have e : dumpK d d.wt.length = dump d := by simp [dumpK, dump]
    change St _ _ _ _ _ (diskL b s n (.slice none 0 0) { burn d with S := dumpK d d.wt.length, wt := [] }) at st
    rw [e] at st
    refine wl_nil ?_
    refine then_go ?_
    refine wc_seq ?_
    refine wc_region ?_
    refine wl_val (v_assign' (by conv => (lhs; whnf))) rfl ?_
    refine wl_nil ?_
    refine then_go ?_
    refine wc_ret ?_
    exact ret1 (v := .int .i64 0) rfl ⟨_, _, (St.finish (Es := []) st).1, (St.finish (Es := []) st).2, by simp [syncD, hg4, hf0], by simp [syncD, hg4, hf0]⟩
end
end Go.Proofs.YtladpaehbolghaaGreat

namespace Go.Proofs.YtladpaehbolghaaGreat
open Go Go.RowKit K DK
section
variable {m : Mem} {w : World} {b s n : Nat} {wv : Value} {d : DS}
def NewBytes (w w' : World) (v : Value) (l : By) : Prop := ∃ m1, Fresh m1 w ∧ Im m1 w' ∧ SlM m1 v 1 l.length (bs l)
theorem dumpK_all (d : DS) : dumpK d d.wt.length = dump d := by simp [dumpK, dump]
theorem setSeg_sp {S l : By} {sp : List Value} {o : Nat} (h : o + l.length ≤ S.length) : setSeg (bs S ++ sp).toArray o (bs l) = (bs (splice S o l) ++ sp).toArray := by
 apply Array.ext'
 simp only [setSeg, splice, bs, List.map_append, List.map_take, List.map_drop, List.length_map]
 rw [List.take_append_of_le_length (by simp; omega), List.drop_append_of_le_length (by simp; omega)]
 simp
theorem c_dump {wI : World} (him : Im m wI) (hd : diskM m b n d) :
  Ret Tryz.prog 24 #[.pointer (some ⟨b, 0, none⟩)] wI fun v w' => Tch wI w' [] [] ∧ NewBytes wI w' v (dump d) := by
 obtain ⟨ok, ⟨s, wv, hb, hs, hw⟩, hf⟩ := hd
 have st := St.start him
 have hw0 := hw
 obtain ⟨hwl, wa, wc, rfl, hw1⟩ := hw
 have ok1 := ok.pos
 have ok2 := ok.le
 have ok3 := ok.len
 have ok' := ok.wt
 refine ret_of Tryz.call24 Tryz.func24 rfl Tryz.ntmps24 Tryz.results24 rfl ?_
 refine wc_seq ?_
 refine wc_region ?_
 refine wl_val (v_assign' (by conv => (lhs; whnf))) rfl ?_
 refine wl_nil ?_
 refine then_go ?_
 refine wc_seq ?_
 refine wc_region ?_
 refine wl_val (v_move' (by conv => (lhs; whnf))) rfl ?_
 refine wl_val (v_nil rfl) rfl ?_
 refine wl_val (v_fa TF.f91_0 rfl) rfl ?_
 refine wl_val (v_load rfl (st.readm hb TF.t88 rfl)) rfl ?_
 refine wl_val (v_len_s Tryz.underlying88 rfl) rfl ?_
 refine wl_val (v_mul' rfl rfl rfl (by first | omega | (dsimp only at *; omega)) (by first | omega | (dsimp only at *; omega))) rfl ?_
 refine wl_make (l := 0) (c := n * 64) Tryz.underlying23 TF.t5 TF.z5 rfl rfl rfl (by simp) (by omega) (by omega) (by omega) (by omega) st rfl ?_
 intro b3 w st
 have st := st.rowShut 0 (k := 0) (cap := n * 64) (size := 1) (xs := []) rfl (by omega) (by simp [size_madeCells]) (by omega) (by simp)
 refine wl_val (v_assign' (by conv => (lhs; whnf))) rfl ?_
 refine wl_nil ?_
 refine then_go ?_
 refine wc_seq ?_
 refine wc_region ?_
 refine wl_val (v_move' (by conv => (lhs; whnf))) rfl ?_
 refine wl_val (v_nil rfl) rfl ?_
 refine wl_val (v_fa TF.f91_0 rfl) rfl ?_
 refine wl_val (v_load rfl (st.readm hb TF.t88 rfl)) rfl ?_
 have st := st.new (E := rowE (.slice none 0 0) 104 64 0 []) ⟨rfl, rfl, rfl, Nat.le_refl _, fun _ _ _ => rfl, by simp [rowE, Value.ownBlock]⟩ ⟨by simp, .inl ⟨rfl, rfl⟩⟩
 refine wl_append 0 st rfl Tryz.underlying88 Tryz.underlying88 (.inr ⟨_, rfl⟩) TF.t104 TF.z104 (by simp [Value.cells]) rfl rfl ((SlM.of (o := 0) (k := n) (cap := n) (size := 64) (xs := bs d.S) hs (by simp [bs, ok3]; omega) (Nat.le_refl _) (fun j u hj => by simpa using hj)).src st.im (one_bs _)) (by omega) (by omega) rfl ?_
 intro lv w _ st
 rw [Nat.zero_add, List.nil_append] at st
 obtain ⟨g, cap, sp, rfl, hgc, hsp, hcap, st⟩ := st.rowOpen 0 rfl (by omega)
 change St _ _ _ _ _ [blk g (bs d.S ++ sp).toArray 104, rowE (.slice (some ⟨b3, 0, none⟩) 0 (n * 64)) 5 1 0 []] at st
 refine wl_val (v_assign' (by conv => (lhs; whnf))) rfl ?_
 refine wl_nil ?_
 refine then_go ?_
 refine wc_seq ?_
 refine wc_seq ?_
 refine wc_region ?_
 refine wl_val (v_move' (by conv => (lhs; whnf))) rfl ?_
 refine wl_val (v_nil rfl) rfl ?_
 refine wl_val (v_fa TF.f91_1 rfl) rfl ?_
 refine wl_val (v_load rfl (st.readm hb TF.t89 rfl)) rfl ?_
 refine wl_val (v_len_s Tryz.underlying89 rfl) rfl ?_
 refine wl_val (v_move' (by conv => (lhs; whnf))) rfl ?_
 refine wl_nil ?_
 refine then_go ?_
 refine wc_block ?_
 refine wc_loop (S := Nat) (fun k r w' => ∃ j, k + j = d.wt.length ∧ r 3 = .slice (some ⟨b3, 0, none⟩) 0 (n * 64) ∧ r 4 = .slice (some ⟨g, 0, none⟩) n cap ∧ r 24 = .slice wa d.wt.length wc ∧ r 25 = .int .i64 d.wt.length ∧ r 26 = .int .i64 j ∧
  St m m [] wI w' [blk g (bs (dumpK d j) ++ sp).toArray 104, rowE (.slice (some ⟨b3, 0, none⟩) 0 (n * 64)) 5 1 0 []]) id d.wt.length ⟨0, rfl, rfl, rfl, rfl, rfl, rfl, st⟩ ?_
 rintro k r w2 ⟨j, hkj, h3, h4, h24, h25, h26, st⟩
 refine wc_o 3 h3 (wc_o 4 h4 (wc_o 24 h24 (wc_o 25 h25 (wc_o 26 h26 ?_))))
 refine wc_seq ?_
 refine wc_region ?_
 refine wl_val (v_lss rfl rfl) rfl ?_
 refine wl_nil ?_
 refine then_go ?_
 refine wc_seq ?_
 refine wc_if rfl (fun h27 => ?_) (fun h27 => ?_)
 ·refine wc_skip ?_
  refine then_go ?_
  refine wc_seq ?_
  refine wc_block ?_
  refine wc_seq ?_
  have hj : j < d.wt.length := by omega
  obtain ⟨wb, wo, wcap, hv, _, hrd⟩ := hw0.elem Tryz.prog (i := j) hj (by omega)
  cases hv
  have hel : cellsAt (wtCells d.wt) 65 j = Value.int .i64 d.wt[j].1 :: bs d.wt[j].2 := wt_elem (fun x hx => (ok' x hx).2) hj
  have hx := ok' d.wt[j] (List.getElem_mem _)
  refine wc_region ?_
  refine wl_val (v_ias j Tryz.underlying89 TF.t106 rfl rfl (by first | rfl | omega) (by first | omega | (dsimp only at *; omega))) rfl ?_
  refine wl_val (v_load rfl (hrd st.im (off := 0) TF.t106 (getV_all (by rw [hel]; simp [bs, hx.2])))) rfl ?_
  refine wl_alloc TF.z106 st rfl ?_
  intro b6 w st
  refine wl_storeW 0 st rfl TF.t106 rfl rfl (by rw [hel]; simp [bs, hx.2]) (by simp [Value.cells]) (fun u hu => by
   rw [hel] at hu
   rcases List.mem_cons.1 (List.mem_toArray.1 (by simpa using hu)) with rfl | hu'
   ·rfl
   ·exact one_bs _ u hu') ?_
  intro w st
  rw [hel] at st
  refine wl_nil ?_
  refine then_go ?_
  refine wc_region ?_
  refine wl_val (v_move' (by conv => (lhs; whnf))) rfl ?_
  refine wl_val (v_fa TF.f106_0 rfl) rfl ?_
  refine wl_val (v_load rfl (by first | exact st.rdp 0 rfl (by exact rfl) TF.t3 (by exact rfl) | exact st.rdp 1 rfl (by exact rfl) TF.t3 (by exact rfl) | exact st.rdp 2 rfl (by exact rfl) TF.t3 (by exact rfl) | exact st.rdp 3 rfl (by exact rfl) TF.t3 (by exact rfl) | exact st.rdp 4 rfl (by exact rfl) TF.t3 (by exact rfl) | exact st.rdp 5 rfl (by exact rfl) TF.t3 (by exact rfl) | exact st.rdp 6 rfl (by exact rfl) TF.t3 (by exact rfl) | exact st.rdp 7 rfl (by exact rfl) TF.t3 (by exact rfl))) rfl ?_
  refine wl_val (v_fa TF.f106_1 rfl) rfl ?_
  refine wl_val (v_load rfl (st.reads 0 rfl TF.t104 (getV_tl (by simp [bs, hx.2])))) rfl ?_
  refine wl_val (v_ias (d.wt[j].1) Tryz.underlying88 TF.t104 rfl rfl (by first | rfl | omega) hx.1) rfl ?_
  have hlS : (dumpK d j).length = 64 * n := length_dumpK ok j (by omega)
  refine wl_store (v := .agg (bs d.wt[j].2).toArray) 1 st rfl TF.t104 rfl rfl (by simp [Value.cells, bs, hx.2]) (fun u hu => one_bs _ u (by simpa [Value.cells] using hu)) (by simp [bs, hlS]; omega) ?_
  intro w st
  have e : setSeg (bs (dumpK d j) ++ sp).toArray (0 + d.wt[j].1 * 64) (Value.agg (bs d.wt[j].2).toArray).cells.toList = (bs (dumpK d (j + 1)) ++ sp).toArray := by
   rw [dumpK_succ d j hj, show 0 + d.wt[j].1 * 64 = 64 * d.wt[j].1 by omega]
   exact setSeg_sp (by rw [hlS, hx.2]; omega)
  rw [e] at st
  have st := st.drop 0
  refine wl_nil ?_
  refine block_go (then_go ?_)
  refine wc_region ?_
  refine wl_val (v_add' rfl rfl rfl (by first | omega | (dsimp only at *; omega)) (by first | omega | (dsimp only at *; omega))) rfl ?_
  refine wl_val (v_move' (by conv => (lhs; whnf))) rfl ?_
  refine wl_nil ?_
  refine then_go ?_
  exact ⟨k - 1, by simp; omega, j + 1, by omega, rfl, rfl, rfl, rfl, rfl, st⟩
 ·refine wc_exit (then_exit (then_exit (block_hit ?_)))
  refine then_go ?_
  refine wc_seq ?_
  refine wc_seq ?_
  have hjl : j = d.wt.length := by omega
  subst hjl
  rw [dumpK_all] at st
  have hD : (dump d).length = 64 * n := by rw [← dumpK_all]; exact length_dumpK ok _ (Nat.le_refl _)
  refine wc_region ?_
  refine wl_val (v_move' (by conv => (lhs; whnf))) rfl ?_
  refine wl_val (v_len_s Tryz.underlying88 rfl) rfl ?_
  refine wl_val (v_move' (by conv => (lhs; whnf))) rfl ?_
  refine wl_nil ?_
  refine then_go ?_
  refine wc_block ?_
  refine wc_loop (S := Nat) (fun k r w' => ∃ j v, k + j = n ∧ r 3 = v ∧ r 37 = .slice (some ⟨g, 0, none⟩) n cap ∧ r 38 = .int .i64 n ∧ r 39 = .int .i64 j ∧
   St m m [] wI w' [blk g (bs (dump d) ++ sp).toArray 104, rowE v 5 1 (64 * j) (bs ((dump d).take (64 * j)))]) id n ⟨0, _, rfl, rfl, rfl, rfl, rfl, by rw [show bs ((dump d).take (64 * 0)) = [] by simp [bs]]; exact st⟩ ?_
  rintro k r w2 ⟨j, v, hkj, h3, h37, h38, h39, st⟩
  refine wc_o 3 h3 (wc_o 37 h37 (wc_o 38 h38 (wc_o 39 h39 ?_)))
  refine wc_seq ?_
  refine wc_region ?_
  refine wl_val (v_lss rfl rfl) rfl ?_
  refine wl_nil ?_
  refine then_go ?_
  refine wc_seq ?_
  refine wc_if rfl (fun h40 => ?_) (fun h40 => ?_)
  ·refine wc_skip ?_
   refine then_go ?_
   refine wc_seq ?_
   refine wc_block ?_
   refine wc_seq ?_
   have hj : j < n := by omega
   have hsec : (sec (dump d) j).length = 64 := by simp [sec, hD]; omega
   refine wc_region ?_
   refine wl_val (v_ias j Tryz.underlying88 TF.t104 rfl rfl (by first | rfl | omega) (by first | omega | (dsimp only at *; omega))) rfl ?_
   refine wl_val (v_load rfl (st.reads 0 rfl TF.t104 (getV_seg (a := bs ((dump d).take (64 * j))) (b := bs (sec (dump d) j)) (c := bs ((dump d).drop (64 * j + 64)) ++ sp) (by rw [← List.append_assoc, ← bs_append, ← bs_append, secs_split]) (by simp [bs, hD]; omega) (by simp [bs, hsec])))) rfl ?_
   refine wl_alloc TF.z104 st rfl ?_
   intro b8 w st
   refine wl_storeW 0 st rfl TF.t104 rfl rfl (by simp [bs, hsec]) (by simp [Value.cells]) (fun u hu => one_bs _ u (by simpa using hu)) ?_
   intro w st
   refine wl_nil ?_
   refine then_go ?_
   refine wc_region ?_
   refine wl_val (v_move' (by conv => (lhs; whnf))) rfl ?_
   refine wl_val (v_slice_a (l := 0) (h := 64) Tryz.underlying104 TF.t5 rfl rfl rfl (by omega) (by omega)) rfl ?_
   refine wl_append 2 st rfl Tryz.underlying23 Tryz.underlying23 (.inr ⟨_, rfl⟩) TF.t5 TF.z5 (by simp [Value.cells]) rfl rfl (st.srcArr (off := 0) (news := bs (sec (dump d) j)) 0 rfl (by simp [bs, hsec]) (fun q u hq => by simpa using hq) (one_bs _)) (by omega) (by omega) rfl ?_
   intro ov w _ st
   have e : bs ((dump d).take (64 * j)) ++ bs (sec (dump d) j) = bs ((dump d).take (64 * (j + 1))) := by
    rw [← bs_append]
    congr 1
    unfold sec
    rw [show 64 * (j + 1) = 64 * j + 64 by omega, List.take_add]
   rw [e] at st
   have st := st.drop 0
   refine wl_val (v_assign' (by conv => (lhs; whnf))) rfl ?_
   refine wl_nil ?_
   refine block_go (then_go ?_)
   refine wc_region ?_
   refine wl_val (v_add' rfl rfl rfl (by first | omega | (dsimp only at *; omega)) (by first | omega | (dsimp only at *; omega))) rfl ?_
   refine wl_val (v_move' (by conv => (lhs; whnf))) rfl ?_
   refine wl_nil ?_
   refine then_go ?_
   exact ⟨k - 1, by simp; omega, j + 1, ov, by omega, rfl, rfl, rfl, rfl, st⟩
  ·refine wc_exit (then_exit (then_exit (block_hit ?_)))
   refine then_go ?_
   refine wc_seq ?_
   refine wc_region ?_
   refine wl_val (v_move' (by conv => (lhs; whnf))) rfl ?_
   refine wl_val (v_assign' (by conv => (lhs; whnf))) rfl ?_
   refine wl_nil ?_
   refine then_go ?_
   refine wc_ret ?_
   have hjn : j = n := by omega
   obtain ⟨m1, h1, h2, h3'⟩ := st.freshR (i := 1) rfl
   refine ret1 (v := v) rfl ⟨st.touch, m1, h1, h2, ?_⟩
   rw [hjn] at h3'
   rw [List.take_of_length_le (by omega)] at h3'
   rw [hD]
   exact h3'
end
end Go.Proofs.YtladpaehbolghaaGreat

namespace Go.Proofs.YtladpaehbolghaaGreat
open Go Go.RowKit K DK
section
variable {m : Mem}
def NewDisk (w w' : World) (v : Value) (n : Nat) (d : DS) : Prop := ∃ b s wv, v = .pointer (some ⟨b, 0, none⟩) ∧ Tch w w' [] (diskO b s n wv d).foot ∧ (diskO b s n wv d).holds w'
theorem bs_zero (k : Nat) : List.replicate k (Value.int .u8 0) = bs (List.replicate k 0) := by simp [bs, u8]
theorem c_new {wI : World} (i : Int) (him : Im m wI) :
  Ret Tryz.prog 33 #[.int .i64 i] wI fun v w' =>
   if i < 1 ∨ i > 16384 then Tch wI w' [] [] ∧ v = .tuple #[.pointer none, .int .i64 2]
   else ∃ p, NewDisk wI w' p i.toNat (newD i.toNat) ∧ v = .tuple #[p, .int .i64 0] := by
 have st := St.start him
 refine ret_of Tryz.call33 Tryz.func33 rfl Tryz.ntmps33 Tryz.results33 rfl ?_
 refine wc_seq ?_
 refine wc_region ?_
 refine wl_val (v_assign' (by conv => (lhs; whnf))) rfl ?_
 refine wl_val (v_assign' (by conv => (lhs; whnf))) rfl ?_
 refine wl_nil ?_
 refine then_go ?_
 refine wc_seq ?_
 refine wc_seq ?_
 refine wc_region ?_
 refine wl_val (v_move' (by conv => (lhs; whnf))) rfl ?_
 refine wl_val (v_lss rfl rfl) rfl ?_
 refine wl_val (v_move' (by conv => (lhs; whnf))) rfl ?_
 by_cases hg2 : i < 1
 ·rw [show decide (i < 1) = true from decide_eq_true hg2]
  refine wl_off rfl rfl rfl rfl ?_
  refine wl_off rfl rfl rfl rfl ?_
  refine wl_val (v_pick rfl) rfl ?_
  refine wl_nil ?_
  refine then_go ?_
  refine wc_true rfl ?_
  refine wc_seq ?_
  refine wc_region ?_
  refine wl_val (v_assign' (by conv => (lhs; whnf))) rfl ?_
  refine wl_val (v_assign' (by conv => (lhs; whnf))) rfl ?_
  refine wl_nil ?_
  refine then_go ?_
  refine wc_ret (then_ret ?_)
  refine ret2 (v := .pointer none) (v' := .int .i64 2) rfl rfl ?_
  rw [if_pos (.inl hg2)]
  exact ⟨st.touch, rfl⟩
 ·rw [show decide (i < 1) = false from decide_eq_false hg2]
  refine wl_on rfl rfl ?_
  refine wl_val (v_move' (by conv => (lhs; whnf))) rfl ?_
  refine wl_on rfl rfl ?_
  refine wl_val (v_gtr rfl rfl) rfl ?_
  refine wl_val (v_pick rfl) rfl ?_
  refine wl_nil ?_
  refine then_go ?_
  refine wc_if rfl (fun h9 => ?_) (fun h9 => ?_)
  ·refine wc_seq ?_
   refine wc_region ?_
   refine wl_val (v_assign' (by conv => (lhs; whnf))) rfl ?_
   refine wl_val (v_assign' (by conv => (lhs; whnf))) rfl ?_
   refine wl_nil ?_
   refine then_go ?_
   refine wc_ret (then_ret ?_)
   refine ret2 (v := .pointer none) (v' := .int .i64 2) rfl rfl ?_
   rw [if_pos (.inr h9)]
   exact ⟨st.touch, rfl⟩
  ·refine wc_skip ?_
   refine then_go ?_
   refine wc_seq ?_
   obtain ⟨n, rfl⟩ : ∃ n : Nat, i = n := ⟨i.toNat, by omega⟩
   refine wc_region ?_
   refine wl_val (v_move' (by conv => (lhs; whnf))) rfl ?_
   refine wl_make (l := n) (c := n) Tryz.underlying88 TF.t104 TF.z104 rfl rfl rfl rfl (by omega) (by omega) (by omega) (by omega) st rfl ?_
   intro s w st
   have e : madeCells (Value.agg (Array.replicate 64 (Value.int .u8 0))).cells (n * 64) = (bs (List.replicate (64 * n) 0)).toArray := by
    rw [show (Value.agg (Array.replicate 64 (Value.int .u8 0))).cells = Array.replicate (63 + 1) (Value.int .u8 0) from rfl, madeCells_rep, bs_zero, Nat.mul_comm]
   rw [e] at st
   refine wl_val (v_build (c' := #[.slice (some ⟨s, 0, none⟩) n n, .slice none 0 0, .int .i64 (-1), .bool false]) [(0, .slice (some ⟨s, 0, none⟩) n n), (2, .int .i64 (-1))] TF.z91 TF.p91 rfl (fill_one [] [.slice none 0 0] [.slice none 0 0, .int .i64 0, .bool false] rfl rfl rfl (fill_one [.slice (some ⟨s, 0, none⟩) n n, .slice none 0 0] [.int .i64 0] [.bool false] rfl rfl rfl rfl))) rfl ?_
   refine wl_box (v := .agg #[.slice (some ⟨s, 0, none⟩) n n, .slice none 0 0, .int .i64 (-1), .bool false]) rfl st rfl ?_
   intro b w st
   have st := st.new (E := rowE (.slice none 0 0) 106 65 0 []) ⟨rfl, rfl, rfl, Nat.le_refl _, fun _ _ _ => rfl, by simp [rowE, Value.ownBlock]⟩ ⟨by simp, .inl ⟨rfl, rfl⟩⟩
   have st := st.perm (l := diskL b s n (.slice none 0 0) (newD n)) ((List.Perm.swap _ _ _).trans (List.Perm.cons _ (List.Perm.swap _ _ _)))
   refine wl_val (v_assign' (by conv => (lhs; whnf))) rfl ?_
   refine wl_val (v_assign' (by conv => (lhs; whnf))) rfl ?_
   refine wl_nil ?_
   refine then_go ?_
   refine wc_ret ?_
   refine ret2 (v := .pointer (some ⟨b, 0, none⟩)) (v' := .int .i64 0) rfl rfl ?_
   rw [if_neg (by omega)]
   exact ⟨_, ⟨b, s, _, rfl, (St.finish (Es := []) st).1, (St.finish (Es := []) st).2⟩, rfl⟩
end
end Go.Proofs.YtladpaehbolghaaGreat

namespace Go.Proofs.YtladpaehbolghaaGreat
open Go Go.RowKit K SH DK JR
def logB (g b : Nat) (s : LG) (lv : Value) : Ent := K.blk g #[.pointer (some ⟨b, 0, none⟩), .int .i64 s.half, u64 s.gen, .int .i64 s.fin, lv] 126
section
variable {m0 m : Mem} {F : List Nat} {w0 w : World} {Es : List Ent}
theorem disk_callI {f : FuncId} {args : List Value} {R : Value → DS → Prop} {b s n : Nat} {wv : Value} {d : DS} (i : Nat) (st : St m0 m F w0 w Es) (hi : Es[i]? = some (diskO b s n wv d)) (h : DiskCall f args b s n wv d w R) :
  Ret Tryz.prog f (.pointer (some ⟨b, 0, none⟩) :: args).toArray w fun v w' => ∃ wv' d', St m0 m F w0 w' (Es.set i (diskO b s n wv' d')) ∧ R v d' :=
 h.mono fun _ _ ⟨wv', d', t, hE, hR⟩ => ⟨wv', d', st.step i hi t hE, hR⟩
theorem disk_at {b s n : Nat} {wv : Value} {d : DS} (i : Nat) (st : St m0 m F w0 w Es) (hi : Es[i]? = some (diskO b s n wv d)) (ok : d.ok n) : diskM (heapM w) b n d := by
 have h := (st.at hi).1
 exact ⟨ok, ⟨s, wv, h (K.blk b _ _) (List.mem_cons_self), h (K.blk s _ _) (List.mem_cons_of_mem _ List.mem_cons_self), row_SlM (h (rowE wv 106 65 d.wt.length (wtCells d.wt)) (by simp [diskL])) fun _ _ _ h => h⟩, row_few (h (rowE wv 106 65 d.wt.length (wtCells d.wt)) (by simp [diskL]))⟩
theorem c_lsize {g b s n : Nat} {sl : LG} {lv wv : Value} {d : DS} (st : St m0 m F w0 w (logB g b sl lv :: diskO b s n wv d :: Es)) (ok : d.ok n) :
  Ret Tryz.prog 75 #[.pointer (some ⟨g, 0, none⟩)] w fun v w' => Tch w w' [] [] ∧ v = .int .i64 ((n / 2 * 64 : Nat) : Int) := by
 have hn := ok.le
 refine ret_of Tryz.call75 Tryz.func75 rfl Tryz.ntmps75 Tryz.results75 rfl ?_
 refine wc_seq ?_
 refine wc_region ?_
 refine wl_val (v_assign' (by conv => (lhs; whnf))) rfl ?_
 refine wl_nil ?_
 refine then_go ?_
 refine wc_seq ?_
 refine wc_region ?_
 refine wl_val (v_move' (by conv => (lhs; whnf))) rfl ?_
 refine wl_val (v_nil rfl) rfl ?_
 refine wl_val (v_fa TF.f126_0 rfl) rfl ?_
 refine wl_val (v_load rfl (st.reads (v := .pointer (some ⟨b, 0, none⟩)) 0 rfl TF.t35 rfl)) rfl ?_
 refine wl_call rfl (c_size (im_heapM _) (disk_at 1 st rfl ok)) rfl ?_
 rintro v7 w ⟨rfl, rfl⟩
 refine wl_val (v_to (v' := .int .i64 ((n / 2 : Nat) : Int)) (v_quo' rfl rfl (by omega) (by omega) rfl (by omega)) (by rw [Int.natCast_ediv]; rfl)) rfl ?_
 refine wl_val (v_mul' (c := ((n / 2 * 64 : Nat) : Int)) rfl rfl (by omega) (by omega) (by omega)) rfl ?_
 refine wl_val (v_assign' (by conv => (lhs; whnf))) rfl ?_
 refine wl_nil ?_
 refine then_go ?_
 refine wc_ret ?_
 exact ret1 rfl ⟨Tch.refl _ _, rfl⟩
theorem c_put {g b s n hf at' : Nat} {sl : LG} {lv wv bv : Value} {d : DS} {x : By} (st : St m0 m F w0 w (logB g b sl lv :: diskO b s n wv d :: Es)) (hr : Rdy n d 100000) (hx : SlM m bv 1 x.length (bs x)) (hx64 : x.length % 64 = 0) (hxl : x.length ≤ 1048576) (hhf : hf ≤ 1) (hat : at' ≤ 1048576) :
  Ret Tryz.prog 76 #[.pointer (some ⟨g, 0, none⟩), .int .i64 hf, .int .i64 at', bv] w fun v w' => ∃ wv', St m0 m F w0 w' (logB g b sl lv :: diskO b s n wv' (putD n d ((hf * (n / 2 * 64) + at') / 64) x).1 :: Es) ∧ v = .int .i64 (putD n d ((hf * (n / 2 * 64) + at') / 64) x).2 := by
 obtain ⟨ba, bc, rfl, hbc⟩ := hx.opn
 have hn := hr.ok.le
 have hhl : hf * (n / 2 * 64) ≤ n / 2 * 64 := by rcases Nat.le_one_iff_eq_zero_or_eq_one.1 hhf with h | h <;> rw [h] <;> omega
 obtain ⟨fst, hfst⟩ : ∃ fst, fst = (hf * (n / 2 * 64) + at') / 64 := ⟨_, rfl⟩
 rw [← hfst]
 have hcl := chunk_len (b := x)
 refine ret_of Tryz.call76 Tryz.func76 rfl Tryz.ntmps76 Tryz.results76 rfl ?_
 refine wc_seq ?_
 refine wc_region ?_
 refine wl_val (v_assign' (by conv => (lhs; whnf))) rfl ?_
 refine wl_nil ?_
 refine then_go ?_
 refine wc_seq ?_
 refine wc_region ?_
 refine wl_val (v_move' (by conv => (lhs; whnf))) rfl ?_
 refine wl_val (v_move' (by conv => (lhs; whnf))) rfl ?_
 refine wl_call rfl (c_lsize st hr.ok) rfl ?_
 rintro v15 w ⟨t15, rfl⟩
 have st := st.pure t15
 refine wl_val (v_mul' (c := ((hf * (n / 2 * 64) : Nat) : Int)) rfl rfl (Int.natCast_mul _ _).symm (by omega) (by omega)) rfl ?_
 refine wl_val (v_move' (by conv => (lhs; whnf))) rfl ?_
 refine wl_val (v_add' (c := ((hf * (n / 2 * 64) + at' : Nat) : Int)) rfl rfl (by omega) (by omega) (by omega)) rfl ?_
 refine wl_val (v_to (v' := .int .i64 (fst : Int)) (v_quo' rfl rfl (by omega) (by omega) rfl (by omega)) (by rw [hfst, Int.natCast_ediv]; rfl)) rfl ?_
 refine wl_val (v_assign' (by conv => (lhs; whnf))) rfl ?_
 refine wl_nil ?_
 refine then_go ?_
 refine wc_seq ?_
 refine wc_region ?_
 refine wl_val (v_move' (by conv => (lhs; whnf))) rfl ?_
 refine wl_val (v_nil rfl) rfl ?_
 refine wl_val (v_fa TF.f126_0 rfl) rfl ?_
 refine wl_val (v_load rfl (st.reads (v := .pointer (some ⟨b, 0, none⟩)) 0 rfl TF.t35 rfl)) rfl ?_
 refine wl_val (v_mkfunc rfl rfl) rfl ?_
 refine wl_val (v_assign' (by conv => (lhs; whnf))) rfl ?_
 refine wl_nil ?_
 refine then_go ?_
 refine wc_seq ?_
 refine wc_seq ?_
 refine wc_region ?_
 refine wl_val (v_assign' (by conv => (lhs; whnf))) rfl ?_
 refine wl_nil ?_
 refine then_go ?_
 refine wc_block ?_
 refine wc_loop (S := Nat) (fun q r w' => ∃ (j : Nat) (wv : Value) (dj : DS), q + j = (chunk x).length ∧ r 0 = .pointer (some ⟨g, 0, none⟩) ∧ r 3 = .slice ba x.length bc ∧ r 9 = .int .i64 fst ∧ r 10 = .func (.func 96) #[.pointer (some ⟨b, 0, none⟩)] #[] ∧ r 11 = .int .i64 ((64 * j : Nat) : Int) ∧ putD n d fst x = writesD n dj (fst + j) ((chunk x).drop j) ∧ Rdy n dj (100000 + j) ∧ St m0 m F w0 w' (logB g b sl lv :: diskO b s n wv dj :: Es)) id (chunk x).length ⟨0, wv, d, by omega, rfl, rfl, rfl, rfl, rfl, rfl, hr, st⟩ ?_
 clear st
 rintro q r w2 ⟨j, wv, dj, hqj, g0, g3, g9, g10, g11, hput, hr, st⟩
 refine wc_o 0 g0 (wc_o 3 g3 (wc_o 9 g9 (wc_o 10 g10 (wc_o 11 g11 ?_))))
 refine wc_seq ?_
 refine wc_seq ?_
 refine wc_region ?_
 refine wl_val (v_move' (by conv => (lhs; whnf))) rfl ?_
 refine wl_val (v_move' (by conv => (lhs; whnf))) rfl ?_
 refine wl_val (v_len_s Tryz.underlying23 rfl) rfl ?_
 refine wl_val (v_lss rfl rfl) rfl ?_
 refine wl_nil ?_
 refine then_go ?_
 refine wc_if rfl (fun h28 => ?_) (fun h28 => ?_)
 ·refine wc_skip ?_
  refine then_go ?_
  refine wc_seq ?_
  refine wc_block ?_
  refine wc_seq ?_
  have hj : j < (chunk x).length := by omega
  have hjx := hx.partB (64 * j) (64 * j + 64) (by omega) (by omega)
  have hce : (x.drop (64 * j)).take (64 * j + 64 - 64 * j) = (chunk x)[j] := by rw [chunk_at hj]; congr 1; omega
  rw [hce] at hjx
  have hc64 := chunk_64 _ (List.getElem_mem hj)
  rw [List.drop_eq_getElem_cons hj, writesD] at hput
  have hwr : Rdy n (writeD dj n ((fst + j : Nat) : Int) (chunk x)[j]).1 (100000 + (j + 1)) := ⟨ok_write hr.ok, fz_write hr.fz, Nat.le_trans wt_write (by have := hr.few; omega)⟩
  refine wc_region ?_
  refine wl_val (v_move' (by conv => (lhs; whnf))) rfl ?_
  refine wl_val (v_move' (by conv => (lhs; whnf))) rfl ?_
  refine wl_val (v_move' (by conv => (lhs; whnf))) rfl ?_
  refine wl_val (v_to (v' := .int .i64 (j : Int)) (v_quo' rfl rfl (by omega) (by omega) rfl (by omega)) (by congr 1; omega)) rfl ?_
  refine wl_val (v_add' (c := ((fst + j : Nat) : Int)) rfl rfl (by omega) (by omega) (by omega)) rfl ?_
  refine wl_val (v_move' (by conv => (lhs; whnf))) rfl ?_
  refine wl_val (v_move' (by conv => (lhs; whnf))) rfl ?_
  refine wl_val (v_move' (by conv => (lhs; whnf))) rfl ?_
  refine wl_val (v_add' (c := ((64 * j + 64 : Nat) : Int)) rfl rfl (by omega) (by omega) (by omega)) rfl ?_
  refine wl_val (v_sls (64 * j) (64 * j + 64) Tryz.underlying23 TF.t5 rfl ⟨_, _, rfl, rfl⟩ ⟨_, _, rfl, rfl⟩ (by omega) (by omega)) rfl ?_
  refine wl_callv rfl rfl (disk_callI 1 st rfl (c_write ((fst + j : Nat) : Int) st.im (st.at (i := 1) rfl) (st.none (i := 1) rfl) hr.ok hr.fz (by have := hr.few; omega) hjx)) rfl ?_
  rintro v41 w ⟨wv2, d2, st, rfl, rfl⟩
  refine wl_val (v_assign' (by conv => (lhs; whnf))) rfl ?_
  refine wl_nil ?_
  refine then_go ?_
  refine wc_seq ?_
  refine wc_region ?_
  refine wl_val (v_move' (by conv => (lhs; whnf))) rfl ?_
  refine wl_val (v_neq rfl rfl) rfl ?_
  refine wl_nil ?_
  refine then_go ?_
  refine wc_cond rfl (fun h43 => ?_) (fun h43 => ?_)
  ·refine wc_seq ?_
   refine wc_region ?_
   refine wl_val (v_move' (by conv => (lhs; whnf))) rfl ?_
   refine wl_val (v_assign' (by conv => (lhs; whnf))) rfl ?_
   refine wl_nil ?_
   refine then_go ?_
   refine wc_ret (block_ret (then_ret (then_ret (block_ret (then_ret ?_)))))
   have hz : (writeD dj n ((fst + j : Nat) : Int) (chunk x)[j]).2 ≠ 0 := of_decide_eq_true h43
   rw [if_pos hz] at hput
   exact ret1 rfl ⟨wv2, by rw [hput]; exact st, by rw [hput]; rfl⟩
  ·refine wc_skip ?_
   refine block_go (then_go ?_)
   refine wc_region ?_
   refine wl_val (v_move' (by conv => (lhs; whnf))) rfl ?_
   refine wl_val (v_add' (c := ((64 * (j + 1) : Nat) : Int)) rfl rfl (by omega) (by omega) (by omega)) rfl ?_
   refine wl_val (v_assign' (by conv => (lhs; whnf))) rfl ?_
   refine wl_nil ?_
   refine then_go ?_
   have hz : ¬ (writeD dj n ((fst + j : Nat) : Int) (chunk x)[j]).2 ≠ 0 := of_decide_eq_false h43
   rw [if_neg hz] at hput
   exact ⟨q - 1, by simp; omega, j + 1, wv2, _, by omega, rfl, rfl, rfl, rfl, rfl, hput, hwr, st⟩
 ·refine wc_exit (then_exit (then_exit (block_hit ?_)))
  refine then_go ?_
  refine wc_seq ?_
  refine wc_region ?_
  refine wl_val (v_move' (by conv => (lhs; whnf))) rfl ?_
  refine wl_val (v_nil rfl) rfl ?_
  refine wl_val (v_fa TF.f126_0 rfl) rfl ?_
  refine wl_val (v_load rfl (st.reads (v := .pointer (some ⟨b, 0, none⟩)) 0 rfl TF.t35 rfl)) rfl ?_
  have hjc : (chunk x).length ≤ j := by omega
  rw [List.drop_eq_nil_of_le hjc, writesD] at hput
  refine wl_call rfl (disk_callI 1 st rfl (c_sync st.im (st.at (i := 1) rfl) (st.none (i := 1) rfl) hr.ok hr.fz (by have := hr.few; omega))) rfl ?_
  rintro v49 w ⟨wv3, d3, st, rfl, rfl⟩
  refine wl_val (v_assign' (by conv => (lhs; whnf))) rfl ?_
  refine wl_nil ?_
  refine then_go ?_
  refine wc_ret ?_
  exact ret1 rfl ⟨wv3, by rw [hput]; exact st, by rw [hput]; rfl⟩
end
end Go.Proofs.YtladpaehbolghaaGreat

namespace Go.Proofs.YtladpaehbolghaaGreat
open Go Go.RowKit K SH DK JR
theorem JR.Rdy.mono {n k k' : Nat} {d : DS} (h : Rdy n d k) (hk : k ≤ k') : Rdy n d k' := ⟨h.ok, h.fz, Nat.le_trans h.few hk⟩
theorem rdy_done {n : Nat} {d : DS} {i k : Nat} {b : By} (h : Rdy n d k) (h0 : (putD n d i b).2 = 0) : Rdy n (putD n d i b).1 0 := by
 have := rdy_put (i := i) (b := b) h
 exact ⟨this.1.ok, this.1.fz, by rw [this.2 h0]; exact Nat.le_refl _⟩
theorem fst0 {hf n : Nat} (h : hf ≤ 1) : (hf * (n / 2 * 64) + 0) / 64 = hf * (n / 2) := by rcases Nat.le_one_iff_eq_zero_or_eq_one.1 h with h | h <;> rw [h] <;> omega
theorem fst1 {hf n : Nat} (h : hf ≤ 1) : (hf * (n / 2 * 64) + 64) / 64 = hf * (n / 2) + 1 := by rcases Nat.le_one_iff_eq_zero_or_eq_one.1 h with h | h <;> rw [h] <;> omega
theorem madeZ (n : Nat) : madeCells (Value.int .u8 0).cells (n * 1) = (bs (List.replicate n 0)).toArray := by
 rw [show (Value.int .u8 0).cells = Array.replicate (0 + 1) (Value.int .u8 0) from rfl, madeCells_rep, Nat.mul_one]
 simp [bs, u8]
section
variable {m0 m : Mem} {F : List Nat} {w0 w : World} {Es : List Ent}
theorem c_bcloneR {v : Value} {l : By} (st : St m0 m F w0 w Es) (hv : SlM m v 1 l.length (bs l)) (hL : l.length ≤ 1099511627776) :
  Ret Tryz.prog 62 #[v] w fun v' w' => St m0 m F w0 w' (byE v' l :: Es) := by
 obtain ⟨_, a, cap, rfl, _⟩ := id hv
 refine ret_of Tryz.call62 Tryz.func62 rfl Tryz.ntmps62 Tryz.results62 rfl ?_
 refine wc_seq ?_
 refine wc_region ?_
 refine wl_val (v_assign' (by conv => (lhs; whnf))) rfl ?_
 refine wl_nil ?_
 refine then_go ?_
 refine wc_seq ?_
 refine wc_seq ?_
 refine wc_region ?_
 refine wl_val (v_move' (by conv => (lhs; whnf))) rfl ?_
 refine wl_val (v_eq_nilS Tryz.underlying23 rfl rfl) rfl ?_
 refine wl_nil ?_
 refine then_go ?_
 refine wc_cond rfl (fun h4 => ?_) (fun h4 => ?_)
 ·refine wc_seq ?_
  refine wc_region ?_
  refine wl_val (v_assign' (by conv => (lhs; whnf))) rfl ?_
  refine wl_nil ?_
  refine then_go ?_
  refine wc_ret (then_ret ?_)
  have hL0 : l = [] := by
   obtain ⟨_, a', c', he, hk, hn, _⟩ := hv
   cases he
   have := hn (by simpa using h4)
   exact List.eq_nil_of_length_eq_zero (by omega)
  subst hL0
  exact ret1 rfl (nilRow st 5 1)
 ·refine wc_skip ?_
  refine then_go ?_
  refine wc_seq ?_
  refine wc_region ?_
  refine wl_buildSlice0 (size := 1) Tryz.underlying23 TF.t5 st rfl ?_
  intro v5 w st
  have st : St m0 m F w0 w (byE v5 [] :: Es) := st
  refine wl_val (v_move' (by conv => (lhs; whnf))) rfl ?_
  refine wl_appB (l2 := l) st Tryz.underlying23 Tryz.underlying23 (.inr ⟨_, rfl⟩) TF.t5 TF.z5 rfl rfl (hv.src st.im (one_bs _)) (by simp; omega) (by simp; omega) rfl ?_
  intro v7 w st hv7
  refine wl_val (v_assign' (by conv => (lhs; whnf))) rfl ?_
  refine wl_nil ?_
  refine then_go ?_
  refine wc_ret ?_
  exact ret1 rfl st
theorem c_bcloneA {v : Value} {l : By} (him : Im m w) (hv : SlM m v 1 l.length (bs l)) (hL : l.length ≤ 1099511627776) :
  Ret Tryz.prog 62 #[v] w fun v' w' => Out m w w' fun m' => SlM m' v' 1 l.length (bs l) ∧ Apart m m' v' l := by
 refine (c_bcloneR (St.start him) hv hL).mono fun v' w' st => ?_
 obtain ⟨m1, hg1, hm1, st1⟩ := st.freezeR (i := 0) rfl (by simp)
 have hown := st.own (byE v' l) (by simp)
 have hs := row_SlM (m := fun k => if m k = none then m1 k else none) (st.at (i := 0) rfl) (fun k o hk ho => by
  have h1 := (hown k (by rw [← Option.mem_toList] at *; simp [rowE, ← hk])).1
  simp [h1, hm1 k o hk ho])
 exact st1.out ⟨row_SlM (m := m1) (st.at (i := 0) rfl) hm1, _, fun k o hk => by
  by_cases h : m k = none
  ·simp [h] at hk; exact ⟨hk, h⟩
  ·simp [h] at hk, hs⟩
theorem c_jall {gen : UInt64} {nv : Value} {N : List (By × Value)} (st : St m0 m F w0 w Es) (hN : PcsM m nv N) (hNl : ∀ x ∈ N, x.1.length ≤ 1048576) (hNn : N.length ≤ 1048576) :
  Ret Tryz.prog 105 #[u64 gen, nv] w fun v w' => St m0 m F w0 w' (byE v (allB gen 0 (N.map (·.1))) :: Es) := by
 obtain ⟨na, nc, hlv⟩ : ∃ a c, nv = .slice a N.length c := by obtain ⟨⟨_, a, c, h, _⟩, _⟩ := hN; exact ⟨a, c, h⟩
 subst hlv
 refine ret_of Tryz.call105 Tryz.func105 rfl Tryz.ntmps105 Tryz.results105 rfl ?_
 refine wc_seq ?_
 refine wc_region ?_
 refine wl_val (v_assign' (by conv => (lhs; whnf))) rfl ?_
 refine wl_nil ?_
 refine then_go ?_
 refine wc_seq ?_
 refine wc_region ?_
 refine wl_val (v_assign' (by conv => (lhs; whnf))) rfl ?_
 refine wl_nil ?_
 refine then_go ?_
 refine wc_seq ?_
 refine wc_seq ?_
 refine wc_region ?_
 refine wl_val (v_move' (by conv => (lhs; whnf))) rfl ?_
 refine wl_val (v_len_s Tryz.underlying41 rfl) rfl ?_
 refine wl_val (v_move' (by conv => (lhs; whnf))) rfl ?_
 refine wl_nil ?_
 refine then_go ?_
 refine wc_block ?_
 have st := nilRow st 5 1
 have st : St m0 m F w0 w (byE (.slice none 0 0) [] :: Es) := st
 refine wc_loop (S := Nat) (fun q r w' => ∃ (i : Nat) (v : Value), q + i = N.length ∧ r 0 = u64 gen ∧ r 5 = v ∧ r 8 = .slice na N.length nc ∧ r 9 = .int .i64 N.length ∧ r 10 = .int .i64 i ∧ St m0 m F w0 w' (byE v (allB gen 0 ((N.take i).map (·.1))) :: Es)) id N.length ⟨0, _, by omega, rfl, rfl, rfl, rfl, rfl, st⟩ ?_
 clear st
 rintro q r w2 ⟨i, v, hqi, g0, g5, g8, g9, g10, st⟩
 refine wc_o 0 g0 (wc_o 5 g5 (wc_o 8 g8 (wc_o 9 g9 (wc_o 10 g10 ?_))))
 refine wc_seq ?_
 refine wc_region ?_
 refine wl_val (v_lss rfl rfl) rfl ?_
 refine wl_nil ?_
 refine then_go ?_
 refine wc_seq ?_
 refine wc_if rfl (fun h11 => ?_) (fun h11 => ?_)
 ·refine wc_skip ?_
  refine then_go ?_
  refine wc_seq ?_
  refine wc_block ?_
  refine wc_seq ?_
  have hi : i < N.length := by omega
  obtain ⟨nb, no, _, hnv, hsk, hrk⟩ := hN.elem hi
  cases hnv
  have hxl := hNl _ (List.getElem_mem hi)
  have hsz : sizeL ((N.take i).map (·.1)) ≤ 1048576 * 1048700 := by
   have key : ∀ M : List (By × Value), (∀ x ∈ M, x.1.length ≤ 1048576) → sizeL (M.map (·.1)) ≤ M.length * 1048700 := by
    intro M
    induction M with
    | nil => intro _; exact Nat.zero_le _
    | cons y M ih =>
     intro h
     have h1 := h y List.mem_cons_self
     have h2 := ih fun z hz => h z (List.mem_cons_of_mem _ hz)
     rw [List.map_cons, sizeL_cons, List.length_cons]
     unfold recL
     omega
   refine Nat.le_trans (key _ fun x hx => hNl x (List.mem_of_mem_take hx)) (Nat.mul_le_mul_right _ (by rw [List.length_take]; omega))
  refine wc_region ?_
  refine wl_val (v_move' (by conv => (lhs; whnf))) rfl ?_
  refine wl_val (v_ias i Tryz.underlying41 TF.t23 rfl rfl (by first | rfl | omega) (by first | omega | (dsimp only at *; omega))) rfl ?_
  refine wl_val (v_load rfl (hrk st.im)) rfl ?_
  refine wl_val (v_assign' (by conv => (lhs; whnf))) rfl ?_
  refine wl_val (v_assign' (by conv => (lhs; whnf))) rfl ?_
  refine wl_nil ?_
  refine then_go ?_
  refine wc_region ?_
  refine wl_val (v_move' (by conv => (lhs; whnf))) rfl ?_
  refine wl_val (v_move' (by conv => (lhs; whnf))) rfl ?_
  refine wl_val (v_move' (by conv => (lhs; whnf))) rfl ?_
  refine wl_val (v_convi_64 Tryz.underlying3 Tryz.underlying47 rfl) rfl ?_
  refine wl_val (v_move' (by conv => (lhs; whnf))) rfl ?_
  refine wl_call rfl (c_jrecord (s := UInt64.ofNat i) st hsk (by omega)) rfl ?_
  intro v20 w st
  refine wl_appBi (l2 := recB gen (UInt64.ofNat i) N[i].1) 1 st rfl Tryz.underlying23 Tryz.underlying23 (.inr ⟨_, rfl⟩) TF.t5 TF.z5 rfl rfl ((byE_SlM st 0 rfl).src (im_heapM _) (one_bs _)) (by rw [length_allB, length_recB]; unfold recL; omega) (by rw [length_allB, length_recB]; unfold recL; omega) rfl ?_
  intro v21 w st hv21
  have st : St m0 m F w0 w (byE v21 (allB gen 0 ((N.take (i + 1)).map (·.1))) :: Es) := by
   have e : allB gen 0 ((N.take (i + 1)).map (·.1)) = allB gen 0 ((N.take i).map (·.1)) ++ recB gen (UInt64.ofNat i) N[i].1 := by
    rw [List.take_succ_eq_append_getElem hi, List.map_append, List.map_singleton, allB_snoc, Nat.zero_add, List.length_map, List.length_take, Nat.min_eq_left (by omega)]
   rw [e]
   exact st.drop 0
  refine wl_val (v_assign' (by conv => (lhs; whnf))) rfl ?_
  refine wl_nil ?_
  refine block_go (then_go ?_)
  refine wc_region ?_
  refine wl_val (v_add' (c := ((i + 1 : Nat) : Int)) rfl rfl (by omega) (by omega) (by omega)) rfl ?_
  refine wl_val (v_move' (by conv => (lhs; whnf))) rfl ?_
  refine wl_nil ?_
  refine then_go ?_
  exact ⟨q - 1, by simp; omega, i + 1, v21, by omega, rfl, rfl, rfl, rfl, rfl, st⟩
 ·refine wc_exit (then_exit (then_exit (block_hit ?_)))
  refine then_go ?_
  refine wc_seq ?_
  refine wc_region ?_
  refine wl_val (v_move' (by conv => (lhs; whnf))) rfl ?_
  refine wl_val (v_assign' (by conv => (lhs; whnf))) rfl ?_
  refine wl_nil ?_
  refine then_go ?_
  refine wc_ret ?_
  have hiN : i = N.length := by omega
  subst hiN
  rw [List.take_length] at st
  exact ret1 rfl st
def OverOut (m0 m : Mem) (w0 w' : World) (Es : List Ent) (g b s n : Nat) (sl : LG) (lv : Value) (d : DS) (L : List By) (v : Value) : Prop :=
 ∃ m' wv', (∀ k o, m k = some o → m' k = some o) ∧ v = .int .i64 (overD n d sl L).2.2 ∧
  ((overD n d sl L).2.2 ≠ 0 → (overD n d sl L).2.1 = sl ∧ St m0 m' [] w0 w' (logB g b sl lv :: diskO b s n wv' (overD n d sl L).1 :: Es)) ∧
  ((overD n d sl L).2.2 = 0 → ∃ lv' N', Pcs m' N' ∧ (∀ y ∈ N', Apart m m' y.2 y.1) ∧ N'.map (·.1) = L ∧ St m0 m' [] w0 w' (logB g b (overD n d sl L).2.1 lv' :: lrE lv' N' :: diskO b s n wv' (overD n d sl L).1 :: Es))
theorem OverOut.bad {m0 m m' : Mem} {w0 w' : World} {Es : List Ent} {g b s n : Nat} {sl : LG} {lv wv' : Value} {d d' : DS} {e : Int} {L : List By} (ho : overD n d sl L = (d', sl, e)) (he : e ≠ 0) (hm : ∀ k o, m k = some o → m' k = some o) (st : St m0 m' [] w0 w' (logB g b sl lv :: diskO b s n wv' d' :: Es)) : OverOut m0 m w0 w' Es g b s n sl lv d L (.int .i64 e) := by
 unfold OverOut
 rw [ho]
 exact ⟨m', wv', hm, rfl, fun _ => ⟨rfl, st⟩, fun h => (he h).elim⟩
theorem c_over {g b s n : Nat} {sl : LG} {lv wv nv : Value} {d : DS} {N : List (By × Value)} (st : St m0 m [] w0 w (logB g b sl lv :: diskO b s n wv d :: Es)) (hr : Rdy n d 100000) (hn8 : 8 ≤ n) (hsl : sl.half ≤ 1) (hN : PcsM m nv N) (hNl : ∀ x ∈ N, x.1.length ≤ 1048576) (hNn : N.length ≤ 1048576) :
  Ret Tryz.prog 84 #[.pointer (some ⟨g, 0, none⟩), nv] w fun v w' => OverOut m0 m w0 w' Es g b s n sl lv d (N.map (·.1)) v := by
 obtain ⟨na, nc, hlv⟩ : ∃ a c, nv = .slice a N.length c := by obtain ⟨⟨_, a, c, h, _⟩, _⟩ := hN; exact ⟨a, c, h⟩
 subst hlv
 have hn := hr.ok.le
 obtain ⟨hf, hhf⟩ : ∃ hf, hf = 1 - sl.half := ⟨_, rfl⟩
 have hf1 : hf ≤ 1 := by omega
 have hfz : (1 : Int) - (sl.half : Int) = (hf : Int) := by omega
 obtain ⟨L, hL⟩ : ∃ L, L = N.map (·.1) := ⟨_, rfl⟩
 rw [← hL]
 have hmm0 : ∀ k o, m k = some o → m k = some o := fun _ _ h => h
 refine ret_of Tryz.call84 Tryz.func84 rfl Tryz.ntmps84 Tryz.results84 rfl ?_
 refine wc_seq ?_
 refine wc_region ?_
 refine wl_val (v_assign' (by conv => (lhs; whnf))) rfl ?_
 refine wl_nil ?_
 refine then_go ?_
 refine wc_seq ?_
 refine wc_draw TF.mixed ?_
 have st := st.pure (touch_drew _)
 refine fl_val 0 rfl (fun _ => (v_move' (by conv => (lhs; whnf)))) rfl (by kernel_rfl) ?_
 refine fl_val 1 rfl (fun _ => (v_nil rfl)) rfl (by kernel_rfl) ?_
 refine fl_val 2 rfl (fun _ => (v_fa TF.f126_1 rfl)) rfl (by kernel_rfl) ?_
 refine fl_ld 3 rfl (v_load rfl (st.reads (v := .int .i64 sl.half) 0 rfl TF.t3 rfl)) (by kernel_rfl) ?_
 refine fl_val 4 rfl (fun _ => (v_sub' (c := (hf : Int)) rfl rfl hfz (by omega) (by omega))) rfl (by kernel_rfl) ?_
 refine fl_val 5 rfl (fun _ => (v_move' (by conv => (lhs; whnf)))) rfl (by kernel_rfl) ?_
 refine fl_val 6 rfl (fun _ => (v_nil rfl)) rfl (by kernel_rfl) ?_
 refine fl_val 7 rfl (fun _ => (v_fa TF.f126_2 rfl)) rfl (by kernel_rfl) ?_
 refine fl_ld 8 rfl (v_load rfl (st.reads (v := u64 sl.gen) 0 rfl TF.t47 rfl)) (by kernel_rfl) ?_
 refine fl_val 9 rfl (fun _ => (v_add64 (q := 1) rfl rfl)) rfl (by kernel_rfl) ?_
 refine fl_val 10 rfl (fun _ => (v_move' (by conv => (lhs; whnf)))) rfl (by kernel_rfl) ?_
 refine fl_eff1 11 [7, 6, 5, 4, 2, 1, 0] [8, 3] (by kernel_rfl) ⟨obl_ld rfl rfl rfl (v_load rfl (st.reads (v := u64 sl.gen) 0 rfl TF.t47 rfl)), obl_ld rfl rfl rfl (v_load rfl (st.reads (v := .int .i64 sl.half) 0 rfl TF.t3 rfl)), trivial⟩ rfl ?_
 refine wl_call rfl (c_jall (gen := sl.gen + 1) st hN hNl hNn) rfl ?_
 intro v23 w st
 obtain ⟨B, hB⟩ : ∃ B, B = allB (sl.gen + 1) 0 L := ⟨_, rfl⟩
 have hBl : B.length = sizeL L := by rw [hB, length_allB]
 have st : St m0 m [] w0 w (byE v23 B :: logB g b sl lv :: diskO b s n wv d :: Es) := by rw [hB, hL]; exact st
 have st1 := st
 obtain ⟨m1, hg1, hm1, st⟩ := st.freezeR (i := 0) rfl (by simp)
 have hBm : SlM m1 v23 1 B.length (bs B) := row_SlM (m := m1) (st1.at (i := 0) rfl) hm1
 have st : St m0 m1 [] w0 w (logB g b sl lv :: diskO b s n wv d :: Es) := st
 have hmm1 := hg1.le
 have hN := hN.mono hmm1
 obtain ⟨Ba, Bc, hBv, _⟩ := hBm.opn
 subst hBv
 refine wl_nil ⟨rfl, ?_⟩
 refine fl_eff1 12 [7, 6, 5] [8] (by kernel_rfl) ⟨obl_ld rfl rfl rfl (v_load rfl (st.reads (v := u64 sl.gen) 0 rfl TF.t47 rfl)), obl_ld rfl rfl rfl (v_load rfl (st.reads (v := .int .i64 sl.half) 0 rfl TF.t3 rfl)), trivial⟩ rfl ?_
 refine wl_val (v_assign' (by conv => (lhs; whnf))) rfl ?_
 refine wl_nil ⟨rfl, ?_⟩
 refine fl_eff1 13 [] [] (by kernel_rfl) ⟨obl_ld rfl rfl rfl (v_load rfl (st.reads (v := u64 sl.gen) 0 rfl TF.t47 rfl)), trivial⟩ rfl ?_
 refine wl_val (v_assign' (by conv => (lhs; whnf))) rfl ?_
 refine wl_nil ⟨rfl, ?_⟩
 refine fl_nil (by kernel_rfl) trivial ?_
 refine then_go ?_
 refine wc_seq ?_
 refine wc_seq ?_
 refine wc_region ?_
 refine wl_val (v_move' (by conv => (lhs; whnf))) rfl ?_
 refine wl_val (v_len_s Tryz.underlying23 rfl) rfl ?_
 refine wl_val (v_move' (by conv => (lhs; whnf))) rfl ?_
 refine wl_call rfl (c_lsize st hr.ok) rfl ?_
 rintro v27 w ⟨t27, rfl⟩
 have st := st.pure t27
 refine wl_val (v_sub' (c := ((n / 2 * 64 - 64 : Nat) : Int)) rfl rfl (by omega) (by omega) (by omega)) rfl ?_
 refine wl_val (v_gtr rfl rfl) rfl ?_
 refine wl_nil ?_
 refine then_go ?_
 refine wc_if rfl (fun h29 => ?_) (fun h29 => ?_)
 ·refine wc_seq ?_
  refine wc_region ?_
  refine wl_val (v_assign' (by conv => (lhs; whnf))) rfl ?_
  refine wl_nil ?_
  refine then_go ?_
  refine wc_ret (then_ret ?_)
  exact ret1 rfl (OverOut.bad (e := 13) (by unfold overD; rw [if_pos (by omega)]) (by decide) hmm1 st)
 ·refine wc_skip ?_
  refine then_go ?_
  refine wc_seq ?_
  refine wc_seq ?_
  refine wc_region ?_
  refine wl_val (v_move' (by conv => (lhs; whnf))) rfl ?_
  refine wl_val (v_move' (by conv => (lhs; whnf))) rfl ?_
  refine wl_val (v_move' (by conv => (lhs; whnf))) rfl ?_
  have hfit : ¬ n / 2 * 64 - 64 < sizeL L := by omega
  refine wl_call rfl (c_lsize st hr.ok) rfl ?_
  rintro v33 w ⟨t33, rfl⟩
  have st := st.pure t33
  refine wl_make (l := n / 2 * 64) (c := n / 2 * 64) Tryz.underlying23 TF.t5 TF.z5 rfl rfl rfl rfl (by omega) (by omega) (by omega) (by omega) st rfl ?_
  intro b34 w st
  rw [madeZ] at st
  obtain ⟨m2, hg2, hm2, st⟩ := st.freeze (i := 0) rfl (by simp)
  have st : St m0 m2 [] w0 w (logB g b sl lv :: diskO b s n wv d :: Es) := st
  obtain ⟨Z, hZ⟩ : ∃ Z : By, Z = List.replicate (n / 2 * 64) 0 := ⟨_, rfl⟩
  have hZl : Z.length = n / 2 * 64 := by rw [hZ, List.length_replicate]
  rw [← hZ] at hm2
  have hZm : SlM m2 (.slice (some ⟨b34, 0, none⟩) (n / 2 * 64) (n / 2 * 64)) 1 Z.length (bs Z) := by
   have := SlM.ofBlock (o := 0) (cap := Z.length) (l := Z) (pre := []) (post := []) hm2 (by simp) rfl (Nat.le_refl _)
   rw [hZl] at this ⊢
   exact this
  have hBm := hBm.mono hg2.le
  have hN := hN.mono hg2.le
  have hmm2 : ∀ k o, m k = some o → m2 k = some o := fun k o h => hg2.le k o (hmm1 k o h)
  refine wl_call rfl (c_put (hf := hf) (at' := 0) st hr hZm (by omega) (by omega) hf1 (by omega)) rfl ?_
  rintro v35 w ⟨wv1, st, rfl⟩
  rw [fst0 hf1] at st ⊢
  have hr1 := rdy_done (i := hf * (n / 2)) (b := Z) hr
  have hd1 : (putD n d ((1 - sl.half) * (n / 2)) (List.replicate (n / 2 * 64) 0)) = putD n d (hf * (n / 2)) Z := by rw [hhf, hZ]
  obtain ⟨P1, hP1⟩ : ∃ P1, P1 = putD n d (hf * (n / 2)) Z := ⟨_, rfl⟩
  rw [← hP1] at st hr1 hd1 ⊢
  refine wl_val (v_assign' (by conv => (lhs; whnf))) rfl ?_
  refine wl_nil ?_
  refine then_go ?_
  refine wc_seq ?_
  refine wc_region ?_
  refine wl_val (v_move' (by conv => (lhs; whnf))) rfl ?_
  refine wl_val (v_neq rfl rfl) rfl ?_
  refine wl_nil ?_
  refine then_go ?_
  refine wc_cond rfl (fun h37 => ?_) (fun h37 => ?_)
  ·refine wc_seq ?_
   refine wc_region ?_
   refine wl_val (v_move' (by conv => (lhs; whnf))) rfl ?_
   refine wl_val (v_assign' (by conv => (lhs; whnf))) rfl ?_
   refine wl_nil ?_
   refine then_go ?_
   refine wc_ret (then_ret ?_)
   have hz := of_decide_eq_true h37
   exact ret1 rfl (OverOut.bad (by unfold overD; rw [if_neg hfit, hd1, if_pos hz]) hz hmm2 st)
  ·refine wc_skip ?_
   refine then_go ?_
   refine wc_seq ?_
   refine wc_seq ?_
   refine wc_region ?_
   refine wl_val (v_move' (by conv => (lhs; whnf))) rfl ?_
   refine wl_val (v_move' (by conv => (lhs; whnf))) rfl ?_
   refine wl_val (v_move' (by conv => (lhs; whnf))) rfl ?_
   have hz1 := of_decide_eq_false h37
   have hr1 := (hr1 (Decidable.not_not.1 hz1)).mono (k' := 100000) (by omega)
   refine wl_call rfl (c_put (hf := hf) (at' := 64) st hr1 hBm (by rw [hBl]; exact sizeL_mod) (by omega) hf1 (by omega)) rfl ?_
   rintro v42 w ⟨wv2, st, rfl⟩
   rw [fst1 hf1] at st ⊢
   have hr2 := rdy_done (i := hf * (n / 2) + 1) (b := B) hr1
   have hd2 : (putD n P1.1 ((1 - sl.half) * (n / 2) + 1) (allB (sl.gen + 1) 0 L)) = putD n P1.1 (hf * (n / 2) + 1) B := by rw [hhf, hB]
   obtain ⟨P2, hP2⟩ : ∃ P2, P2 = putD n P1.1 (hf * (n / 2) + 1) B := ⟨_, rfl⟩
   rw [← hP2] at st hr2 hd2 ⊢
   refine wl_val (v_assign' (by conv => (lhs; whnf))) rfl ?_
   refine wl_nil ?_
   refine then_go ?_
   refine wc_seq ?_
   refine wc_region ?_
   refine wl_val (v_move' (by conv => (lhs; whnf))) rfl ?_
   refine wl_val (v_neq rfl rfl) rfl ?_
   refine wl_nil ?_
   refine then_go ?_
   refine wc_cond rfl (fun h44 => ?_) (fun h44 => ?_)
   ·refine wc_seq ?_
    refine wc_region ?_
    refine wl_val (v_move' (by conv => (lhs; whnf))) rfl ?_
    refine wl_val (v_assign' (by conv => (lhs; whnf))) rfl ?_
    refine wl_nil ?_
    refine then_go ?_
    refine wc_ret (then_ret ?_)
    have hz := of_decide_eq_true h44
    exact ret1 rfl (OverOut.bad (by unfold overD; rw [if_neg hfit, hd1, if_neg hz1, hd2, if_pos hz]) hz hmm2 st)
   ·refine wc_skip ?_
    refine then_go ?_
    refine wc_seq ?_
    refine wc_seq ?_
    refine wc_region ?_
    refine wl_val (v_move' (by conv => (lhs; whnf))) rfl ?_
    refine wl_val (v_move' (by conv => (lhs; whnf))) rfl ?_
    refine wl_val (v_move' (by conv => (lhs; whnf))) rfl ?_
    refine wl_val (v_nil rfl) rfl ?_
    refine wl_val (v_fa TF.f126_2 rfl) rfl ?_
    refine wl_val (v_load rfl (st.reads (v := u64 sl.gen) 0 rfl TF.t47 rfl)) rfl ?_
    refine wl_val (v_add64 (q := 1) rfl rfl) rfl ?_
    have hz2 := of_decide_eq_false h44
    have hr2 := (hr2 (Decidable.not_not.1 hz2)).mono (k' := 100000) (by omega)
    refine wl_call rfl (c_jhead (g := sl.gen + 1) st) rfl ?_
    intro v53 w st
    have st3 := st
    obtain ⟨m3, hg3, hm3, st⟩ := st.freezeR (i := 0) rfl (by simp)
    have hHm : SlM m3 v53 1 (headB (sl.gen + 1)).length (bs (headB (sl.gen + 1))) := row_SlM (m := m3) (st3.at (i := 0) rfl) hm3
    have st : St m0 m3 [] w0 w (logB g b sl lv :: diskO b s n wv2 P2.1 :: Es) := st
    have hN := hN.mono hg3.le
    have hmm3 : ∀ k o, m k = some o → m3 k = some o := fun k o h => hg3.le k o (hmm2 k o h)
    have hHl := length_headB (sl.gen + 1)
    refine wl_call rfl (c_put (hf := hf) (at' := 0) st hr2 hHm (by omega) (by omega) hf1 (by omega)) rfl ?_
    rintro v54 w ⟨wv3, st, rfl⟩
    rw [fst0 hf1] at st ⊢
    have hd3 : (putD n P2.1 ((1 - sl.half) * (n / 2)) (headB (sl.gen + 1))) = putD n P2.1 (hf * (n / 2)) (headB (sl.gen + 1)) := by rw [hhf]
    obtain ⟨P3, hP3⟩ : ∃ P3, P3 = putD n P2.1 (hf * (n / 2)) (headB (sl.gen + 1)) := ⟨_, rfl⟩
    rw [← hP3] at st hd3 ⊢
    refine wl_val (v_assign' (by conv => (lhs; whnf))) rfl ?_
    refine wl_nil ?_
    refine then_go ?_
    refine wc_seq ?_
    refine wc_region ?_
    refine wl_val (v_move' (by conv => (lhs; whnf))) rfl ?_
    refine wl_val (v_neq rfl rfl) rfl ?_
    refine wl_nil ?_
    refine then_go ?_
    refine wc_cond rfl (fun h56 => ?_) (fun h56 => ?_)
    ·refine wc_seq ?_
     refine wc_region ?_
     refine wl_val (v_move' (by conv => (lhs; whnf))) rfl ?_
     refine wl_val (v_assign' (by conv => (lhs; whnf))) rfl ?_
     refine wl_nil ?_
     refine then_go ?_
     refine wc_ret (then_ret ?_)
     have hz := of_decide_eq_true h56
     exact ret1 rfl (OverOut.bad (by unfold overD; rw [if_neg hfit, hd1, if_neg hz1, hd2, if_neg hz2, hd3, if_pos hz]) hz hmm3 st)
    ·refine wc_skip ?_
     refine then_go ?_
     refine wc_seq ?_
     refine wc_region ?_
     refine wl_val (v_move' (by conv => (lhs; whnf))) rfl ?_
     refine wl_val (v_move' (by conv => (lhs; whnf))) rfl ?_
     refine wl_val (v_move' (by conv => (lhs; whnf))) rfl ?_
     refine wl_val (v_move' (by conv => (lhs; whnf))) rfl ?_
     refine wl_val (v_move' (by conv => (lhs; whnf))) rfl ?_
     refine wl_val (v_nil rfl) rfl ?_
     refine wl_val (v_fa TF.f126_2 rfl) rfl ?_
     refine wl_val (v_load rfl (st.reads (v := u64 sl.gen) 0 rfl TF.t47 rfl)) rfl ?_
     refine wl_val (v_add64 (q := 1) rfl rfl) rfl ?_
     refine wl_val (v_move' (by conv => (lhs; whnf))) rfl ?_
     refine wl_val (v_len_s Tryz.underlying23 rfl) rfl ?_
     refine wl_val (v_add' (c := ((64 + sizeL L : Nat) : Int)) rfl rfl (by omega) (by omega) (by omega)) rfl ?_
     refine wl_val (v_nil rfl) rfl ?_
     refine wl_val (v_fa TF.f126_1 rfl) rfl ?_
     refine wl_store1 0 st rfl TF.t3 rfl (by conv => (lhs; whnf)) rfl (by first | exact lt_ok rfl | decide | simp) ?_
     intro w st
     refine wl_val (v_nil rfl) rfl ?_
     refine wl_val (v_fa TF.f126_2 rfl) rfl ?_
     refine wl_store1 0 st rfl TF.t47 rfl (by conv => (lhs; whnf)) rfl (by first | exact lt_ok rfl | decide | simp) ?_
     intro w st
     refine wl_val (v_nil rfl) rfl ?_
     refine wl_val (v_fa TF.f126_3 rfl) rfl ?_
     refine wl_store1 0 st rfl TF.t3 rfl (by conv => (lhs; whnf)) rfl (by first | exact lt_ok rfl | decide | simp) ?_
     intro w st
     refine wl_nil ?_
     refine then_go ?_
     refine wc_seq ?_
     refine wc_region ?_
     refine wl_val (v_move' (by conv => (lhs; whnf))) rfl ?_
     refine wl_val (v_nil rfl) rfl ?_
     refine wl_val (v_fa TF.f126_4 rfl) rfl ?_
     refine wl_store1 0 st rfl TF.t41 rfl (by conv => (lhs; whnf)) rfl (by first | exact lt_ok rfl | decide | simp) ?_
     intro w st
     have hz3 := of_decide_eq_false h56
     have hfin : overD n d sl L = (P3.1, ⟨hf, sl.gen + 1, 64 + sizeL L⟩, 0) := by unfold overD; rw [if_neg hfit, hd1, if_neg hz1, hd2, if_neg hz2, hd3, if_neg hz3, ← hhf]
     have st : St m0 m3 [] w0 w (logB g b ⟨hf, sl.gen + 1, 64 + sizeL L⟩ (.slice none 0 0) :: diskO b s n wv3 P3.1 :: Es) := st
     refine wl_nil ?_
     refine then_go ?_
     refine wc_seq ?_
     refine wc_seq ?_
     refine wc_region ?_
     refine wl_val (v_move' (by conv => (lhs; whnf))) rfl ?_
     refine wl_val (v_len_s Tryz.underlying41 rfl) rfl ?_
     refine wl_val (v_move' (by conv => (lhs; whnf))) rfl ?_
     refine wl_nil ?_
     refine then_go ?_
     refine wc_block ?_
     have st := nilRow st 23 1
     have st : St m0 m3 [] w0 w (logB g b ⟨hf, sl.gen + 1, 64 + sizeL L⟩ (.slice none 0 0) :: lrE (.slice none 0 0) [] :: diskO b s n wv3 P3.1 :: Es) := st.perm (List.Perm.swap _ _ _)
     refine wc_loop (S := Nat) (fun q r w' => ∃ (i : Nat) (m' : Mem) (v : Value) (N' : List (By × Value)), q + i = N.length ∧ r 0 = .pointer (some ⟨g, 0, none⟩) ∧ r 79 = .slice na N.length nc ∧ r 80 = .int .i64 N.length ∧ r 81 = .int .i64 i ∧ (∀ k o, m3 k = some o → m' k = some o) ∧ Pcs m' N' ∧ (∀ y ∈ N', Apart m m' y.2 y.1) ∧ N'.map (·.1) = (N.take i).map (·.1) ∧ St m0 m' [] w0 w' (logB g b ⟨hf, sl.gen + 1, 64 + sizeL L⟩ v :: lrE v N' :: diskO b s n wv3 P3.1 :: Es)) id N.length ⟨0, m3, _, [], by omega, rfl, rfl, rfl, rfl, fun _ _ h => h, (by intro x hx; cases hx), (by intro x hx; cases hx), rfl, st⟩ ?_
     clear st
     rintro q r w2 ⟨i, m', v, N', hqi, g0, g79, g80, g81, hmm', hN', hNa, hNN', st⟩
     refine wc_o 0 g0 (wc_o 79 g79 (wc_o 80 g80 (wc_o 81 g81 ?_)))
     have hN := hN.mono hmm'
     refine wc_seq ?_
     refine wc_region ?_
     refine wl_val (v_lss rfl rfl) rfl ?_
     refine wl_nil ?_
     refine then_go ?_
     refine wc_seq ?_
     refine wc_if rfl (fun h82 => ?_) (fun h82 => ?_)
     ·refine wc_skip ?_
      refine then_go ?_
      refine wc_seq ?_
      refine wc_block ?_
      refine wc_seq ?_
      have hi : i < N.length := by omega
      obtain ⟨nb, no, _, hnv, hsk, hrk⟩ := hN.elem hi
      cases hnv
      have hxl := hNl _ (List.getElem_mem hi)
      have hN'l : N'.length = i := by have := congrArg List.length hNN'; rw [List.length_map, List.length_map, List.length_take] at this; omega
      refine wc_region ?_
      refine wl_val (v_ias i Tryz.underlying41 TF.t23 rfl rfl (by first | rfl | omega) (by first | omega | (dsimp only at *; omega))) rfl ?_
      refine wl_val (v_load rfl (hrk st.im)) rfl ?_
      refine wl_val (v_assign' (by conv => (lhs; whnf))) rfl ?_
      refine wl_nil ?_
      refine then_go ?_
      refine wc_draw TF.mixed ?_
      have st := st.pure (touch_drew _)
      refine fl_val 0 rfl (fun _ => (v_move' (by conv => (lhs; whnf)))) rfl (by kernel_rfl) ?_
      refine fl_val 1 rfl (fun _ => (v_move' (by conv => (lhs; whnf)))) rfl (by kernel_rfl) ?_
      refine fl_val 2 rfl (fun _ => (v_nil rfl)) rfl (by kernel_rfl) ?_
      refine fl_val 3 rfl (fun _ => (v_fa TF.f126_4 rfl)) rfl (by kernel_rfl) ?_
      refine fl_ld 4 rfl (v_load rfl (by first | exact st.reads (v := v) 0 rfl TF.t41 rfl | exact st.reads (v := v) 1 rfl TF.t41 rfl)) (by kernel_rfl) ?_
      refine fl_val 5 rfl (fun _ => (v_move' (by conv => (lhs; whnf)))) rfl (by kernel_rfl) ?_
      refine fl_eff1 6 [3, 2, 1, 0] [4] (by kernel_rfl) ⟨obl_ld rfl rfl rfl (v_load rfl (by first | exact st.reads (v := v) 0 rfl TF.t41 rfl | exact st.reads (v := v) 1 rfl TF.t41 rfl)), trivial⟩ rfl ?_
      refine wl_call rfl (c_bcloneA st.im hsk (by omega)) rfl ?_
      rintro v91 w ⟨t91, m4, hg4, hi4, hxv, hap⟩
      have hap : Apart m m4 v91 N[i].1 := hap.mono (fun k o h => hmm' k o (hmm3 k o h)) fun _ _ h => h
      have hNa : ∀ y ∈ N', Apart m m4 y.2 y.1 := fun y hy => (hNa y hy).mono (fun _ _ h => h) hg4.le
      have st := st.grown hg4 t91 hi4
      have hN' := hN'.mono hg4.le
      have hmm' : ∀ k o, m3 k = some o → m4 k = some o := fun k o h => hg4.le k o (hmm' k o h)
      refine wl_nil ⟨rfl, ?_⟩
      refine fl_eff1 7 [3, 2, 1, 0] [4] (by kernel_rfl) ⟨obl_ld rfl rfl rfl (v_load rfl (by first | exact st.reads (v := v) 0 rfl TF.t41 rfl | exact st.reads (v := v) 1 rfl TF.t41 rfl)), trivial⟩ rfl ?_
      refine wl_svOne (v := v91) Tryz.underlying41 TF.t23 TF.z23 (SlM.one1 hxv) rfl st rfl ?_
      intro b92 w st
      refine wl_nil ⟨rfl, ?_⟩
      refine fl_eff1 8 [3, 2, 1, 0] [] (by kernel_rfl) ⟨obl_ld rfl rfl rfl (v_load rfl (by first | exact st.reads (v := v) 0 rfl TF.t41 rfl | exact st.reads (v := v) 1 rfl TF.t41 rfl)), trivial⟩ rfl ?_
      refine wl_lrApp (x := N[i].1) 1 st rfl (SlM.one1 hxv) rfl rfl (by omega) rfl ?_
      intro v93 w st
      have st : St m0 m4 [] w0 w (logB g b ⟨hf, sl.gen + 1, 64 + sizeL L⟩ v :: lrE v93 (N' ++ [(N[i].1, v91)]) :: diskO b s n wv3 P3.1 :: Es) := st
      refine wl_nil ⟨rfl, ?_⟩
      refine fl_val 9 rfl (fun _ => (v_nil rfl)) rfl (by kernel_rfl) ?_
      refine fl_val 10 rfl (fun _ => (v_fa TF.f126_4 rfl)) rfl (by kernel_rfl) ?_
      refine fl_eff1 11 [9] [] (by kernel_rfl) trivial rfl ?_
      refine wl_store1 (v := v93) 0 st rfl TF.t41 rfl rfl (row_one (st.at (i := 1) rfl)) (lt_ok rfl) ?_
      intro w st
      have st : St m0 m4 [] w0 w (logB g b ⟨hf, sl.gen + 1, 64 + sizeL L⟩ v93 :: lrE v93 (N' ++ [(N[i].1, v91)]) :: diskO b s n wv3 P3.1 :: Es) := st
      refine wl_nil ⟨rfl, ?_⟩
      refine fl_nil (by kernel_rfl) trivial ?_
      refine block_go (then_go ?_)
      refine wc_region ?_
      refine wl_val (v_add' (c := ((i + 1 : Nat) : Int)) rfl rfl (by omega) (by omega) (by omega)) rfl ?_
      refine wl_val (v_move' (by conv => (lhs; whnf))) rfl ?_
      refine wl_nil ?_
      refine then_go ?_
      refine ⟨q - 1, by simp; omega, i + 1, m4, v93, N' ++ [(N[i].1, v91)], by omega, rfl, rfl, rfl, rfl, hmm', hN'.snoc hxv, fun y hy => (List.mem_append.1 hy).elim (hNa y) fun hy => by rw [List.mem_singleton.1 hy]; exact hap, ?_, st⟩
      rw [List.map_append, hNN', List.take_succ_eq_append_getElem hi, List.map_append]
      rfl
     ·refine wc_exit (then_exit (then_exit (block_hit ?_)))
      refine then_go ?_
      refine wc_seq ?_
      refine wc_region ?_
      refine wl_val (v_assign' (by conv => (lhs; whnf))) rfl ?_
      refine wl_nil ?_
      refine then_go ?_
      refine wc_ret ?_
      have hiN : i = N.length := by omega
      subst hiN
      rw [List.take_length, ← hL] at hNN'
      refine ret1 (v := .int .i64 0) rfl ⟨m', wv3, fun k o h => hmm' k o (hmm3 k o h), by rw [hfin], fun h => (h (by rw [hfin])).elim, fun _ => ⟨v, N', hN', hNa, hNN', by rw [hfin]; exact st⟩⟩
end
end Go.Proofs.YtladpaehbolghaaGreat

namespace Go.Proofs.YtladpaehbolghaaGreat
open Go Go.RowKit K SH GC JR OS
namespace OS
def actK (L : List (By × By)) (a : Ac) : List (By × By) := if a.set then insKV a.key a.data L else delKV a.key L
def doneK (L : List (By × By)) (A : List Ac) : List (By × By) := A.foldl actK L
abbrev DV := By × Value
abbrev kvs (L : List (By × DV)) : List (By × By) := L.map fun x => (x.1, x.2.1)
theorem kvs_ins {k d : By} {v : Value} : ∀ {L : List (By × DV)}, kvs (insKV k (d, v) L) = insKV k d (kvs L)
 | [] => rfl
 | x :: L => by
  have ih := kvs_ins (k := k) (d := d) (v := v) (L := L)
  unfold kvs at ih ⊢
  rw [insKV, List.map_cons, insKV]
  by_cases h : x.1 = k
  ·rw [if_pos h, if_pos h]; rfl
  ·rw [if_neg h, if_neg h, List.map_cons, ih]
theorem kvs_del {k : By} {L : List (By × DV)} : kvs (delKV k L) = delKV k (kvs L) := by
 unfold kvs delKV
 rw [List.filter_map]
 rfl
theorem kvs_get {k : By} : ∀ {L : List (By × DV)}, getKV k (kvs L) = (getKV k L).map (·.1)
 | [] => rfl
 | x :: L => by
  have ih := kvs_get (k := k) (L := L)
  unfold kvs at ih ⊢
  rw [List.map_cons, getKV, getKV]
  split
  ·rfl
  ·exact ih
def KvOk (m : Mem) (L : List (By × DV)) : Prop := ∀ x ∈ L, x.1.length ≤ 64 ∧ x.2.1.length ≤ 1048576 ∧ SlM m x.2.2 1 x.2.1.length (bs x.2.1)
theorem KvOk.mono {m m' : Mem} {L : List (By × DV)} (h : KvOk m L) (hm : ∀ k o, m k = some o → m' k = some o) : KvOk m' L := fun x hx => ⟨(h x hx).1, (h x hx).2.1, (h x hx).2.2.mono hm⟩
theorem KvOk.ins {m : Mem} {L : List (By × DV)} {k d : By} {v : Value} (h : KvOk m L) (hk : k.length ≤ 64) (hd : d.length ≤ 1048576) (hv : SlM m v 1 d.length (bs d)) : KvOk m (insKV k (d, v) L) := fun x hx => (mem_insKV hx).elim (fun e => by rw [e]; exact ⟨hk, hd, hv⟩) (h x)
theorem KvOk.del {m : Mem} {L : List (By × DV)} {k : By} (h : KvOk m L) : KvOk m (delKV k L) := fun x hx => h x (List.mem_filter.1 hx).1
def KvN (m m' : Mem) (L L' : List (By × DV)) : Prop := ∀ x ∈ L', x ∈ L ∨ Apart m m' x.2.2 x.2.1
theorem KvN.refl {m m' : Mem} {L : List (By × DV)} : KvN m m' L L := fun _ h => .inl h
theorem KvN.ext {m m' m'' : Mem} {L L' : List (By × DV)} (h : KvN m m' L L') (hm : ∀ k o, m' k = some o → m'' k = some o) : KvN m m'' L L' := fun x hx => (h x hx).imp id fun h => h.mono (fun _ _ h => h) hm
end OS
abbrev kmE (mb : Nat) (L : List (By × DV)) : Ent := mapE strV (fun x : DV => x.2) mb L
theorem kt_str : KeyT Tryz.prog 9 strV fun s => s.length ≤ 9223372036854775807 := str_keyT Tryz.underlying9
theorem OS.KvOk.keys {m : Mem} {L : List (By × DV)} (h : KvOk m L) : ∀ x ∈ L, x.1.length ≤ 9223372036854775807 := fun x hx => by have := (h x hx).1; omega
section
open OS
variable {m0 m : Mem} {w0 w : World} {Es : List Ent}
theorem c_done {mb : Nat} {v : Value} {A : List AcT} {L : List (By × DV)} (st : St m0 m [] w0 w (kmE mb L :: Es)) (hA : AcsM m v A) (hAo : ∀ a ∈ A, actOk a.1) (hL : KvOk m L) (hAl : A.length ≤ 1099511627776) :
  Ret Tryz.prog 53 #[.map (some mb), v] w fun _ w' => ∃ m' L', (∀ k o, m k = some o → m' k = some o) ∧ KvOk m' L' ∧ KvN m m' L L' ∧ kvs L' = doneK (kvs L) (A.map (·.1)) ∧ St m0 m' [] w0 w' (kmE mb L' :: Es) := by
 obtain ⟨la, lc, rfl⟩ := hA.1.sl
 refine ret_of Tryz.call53 Tryz.func53 rfl Tryz.ntmps53 Tryz.results53 rfl ?_
 refine wc_seq ?_
 refine wc_region ?_
 refine wl_val (v_move' (by conv => (lhs; whnf))) rfl ?_
 refine wl_val (v_len_s Tryz.underlying22 rfl) rfl ?_
 refine wl_val (v_move' (by conv => (lhs; whnf))) rfl ?_
 refine wl_nil ?_
 refine then_go ?_
 refine wc_block ?_
 refine wc_loop (S := Nat) (fun q r w' => ∃ i m' L', q + i = A.length ∧ r 0 = .map (some mb) ∧ r 6 = .slice la A.length lc ∧ r 7 = .int .i64 A.length ∧ r 8 = .int .i64 i ∧ (∀ k o, m k = some o → m' k = some o) ∧ KvOk m' L' ∧ KvN m m' L L' ∧ kvs L' = doneK (kvs L) ((A.take i).map (·.1)) ∧ St m0 m' [] w0 w' (kmE mb L' :: Es)) id A.length ⟨0, m, L, by omega, rfl, rfl, rfl, rfl, fun _ _ h => h, hL, KvN.refl, rfl, st⟩ ?_
 clear st
 rintro q r w2 ⟨i, m', L', hqi, g0, g6, g7, g8, hmm, hL', hN, hK, st⟩
 refine wc_o 0 g0 (wc_o 6 g6 (wc_o 7 g7 (wc_o 8 g8 ?_)))
 have hA := hA.mono hmm
 refine wc_seq ?_
 refine wc_region ?_
 refine wl_val (v_lss rfl rfl) rfl ?_
 refine wl_nil ?_
 refine then_go ?_
 refine wc_seq ?_
 refine wc_if rfl (fun h9 => ?_) (fun h9 => ?_)
 ·refine wc_skip ?_
  refine then_go ?_
  refine wc_seq ?_
  refine wc_block ?_
  refine wc_seq ?_
  have hi : i < A.length := by omega
  obtain ⟨lb, lo, da, dc, hla, hd, hrL, _⟩ := hA.at hi
  subst hla
  have hok : AcOk m' A[i].1 A[i].2 := hA.2 _ (List.getElem_mem hi)
  have hao := hAo _ (List.getElem_mem hi)
  have htk : doneK (kvs L) ((A.take (i + 1)).map (·.1)) = actK (doneK (kvs L) ((A.take i).map (·.1))) A[i].1 := by
   unfold doneK
   rw [List.take_succ_eq_append_getElem hi, List.map_append, List.foldl_append]
   rfl
  rw [← hK] at htk
  obtain ⟨x, hx⟩ : ∃ x, x = A[i].1 := ⟨_, rfl⟩
  rw [← hx] at hd hok hao htk
  rw [hd] at hok
  unfold actOk at hao
  have hrX : ∀ {w' : World}, Im m' w' → Reads Tryz.prog w' 57 ⟨lb, lo + i * 3, none⟩ (.agg (acC x (.slice da x.data.length dc)).toArray) := by rw [← hd, hx]; exact hrL
  refine wc_region ?_
  refine wl_val (v_ias i Tryz.underlying22 TF.t57 rfl rfl (by first | rfl | omega) (by first | omega | (dsimp only at *; omega))) rfl ?_
  refine wl_val (v_load rfl (hrX st.im)) rfl ?_
  refine wl_alloc TF.z57 st rfl ?_
  intro b5 w st
  refine wl_storeW (cs := (acC x (.slice da x.data.length dc)).toArray) 0 st rfl TF.t57 rfl rfl (by exact Ac.len hok) rfl (by exact Ac.one hok) ?_
  intro w st
  refine wl_nil ?_
  refine then_go ?_
  refine wc_seq ?_
  refine wc_region ?_
  refine wl_val (v_fa TF.f57_1 rfl) rfl ?_
  refine wl_val (v_load rfl (st.reads (v := .bool x.set) 0 rfl TF.t4 (Ac.g1_1 hok))) rfl ?_
  refine wl_nil ?_
  refine then_go ?_
  refine wc_cond rfl (fun h13 => ?_) (fun h13 => ?_)
  ·refine wc_draw TF.mixed ?_
   have st := st.pure (touch_drew _)
   refine fl_val 0 rfl (fun _ => (v_move' (by conv => (lhs; whnf)))) rfl (by kernel_rfl) ?_
   refine fl_val 1 rfl (fun _ => (v_fa TF.f57_0 rfl)) rfl (by kernel_rfl) ?_
   refine fl_ld 2 rfl (v_load rfl (st.reads (v := .string (strB x.key)) 0 rfl TF.t9 (Ac.g0_1 hok))) (by kernel_rfl) ?_
   refine fl_val 3 rfl (fun _ => (v_fa TF.f57_2 rfl)) rfl (by kernel_rfl) ?_
   refine fl_ld 4 rfl (v_load rfl (st.reads (v := .slice da x.data.length dc) 0 rfl TF.t23 (Ac.g2_1 hok))) (by kernel_rfl) ?_
   refine fl_eff1 5 [3, 1, 0] [2] (by kernel_rfl) ⟨obl_ld rfl rfl rfl (v_load rfl (st.reads (v := .slice da x.data.length dc) 0 rfl TF.t23 (Ac.g2_1 hok))), obl_ld rfl rfl rfl (v_load rfl (st.reads (v := .string (strB x.key)) 0 rfl TF.t9 (Ac.g0_1 hok))), trivial⟩ rfl ?_
   refine wl_call rfl (c_bcloneA st.im hok.data (by omega)) rfl ?_
   rintro v19 w ⟨t19, m1, hg1, hi1, h19, hap⟩
   have st := st.grown hg1 t19 hi1
   have hap : Apart m m1 v19 x.data := hap.mono hmm fun _ _ h => h
   refine wl_nil ⟨rfl, ?_⟩
   refine fl_eff1 6 [] [] (by kernel_rfl) ⟨obl_ld rfl rfl rfl (v_load rfl (st.reads (v := .string (strB x.key)) 0 rfl TF.t9 (Ac.g0_1 hok))), trivial⟩ rfl ?_
   refine wl_mapPut (v := (x.data, v19)) 1 st rfl kt_str Tryz.underlying93 hL'.keys (by omega) rfl rfl rfl ?_
   intro w st
   have st : St m0 m1 [] w0 w (kmE mb (insKV x.key (x.data, v19) L') :: Es) := st.drop 0
   refine wl_nil ⟨rfl, ?_⟩
   refine fl_nil (by kernel_rfl) trivial ?_
   refine block_go (then_go ?_)
   refine wc_region ?_
   refine wl_val (v_add' (c := ((i + 1 : Nat) : Int)) rfl rfl (by omega) (by omega) (by omega)) rfl ?_
   refine wl_val (v_move' (by conv => (lhs; whnf))) rfl ?_
   refine wl_nil ?_
   refine then_go ?_
   refine ⟨q - 1, by simp; omega, i + 1, m1, _, by omega, rfl, rfl, rfl, rfl, fun k o h => hg1.le k o (hmm k o h), (hL'.mono hg1.le).ins (by omega) (by omega) h19, fun y hy => (mem_insKV hy).elim (fun e => .inr (by rw [e]; exact hap)) fun hy => (hN.ext hg1.le) y hy, ?_, st⟩
   rw [kvs_ins, htk, actK, if_pos h13]
  ·refine wc_region ?_
   refine wl_val (v_move' (by conv => (lhs; whnf))) rfl ?_
   refine wl_val (v_fa TF.f57_0 rfl) rfl ?_
   refine wl_val (v_load rfl (st.reads (v := .string (strB x.key)) 0 rfl TF.t9 (Ac.g0_1 hok))) rfl ?_
   refine wl_mapDel 1 st rfl kt_str Tryz.underlying93 hL'.keys (kk := x.key) (by omega) rfl rfl ?_
   intro w st
   have st : St m0 m' [] w0 w (kmE mb (delKV x.key L') :: Es) := st.drop 0
   refine wl_nil ?_
   refine block_go (then_go ?_)
   refine wc_region ?_
   refine wl_val (v_add' (c := ((i + 1 : Nat) : Int)) rfl rfl (by omega) (by omega) (by omega)) rfl ?_
   refine wl_val (v_move' (by conv => (lhs; whnf))) rfl ?_
   refine wl_nil ?_
   refine then_go ?_
   refine ⟨q - 1, by simp; omega, i + 1, m', _, by omega, rfl, rfl, rfl, rfl, hmm, hL'.del, fun y hy => hN y (List.mem_filter.1 hy).1, ?_, st⟩
   rw [kvs_del, htk, actK, if_neg (by rw [h13]; decide)]
 ·refine wc_exit (then_exit (then_exit (block_hit ?_)))
  have hiA : i = A.length := by omega
  subst hiA
  rw [List.take_length] at hK
  exact end0 ⟨m', L', hmm, hL', hN, hK, st⟩
end
end Go.Proofs.YtladpaehbolghaaGreat

namespace Go.Proofs.YtladpaehbolghaaGreat
open Go Go.RowKit K SH GC JR OS
namespace OS
def actB (a : Ac) : By := txtB a.key ++ (if a.set then 1 :: txtB a.data else [0])
def batB (L : List Ac) : By := numB L.length ++ L.flatMap actB
theorem txtB_len {t : By} (h : t.length ≤ 1099511627776) : (txtB t).length ≤ t.length + 10 := by
 unfold txtB
 rw [List.length_append]
 have := numB_len10 (n := t.length) (by omega)
 omega
theorem actB_len {a : Ac} {B : Nat} (h : a.key.length + a.data.length ≤ B) (hB : B ≤ 1099511627776) : (actB a).length ≤ B + 30 := by
 unfold actB
 have h1 := txtB_len (t := a.key) (by omega)
 have h2 := txtB_len (t := a.data) (by omega)
 rw [List.length_append]
 split
 ·rw [List.length_cons]; omega
 ·simp; omega
def bulkA (L : List Ac) : Nat := (L.map fun a => a.key.length + a.data.length).sum
theorem bulk_cons {a : Ac} {L : List Ac} : bulkA (a :: L) = a.key.length + a.data.length + bulkA L := by simp [bulkA]
theorem flat_lenA : ∀ {L : List Ac}, bulkA L ≤ 1099511627776 → (L.flatMap actB).length ≤ bulkA L + 30 * L.length
 | [], _ => by simp
 | a :: L, h => by
  rw [bulk_cons] at h ⊢
  have h1 := actB_len (a := a) (Nat.le_refl _) (by omega)
  have h2 := flat_lenA (L := L) (by omega)
  rw [List.flatMap_cons, List.length_append, List.length_cons]
  omega
theorem bulk_take {L : List Ac} (i : Nat) : bulkA (L.take i) ≤ bulkA L := by
 induction L generalizing i with
 | nil => simp
 | cons a L ih =>
  cases i with
  | zero => simp [bulkA]
  | succ i => rw [List.take_succ_cons, bulk_cons, bulk_cons]; have := ih i; omega
theorem bulk_mem : ∀ {L : List Ac} {a : Ac}, a ∈ L → a.key.length + a.data.length ≤ bulkA L
 | b :: L, a, h => by
  rw [bulk_cons]
  rcases List.mem_cons.1 h with h | h
  ·subst h; omega
  ·have := bulk_mem h; omega
end OS
section
open OS
variable {m0 m : Mem} {F : List Nat} {w0 w : World} {Es : List Ent}
theorem c_batch {v : Value} {L : List AcT} (st : St m0 m [] w0 w Es) (hL : AcsM m v L) (hLl : L.length ≤ 1000000000) (hb : bulkA (L.map (·.1)) ≤ 10000000000) :
  Ret Tryz.prog 16 #[v] w fun v' w' => ∃ m', (∀ k o, m k = some o → m' k = some o) ∧ St m0 m' [] w0 w' (byE v' (batB (L.map (·.1))) :: Es) := by
 obtain ⟨la, lc, rfl⟩ := hL.1.sl
 obtain ⟨M, hM⟩ : ∃ M, M = L.map (·.1) := ⟨_, rfl⟩
 have hMl : M.length = L.length := by rw [hM, List.length_map]
 rw [← hM] at hb ⊢
 have h10 := numB_len10 (n := L.length) (by omega)
 refine ret_of Tryz.call16 Tryz.func16 rfl Tryz.ntmps16 Tryz.results16 rfl ?_
 refine wc_seq ?_
 refine wc_region ?_
 refine wl_val (v_assign' (by conv => (lhs; whnf))) rfl ?_
 refine wl_nil ?_
 refine then_go ?_
 refine wc_seq ?_
 have st := nilRow st 5 1
 have st : St m0 m [] w0 w (byE (.slice none 0 0) [] :: Es) := st
 refine wc_region ?_
 refine wl_val (v_move' (by conv => (lhs; whnf))) rfl ?_
 refine wl_val (v_len_s Tryz.underlying22 rfl) rfl ?_
 refine wl_val (v_convi_64 Tryz.underlying3 Tryz.underlying47 rfl) rfl ?_
 refine wl_call rfl (c_cnum (n := UInt64.ofNat L.length) st (by simp)) rfl ?_
 intro v9 w st
 rw [UInt64.toNat_ofNat', Nat.mod_eq_of_lt (by omega), List.nil_append] at st
 refine wl_val (v_assign' (by conv => (lhs; whnf))) rfl ?_
 refine wl_nil ?_
 refine then_go ?_
 refine wc_seq ?_
 refine wc_seq ?_
 refine wc_region ?_
 refine wl_val (v_move' (by conv => (lhs; whnf))) rfl ?_
 refine wl_val (v_len_s Tryz.underlying22 rfl) rfl ?_
 refine wl_val (v_move' (by conv => (lhs; whnf))) rfl ?_
 refine wl_nil ?_
 refine then_go ?_
 refine wc_block ?_
 refine wc_loop (S := Nat) (fun q r w' => ∃ i v m', q + i = L.length ∧ r 3 = v ∧ r 10 = .slice la L.length lc ∧ r 11 = .int .i64 L.length ∧ r 12 = .int .i64 i ∧ (∀ k o, m k = some o → m' k = some o) ∧ St m0 m' [] w0 w' (byE v (numB L.length ++ (M.take i).flatMap actB) :: Es)) id L.length ⟨0, v9, m, by omega, rfl, rfl, rfl, rfl, fun _ _ h => h, by simpa using st⟩ ?_
 clear st
 rintro q r w2 ⟨i, v, m', hqi, g3, g10, g11, g12, hmm, st⟩
 refine wc_o 3 g3 (wc_o 10 g10 (wc_o 11 g11 (wc_o 12 g12 ?_)))
 have hL := hL.mono hmm
 refine wc_seq ?_
 refine wc_region ?_
 refine wl_val (v_lss rfl rfl) rfl ?_
 refine wl_nil ?_
 refine then_go ?_
 refine wc_seq ?_
 refine wc_if rfl (fun h13 => ?_) (fun h13 => ?_)
 ·refine wc_skip ?_
  refine then_go ?_
  refine wc_seq ?_
  refine wc_block ?_
  refine wc_seq ?_
  have hi : i < L.length := by omega
  have hiM : i < M.length := by omega
  obtain ⟨lb, lo, da, dc, hla, hd, hrL, _⟩ := hL.at hi
  subst hla
  have hok : AcOk m' L[i].1 L[i].2 := hL.2 _ (List.getElem_mem hi)
  have hMi : M[i] = L[i].1 := by simp [hM]
  have hbi := bulk_mem (List.getElem_mem hiM)
  have hft := flat_lenA (L := M.take i) (Nat.le_trans (bulk_take i) (by omega))
  have hbt := bulk_take (L := M) i
  have hlt : (M.take i).length ≤ L.length := by simp; omega
  obtain ⟨x, hx⟩ : ∃ x, x = L[i].1 := ⟨_, rfl⟩
  rw [hMi] at hbi
  have htk : (M.take (i + 1)).flatMap actB = (M.take i).flatMap actB ++ actB x := by rw [List.take_succ_eq_append_getElem hiM, List.flatMap_append, hMi, ← hx]; simp
  rw [← hx] at hd hok hMi hbi
  rw [hd] at hok
  have hrX : ∀ {w' : World}, Im m' w' → Reads Tryz.prog w' 57 ⟨lb, lo + i * 3, none⟩ (.agg (acC x (.slice da x.data.length dc)).toArray) := by rw [← hd, hx]; exact hrL
  have htl := txtB_len (t := x.key) (by omega)
  have htd := txtB_len (t := x.data) (by omega)
  refine wc_region ?_
  refine wl_val (v_ias i Tryz.underlying22 TF.t57 rfl rfl (by first | rfl | omega) (by first | omega | (dsimp only at *; omega))) rfl ?_
  refine wl_val (v_load rfl (hrX st.im)) rfl ?_
  refine wl_alloc TF.z57 st rfl ?_
  intro b5 w st
  refine wl_storeW (cs := (acC x (.slice da x.data.length dc)).toArray) 0 st rfl TF.t57 rfl rfl (by exact Ac.len hok) rfl (by exact Ac.one hok) ?_
  intro w st
  refine wl_nil ?_
  refine then_go ?_
  refine wc_seq ?_
  refine wc_region ?_
  refine wl_val (v_move' (by conv => (lhs; whnf))) rfl ?_
  refine wl_val (v_fa TF.f57_0 rfl) rfl ?_
  refine wl_val (v_load rfl (by first | exact st.rdp 0 rfl (by exact rfl) TF.t9 (by exact (Ac.g0_1 (by assumption))) | exact st.rdp 1 rfl (by exact rfl) TF.t9 (by exact (Ac.g0_1 (by assumption))) | exact st.rdp 2 rfl (by exact rfl) TF.t9 (by exact (Ac.g0_1 (by assumption))) | exact st.rdp 3 rfl (by exact rfl) TF.t9 (by exact (Ac.g0_1 (by assumption))) | exact st.rdp 4 rfl (by exact rfl) TF.t9 (by exact (Ac.g0_1 (by assumption))) | exact st.rdp 5 rfl (by exact rfl) TF.t9 (by exact (Ac.g0_1 (by assumption))) | exact st.rdp 6 rfl (by exact rfl) TF.t9 (by exact (Ac.g0_1 (by assumption))) | exact st.rdp 7 rfl (by exact rfl) TF.t9 (by exact (Ac.g0_1 (by assumption))))) rfl ?_
  refine wl_s2b Tryz.underlying9 Tryz.underlying23 Tryz.underlying5 rfl st rfl ?_
  intro v19 m1 w hg1 hk1 _ st
  have hok := hok.mono hg1.le
  have hmm1 : ∀ k o, m k = some o → m1 k = some o := fun k o h => hg1.le k o (hmm k o h)
  have st : St m0 m1 [] w0 w (byE v (numB L.length ++ (M.take i).flatMap actB) :: K.blk b5 (acC x (.slice da x.data.length dc)).toArray 57 :: Es) := st.perm (List.Perm.swap _ _ _)
  refine wl_call rfl (c_ctext st (by rw [List.length_append]; omega) (by omega) hk1) rfl ?_
  intro v20 w st
  refine wl_val (v_assign' (by conv => (lhs; whnf))) rfl ?_
  refine wl_nil ?_
  refine then_go ?_
  refine wc_seq ?_
  refine wc_region ?_
  refine wl_val (v_fa TF.f57_1 rfl) rfl ?_
  refine wl_val (v_load rfl (st.reads (v := .bool x.set) 1 rfl TF.t4 (Ac.g1_1 hok))) rfl ?_
  refine wl_nil ?_
  refine then_go ?_
  refine wc_cond rfl (fun h22 => ?_) (fun h22 => ?_)
  ·refine wc_draw TF.mixed ?_
   have st := st.pure (touch_drew _)
   refine fl_val 0 rfl (fun _ => (v_move' (by conv => (lhs; whnf)))) rfl (by kernel_rfl) ?_
   refine fl_val 2 rfl (fun _ => (v_fa TF.f57_2 rfl)) rfl (by kernel_rfl) ?_
   refine fl_ld 3 rfl (v_load rfl (st.reads (v := .slice da x.data.length dc) 1 rfl TF.t23 (Ac.g2_1 hok))) (by kernel_rfl) ?_
   refine fl_eff1 1 [2] [3] (by kernel_rfl) ⟨obl_ld rfl rfl rfl (v_load rfl (st.reads (v := .slice da x.data.length dc) 1 rfl TF.t23 (Ac.g2_1 hok))), trivial⟩ rfl ?_
   refine wl_call rfl (c_cnum (n := 1) st (by rw [List.length_append, List.length_append]; omega)) rfl ?_
   intro v24 w st
   refine wl_nil ⟨rfl, ?_⟩
   refine fl_eff1 4 [2] [] (by kernel_rfl) ⟨obl_ld rfl rfl rfl (v_load rfl (st.reads (v := .slice da x.data.length dc) 1 rfl TF.t23 (Ac.g2_1 hok))), trivial⟩ rfl ?_
   have e1 : (numB (1 : UInt64).toNat) = [1] := by rw [show (1 : UInt64).toNat = 1 from rfl, numB_small (by decide)]; rfl
   rw [e1] at st
   refine wl_call rfl (c_ctext st (by simp only [List.length_append, List.length_cons, List.length_nil]; omega) (by omega) hok.data) rfl ?_
   intro v27 w st
   refine wl_nil ⟨rfl, ?_⟩
   refine fl_eff1 5 [] [] (by kernel_rfl) trivial rfl ?_
   refine wl_val (v_assign' (by conv => (lhs; whnf))) rfl ?_
   refine wl_nil ⟨rfl, ?_⟩
   refine fl_nil (by kernel_rfl) trivial ?_
   refine block_go (then_go ?_)
   refine wc_region ?_
   refine wl_val (v_add' (c := ((i + 1 : Nat) : Int)) rfl rfl (by omega) (by omega) (by omega)) rfl ?_
   refine wl_val (v_move' (by conv => (lhs; whnf))) rfl ?_
   refine wl_nil ?_
   refine then_go ?_
   refine ⟨q - 1, by simp; omega, i + 1, _, m1, by omega, rfl, rfl, rfl, rfl, hmm1, ?_⟩
   have e : numB L.length ++ (M.take (i + 1)).flatMap actB = numB L.length ++ (M.take i).flatMap actB ++ txtB x.key ++ [1] ++ txtB x.data := by rw [htk, actB, h22]; simp
   rw [e]
   exact st.drop 1
  ·refine wc_region ?_
   refine wl_val (v_move' (by conv => (lhs; whnf))) rfl ?_
   refine wl_call rfl (c_cnum (n := 0) st (by rw [List.length_append, List.length_append]; omega)) rfl ?_
   intro v29 w st
   refine wl_val (v_assign' (by conv => (lhs; whnf))) rfl ?_
   refine wl_nil ?_
   refine block_go (then_go ?_)
   refine wc_region ?_
   refine wl_val (v_add' (c := ((i + 1 : Nat) : Int)) rfl rfl (by omega) (by omega) (by omega)) rfl ?_
   refine wl_val (v_move' (by conv => (lhs; whnf))) rfl ?_
   refine wl_nil ?_
   refine then_go ?_
   refine ⟨q - 1, by simp; omega, i + 1, _, m1, by omega, rfl, rfl, rfl, rfl, hmm1, ?_⟩
   have e0 : (numB (0 : UInt64).toNat) = [0] := by rw [show (0 : UInt64).toNat = 0 from rfl, numB_small (by decide)]; rfl
   rw [e0] at st
   have e : numB L.length ++ (M.take (i + 1)).flatMap actB = numB L.length ++ (M.take i).flatMap actB ++ txtB x.key ++ [0] := by rw [htk, actB, h22]; simp
   rw [e]
   exact st.drop 1
 ·refine wc_exit (then_exit (then_exit (block_hit ?_)))
  refine then_go ?_
  refine wc_seq ?_
  refine wc_region ?_
  refine wl_val (v_move' (by conv => (lhs; whnf))) rfl ?_
  refine wl_val (v_assign' (by conv => (lhs; whnf))) rfl ?_
  refine wl_nil ?_
  refine then_go ?_
  refine wc_ret ?_
  have hiL : i = M.length := by omega
  subst hiL
  rw [List.take_length] at st
  exact ret1 rfl ⟨m', hmm, by unfold batB; rw [hMl]; exact st⟩
end
end Go.Proofs.YtladpaehbolghaaGreat

namespace Go.Proofs.YtladpaehbolghaaGreat
open Go Go.RowKit K SH GC JR
theorem cntR_none {most : Nat} {b : List UInt8} (h : numR 0 b = none) : cntR most b = none := by unfold cntR; rw [h]
theorem cntR_some {most n : Nat} {b r : List UInt8} (h : numR 0 b = some (n, r)) : cntR most b = if most < n then none else some (n, r) := by unfold cntR; rw [h]
section
variable {m0 m : Mem} {F : List Nat} {w0 w : World} {Es : List Ent}
theorem c_rdcount {rb i most : Nat} {bv : Value} {b : List UInt8} (st : St m0 m F w0 w (rdE rb bv i :: Es)) (hb : SlM m bv 1 b.length (bs b)) (hl : b.length ≤ 1099511627776) (hi : i ≤ b.length) (hm : most ≤ 1099511627776) :
  RetP Tryz.prog 37 #[rdP rb, .int .i64 most] w faultV (fun v w' => ∃ n j, i < j ∧ j ≤ b.length ∧ n ≤ most ∧ cntR most (b.drop i) = some (n, b.drop j) ∧ v = .int .i64 n ∧ St m0 m F w0 w' (rdE rb bv j :: Es)) (fun w' => cntR most (b.drop i) = none ∧ ∃ j, j ≤ b.length ∧ St m0 m F w0 w' (rdE rb bv j :: Es)) := by
 refine ret_ofP Tryz.call37 Tryz.func37 rfl Tryz.ntmps37 Tryz.results37 rfl ?_
 refine wc_seq ?_
 refine wc_region ?_
 refine wl_val (v_assign' (by conv => (lhs; whnf))) rfl ?_
 refine wl_nil ?_
 refine then_go ?_
 refine wc_seq ?_
 refine wc_region ?_
 refine wl_val (v_move' (by conv => (lhs; whnf))) rfl ?_
 refine wl_callP rfl (c_rdnum st hb hl hi) rfl (fun w' h => ⟨rfl, cntR_none h.1, h.2⟩) ?_
 rintro v7 w ⟨n, j, hij, hj, hn, rfl, st⟩
 have hc := cntR_some (most := most) hn
 have hn64 := (numR_lt (by omega) hn).1
 have hn64 : n < 18446744073709551616 := hn64
 refine wl_val (v_assign' (by conv => (lhs; whnf))) rfl ?_
 refine wl_nil ?_
 refine then_go ?_
 refine wc_seq ?_
 refine wc_seq ?_
 refine wc_region ?_
 refine wl_val (v_move' (by conv => (lhs; whnf))) rfl ?_
 refine wl_val (wl_valD (v_lss rfl rfl) (q := false) (decide_eq_false (by omega))) rfl ?_
 refine wl_val (v_move' (by conv => (lhs; whnf))) rfl ?_
 refine wl_on rfl rfl ?_
 refine wl_val (v_move' (by conv => (lhs; whnf))) rfl ?_
 refine wl_on rfl rfl ?_
 refine wl_val (v_move' (by conv => (lhs; whnf))) rfl ?_
 refine wl_on rfl rfl ?_
 refine wl_val (v_convi_64 Tryz.underlying3 Tryz.underlying47 rfl) rfl ?_
 refine wl_on rfl rfl ?_
 refine wl_val (wl_valD (v_gtr (a := ((UInt64.ofNat n).toNat : Int)) (b := ((UInt64.ofNat most).toNat : Int)) rfl rfl) (q := decide (most < n)) (by rw [UInt64.toNat_ofNat', UInt64.toNat_ofNat', Nat.mod_eq_of_lt hn64, Nat.mod_eq_of_lt (by omega)]; simp)) rfl ?_
 refine wl_val (v_pick rfl) rfl ?_
 refine wl_nil ?_
 refine then_go ?_
 refine wc_cond rfl (fun h15 => ?_) (fun h15 => ?_)
 ·refine wc_region ?_
  refine wl_val (v_move' (by conv => (lhs; whnf))) rfl ?_
  exact wl_callP rfl c_fail rfl (fun w' h => by subst h; exact ⟨rfl, by rw [hc, if_pos (of_decide_eq_true h15)], j, hj, st⟩) (fun _ _ h => h.elim)
 ·refine wc_skip ?_
  refine then_go ?_
  refine wc_seq ?_
  have hnm : n ≤ most := by have := of_decide_eq_false h15; omega
  rw [if_neg (by omega)] at hc
  refine wc_region ?_
  refine wl_val (v_move' (by conv => (lhs; whnf))) rfl ?_
  refine wl_val (v_to (v' := .int .i64 (n : Int)) (v_conv64i Tryz.underlying47 Tryz.underlying3 rfl (by rw [UInt64.toNat_ofNat', Nat.mod_eq_of_lt hn64]; omega)) (by rw [UInt64.toNat_ofNat', Nat.mod_eq_of_lt hn64])) rfl ?_
  refine wl_val (v_assign' (by conv => (lhs; whnf))) rfl ?_
  refine wl_nil ?_
  refine then_go ?_
  refine wc_ret ?_
  exact toP (ret1 rfl ⟨n, j, hij, hj, hnm, hc, rfl, st⟩)
theorem c_rdtext {rb i : Nat} {bv : Value} {b : List UInt8} (st : St m0 m [] w0 w (rdE rb bv i :: Es)) (hb : SlM m bv 1 b.length (bs b)) (hl : b.length ≤ 1099511627776) (hi : i ≤ b.length) :
  RetP Tryz.prog 38 #[rdP rb] w faultV (fun v w' => ∃ m' t j, (∀ k o, m k = some o → m' k = some o) ∧ i < j ∧ j ≤ b.length ∧ txtR (b.drop i) = some (t, b.drop j) ∧ SlM m' v 1 t.length (bs t) ∧ St m0 m' [] w0 w' (rdE rb bv j :: Es)) (fun w' => txtR (b.drop i) = none ∧ ∃ j, j ≤ b.length ∧ St m0 m [] w0 w' (rdE rb bv j :: Es)) := by
 obtain ⟨ba, bc, rfl, hbc⟩ := hb.opn
 refine ret_ofP Tryz.call38 Tryz.func38 rfl Tryz.ntmps38 Tryz.results38 rfl ?_
 refine wc_seq ?_
 refine wc_region ?_
 refine wl_val (v_assign' (by conv => (lhs; whnf))) rfl ?_
 refine wl_nil ?_
 refine then_go ?_
 refine wc_seq ?_
 refine wc_region ?_
 refine wl_val (v_move' (by conv => (lhs; whnf))) rfl ?_
 refine wl_callP rfl (c_rdcount (most := 1048576) st hb hl hi (by decide)) rfl (fun w' h => ⟨rfl, by unfold txtR; rw [h.1], h.2⟩) ?_
 rintro v5 w ⟨n, j, hij, hj, hnm, hc, rfl, st⟩
 have hT : txtR (b.drop i) = takeR n (b.drop j) := by unfold txtR; rw [hc]
 refine wl_val (v_assign' (by conv => (lhs; whnf))) rfl ?_
 refine wl_nil ?_
 refine then_go ?_
 refine wc_seq ?_
 refine wc_seq ?_
 refine wc_draw TF.mixed ?_
 have st := st.pure (touch_drew _)
 refine fl_val 0 rfl (fun _ => (v_move' (by conv => (lhs; whnf)))) rfl (by kernel_rfl) ?_
 refine fl_val 1 rfl (fun _ => (v_move' (by conv => (lhs; whnf)))) rfl (by kernel_rfl) ?_
 refine fl_val 2 rfl (fun _ => (v_nil rfl)) rfl (by kernel_rfl) ?_
 refine fl_val 3 rfl (fun _ => (v_fa TF.f117_0 rfl)) rfl (by kernel_rfl) ?_
 refine fl_ld 4 rfl (v_load rfl (st.reads (v := .slice ba b.length bc) 0 rfl TF.t23 rfl)) (by kernel_rfl) ?_
 refine fl_val 5 rfl (fun _ => (v_len_s Tryz.underlying23 rfl)) rfl (by kernel_rfl) ?_
 refine fl_val 6 rfl (fun _ => (v_move' (by conv => (lhs; whnf)))) rfl (by kernel_rfl) ?_
 refine fl_val 7 rfl (fun _ => (v_nil rfl)) rfl (by kernel_rfl) ?_
 refine fl_val 8 rfl (fun _ => (v_fa TF.f117_1 rfl)) rfl (by kernel_rfl) ?_
 refine fl_ld 9 rfl (v_load rfl (st.reads (v := .int .i64 (j : Int)) 0 rfl TF.t3 rfl)) (by kernel_rfl) ?_
 refine fl_val 10 rfl (fun _ => (v_sub' (c := ((b.length - j : Nat) : Int)) rfl rfl (by omega) (by omega) (by omega))) rfl (by kernel_rfl) ?_
 refine fl_val 11 rfl (fun _ => (v_gtr rfl rfl)) rfl (by kernel_rfl) ?_
 refine fl_nil (by kernel_rfl) ⟨obl_ld rfl rfl rfl (v_load rfl (st.reads (v := .int .i64 (j : Int)) 0 rfl TF.t3 rfl)), obl_ld rfl rfl rfl (v_load rfl (st.reads (v := .slice ba b.length bc) 0 rfl TF.t23 rfl)), trivial⟩ ?_
 refine then_go ?_
 refine wc_cond rfl (fun h17 => ?_) (fun h17 => ?_)
 ·refine wc_region ?_
  refine wl_val (v_move' (by conv => (lhs; whnf))) rfl ?_
  exact wl_callP rfl c_fail rfl (fun w' h => by subst h; exact ⟨rfl, by rw [hT]; unfold takeR; rw [if_pos (by have := of_decide_eq_true h17; rw [List.length_drop]; omega)], j, hj, st⟩) (fun _ _ h => h.elim)
 ·refine wc_skip ?_
  refine then_go ?_
  refine wc_seq ?_
  have hnl : j + n ≤ b.length := by have := of_decide_eq_false h17; omega
  have hT : txtR (b.drop i) = some ((b.drop j).take n, b.drop (j + n)) := by rw [hT]; unfold takeR; rw [if_neg (by rw [List.length_drop]; omega), List.drop_drop]
  refine wc_region ?_
  refine wl_val (v_move' (by conv => (lhs; whnf))) rfl ?_
  refine wl_val (v_nil rfl) rfl ?_
  refine wl_val (v_fa TF.f117_1 rfl) rfl ?_
  refine wl_val (v_load rfl (st.reads (v := .int .i64 (j : Int)) 0 rfl TF.t3 rfl)) rfl ?_
  refine wl_val (v_move' (by conv => (lhs; whnf))) rfl ?_
  refine wl_val (v_add' (c := ((j + n : Nat) : Int)) rfl rfl (by omega) (by omega) (by omega)) rfl ?_
  refine wl_val (v_nil rfl) rfl ?_
  refine wl_val (v_fa TF.f117_1 rfl) rfl ?_
  refine wl_store1 (v := .int .i64 ((j + n : Nat) : Int)) 0 st rfl TF.t3 rfl rfl rfl (lt_ok rfl) ?_
  intro w st
  have st : St m0 m [] w0 w (rdE rb (.slice ba b.length bc) (j + n) :: Es) := st
  refine wl_nil ?_
  refine then_go ?_
  refine wc_seq ?_
  have st := nilRow st 5 1
  have st : St m0 m [] w0 w (byE (.slice none 0 0) [] :: rdE rb (.slice ba b.length bc) (j + n) :: Es) := st
  have hpart := hb.partB j (j + n) (by omega) hnl
  have hpe : (b.drop j).take (j + n - j) = (b.drop j).take n := by rw [Nat.add_sub_cancel_left]
  rw [hpe] at hpart
  have htl : ((b.drop j).take n).length = n := by rw [List.length_take, List.length_drop]; omega
  refine wc_draw TF.mixed ?_
  have st := st.pure (touch_drew _)
  refine fl_val 0 rfl (fun _ => (v_move' (by conv => (lhs; whnf)))) rfl (by kernel_rfl) ?_
  refine fl_val 1 rfl (fun _ => (v_nil rfl)) rfl (by kernel_rfl) ?_
  refine fl_val 2 rfl (fun _ => (v_fa TF.f117_0 rfl)) rfl (by kernel_rfl) ?_
  refine fl_ld 3 rfl (v_load rfl (st.reads (v := .slice ba b.length bc) 1 rfl TF.t23 rfl)) (by kernel_rfl) ?_
  refine fl_val 4 rfl (fun _ => (v_move' (by conv => (lhs; whnf)))) rfl (by kernel_rfl) ?_
  refine fl_val 5 rfl (fun _ => (v_nil rfl)) rfl (by kernel_rfl) ?_
  refine fl_val 6 rfl (fun _ => (v_fa TF.f117_1 rfl)) rfl (by kernel_rfl) ?_
  refine fl_ld 7 rfl (v_load rfl (st.reads (v := .int .i64 ((j + n : Nat) : Int)) 1 rfl TF.t3 rfl)) (by kernel_rfl) ?_
  refine fl_val 8 rfl (fun _ => (v_move' (by conv => (lhs; whnf)))) rfl (by kernel_rfl) ?_
  refine fl_val 9 rfl (fun _ => (v_sub' (c := (j : Int)) rfl rfl (by omega) (by omega) (by omega))) rfl (by kernel_rfl) ?_
  refine fl_val 10 rfl (fun _ => (v_move' (by conv => (lhs; whnf)))) rfl (by kernel_rfl) ?_
  refine fl_val 11 rfl (fun _ => (v_nil rfl)) rfl (by kernel_rfl) ?_
  refine fl_val 12 rfl (fun _ => (v_fa TF.f117_1 rfl)) rfl (by kernel_rfl) ?_
  refine fl_ld 13 rfl (v_load rfl (st.reads (v := .int .i64 ((j + n : Nat) : Int)) 1 rfl TF.t3 rfl)) (by kernel_rfl) ?_
  refine fl_val 14 rfl (fun _ => (v_sls j (j + n) Tryz.underlying23 TF.t5 rfl ⟨_, _, rfl, rfl⟩ ⟨_, _, rfl, rfl⟩ (by omega) (by omega))) rfl (by kernel_rfl) ?_
  refine fl_eff1 15 [12, 11, 10, 9, 8, 6, 5, 4, 2, 1, 0] [13, 7, 3] (by kernel_rfl) ⟨obl_ld rfl rfl rfl (v_load rfl (st.reads (v := .int .i64 ((j + n : Nat) : Int)) 1 rfl TF.t3 rfl)), obl_ld rfl rfl rfl (v_load rfl (st.reads (v := .int .i64 ((j + n : Nat) : Int)) 1 rfl TF.t3 rfl)), obl_ld rfl rfl rfl (v_load rfl (st.reads (v := .slice ba b.length bc) 1 rfl TF.t23 rfl)), trivial⟩ rfl ?_
  refine wl_appB (l2 := (b.drop j).take n) st Tryz.underlying23 Tryz.underlying23 (.inr ⟨_, rfl⟩) TF.t5 TF.z5 rfl rfl (hpart.src st.im (one_bs _)) (by simp; omega) (by simp; omega) rfl ?_
  intro v43 w st hv43
  refine wl_nil ⟨rfl, ?_⟩
  refine fl_eff1 16 [] [] (by kernel_rfl) ⟨obl_ld rfl rfl rfl (v_load rfl (st.reads (v := .int .i64 ((j + n : Nat) : Int)) 1 rfl TF.t3 rfl)), obl_ld rfl rfl rfl (v_load rfl (st.reads (v := .int .i64 ((j + n : Nat) : Int)) 1 rfl TF.t3 rfl)), obl_ld rfl rfl rfl (v_load rfl (st.reads (v := .slice ba b.length bc) 1 rfl TF.t23 rfl)), trivial⟩ rfl ?_
  refine wl_val (v_assign' (by conv => (lhs; whnf))) rfl ?_
  refine wl_nil ⟨rfl, ?_⟩
  refine fl_nil (by kernel_rfl) trivial ?_
  refine then_go ?_
  refine wc_ret ?_
  have st0 := st
  obtain ⟨m1, hg1, hm1, st⟩ := st.freezeR (i := 0) rfl (by simp)
  exact toP (ret1 rfl ⟨m1, (b.drop j).take n, j + n, hg1.le, by omega, hnl, hT, row_SlM (m := m1) (st0.at (i := 0) rfl) hm1, st⟩)
end
end Go.Proofs.YtladpaehbolghaaGreat

namespace Go.Proofs.YtladpaehbolghaaGreat
open Go Go.RowKit K SH GC JR
abbrev errE (eb : Nat) (z : Nat) : Ent := K.blk eb #[.int .i64 z] 26
section
variable {m0 m : Mem} {F : List Nat} {w0 w : World} {Es : List Ent}
theorem ifc20 : Tryz.prog.underlying 20 = some (.interface (Tryz.prog.methodsAt 20)) := by kernel_rfl
theorem c_catch {eb z : Nat} (st : St m0 m F w0 w (errE eb z :: Es)) : CallsD Tryz.prog 65 #[.pointer (some ⟨eb, 0, none⟩)] (.panicking (thrown faultV)) w fun e u' w' => e = .returned (.tuple #[]) ∧ u' = .panicking [{ v := faultV, recovered := true }] ∧ St m0 m F w0 w' (errE eb 3 :: Es) := by
 refine callsD_of_wpS Tryz.func65 rfl fun c₀ cs hu => ?_
 rw [Tryz.ntmps65]
 have ha := (has_args (args := [.pointer (some ⟨eb, 0, none⟩)]) (n := 10) rfl).put (d := 4) rfl faultV
 refine wpS_seq (wpS_recover (v := faultV) (cs' := { c₀ with mode := .panicking [{ v := faultV, recovered := true }] } :: cs) (by simp [recoverD, hu]) (wpS_of_wp (Code.wp_mono ?_ ((?_ : WC Tryz.prog 10 (fun e _ w' => e = .normal ∧ St m0 m F w0 w' (errE eb 3 :: Es)) _ _ w) [] _ ha))))
 ·rintro e a' w' ⟨r', ha', rfl, st⟩
  exact ⟨ha'.defers, _, rfl, _, results_of (vs := []) ha' Tryz.results65 trivial, rfl, rfl, st⟩
 ·refine wc_block ?_
  refine wc_seq ?_
  refine wc_region ?_
  refine wl_val (v_eqIH ifc20 rfl rfl) rfl ?_
  refine wl_nil ?_
  refine then_go ?_
  refine wc_false rfl ?_
  refine wc_seq ?_
  refine wc_region ?_
  refine wl_val (v_tassert Tryz.underlying115 trivial rfl) rfl ?_
  refine wl_val (v_extract rfl rfl) rfl ?_
  refine wl_val (v_extract rfl rfl) rfl ?_
  refine wl_nil ?_
  refine then_go ?_
  refine wc_true rfl ?_
  refine wc_seq ?_
  refine wc_region ?_
  refine wl_alloc TF.z115 st rfl ?_
  intro b2 w st
  refine wl_storeW (cs := #[]) 0 st rfl TF.t115 rfl rfl rfl rfl (by intro u hu; cases hu) ?_
  intro w st
  refine wl_nil ?_
  refine then_go ?_
  refine wc_region ?_
  refine wl_store1 (v := .int .i64 (3 : Nat)) 1 st rfl TF.t26 rfl rfl rfl (lt_ok rfl) ?_
  intro w st
  refine wl_nil ?_
  refine block_go ?_
  exact ⟨rfl, st.drop 0⟩
theorem c_idle {eb z : Nat} (st : St m0 m F w0 w (errE eb z :: Es)) : CallsD Tryz.prog 65 #[.pointer (some ⟨eb, 0, none⟩)] .returning w fun e u' w' => e = .returned (.tuple #[]) ∧ u' = .returning ∧ St m0 m F w0 w' (errE eb z :: Es) := by
 refine callsD_of_wpS Tryz.func65 rfl fun c₀ cs hu => ?_
 rw [Tryz.ntmps65]
 have ha := (has_args (args := [.pointer (some ⟨eb, 0, none⟩)]) (n := 10) rfl).put (d := 4) rfl .nilIface
 refine wpS_seq (wpS_idle (by simp [recoverD, hu]) (wpS_of_wp (Code.wp_mono ?_ ((?_ : WC Tryz.prog 10 (fun e _ w' => e = .normal ∧ St m0 m F w0 w' (errE eb z :: Es)) _ _ w) [] _ ha))))
 ·rintro e a' w' ⟨r', ha', rfl, st⟩
  exact ⟨ha'.defers, .returning, by rw [← hu], _, results_of (vs := []) ha' Tryz.results65 trivial, rfl, rfl, st⟩
 ·refine wc_block ?_
  refine wc_seq ?_
  refine wc_region ?_
  refine wl_val (v_eqIN ifc20 rfl) rfl ?_
  refine wl_nil ?_
  refine then_go ?_
  refine wc_true rfl ?_
  refine wc_region ?_
  refine wl_val (v_assign' (by conv => (lhs; whnf))) rfl ?_
  refine wl_nil ?_
  refine block_go ?_
  exact ⟨rfl, st⟩
abbrev catchD (eb : Nat) : Deferred := { target := .fn (.func 65) #[.pointer (some ⟨eb, 0, none⟩)], args := #[] }
theorem leaves_catch {n eb z' : Nat} {a : Act} {r : Fr} {R : Ending → World → Prop} {u u' : FrameMode} (ha : Has n [catchD eb] a r) (g4 : r 4 = .pointer (some ⟨eb, 0, none⟩)) (hu : u ≠ .run) (hs : settle u' = .returning)
  (hc : CallsD Tryz.prog 65 #[.pointer (some ⟨eb, 0, none⟩)] u w fun e v w' => e = .returned (.tuple #[]) ∧ v = u' ∧ St m0 m F w0 w' (errE eb z' :: Es)) (hR : ∀ w', St m0 m F w0 w' Es → R (.returned (.int .i64 (z' : Nat))) w') :
  Leaves Tryz.prog Tryz.f35 a.tmps R [catchD eb] u w := by
 refine leaves_cons hu (f := 65) (args := #[.pointer (some ⟨eb, 0, none⟩)]) (by simp [invoke, Tryz.call65]) (hc.mono ?_)
 rintro e v w' ⟨rfl, rfl, st⟩
 show Leaves _ _ _ _ [] (settle _) _
 rw [hs]
 exact ⟨_, results_of (vs := [.int .i64 (z' : Nat)]) ha Tryz.results35 ⟨⟨_, g4, st.reads 0 rfl TF.t26 rfl⟩, trivial⟩, hR w' (st.drop 0)⟩
theorem c_cread {bv : Value} {b : List UInt8} {gf : FuncId} {cap : List Value} {RR : Mem → Nat → List Ent → Prop} {XX : Mem → List Ent → Prop} (st : St m0 m F w0 w Es) (hb : SlM m bv 1 b.length (bs b))
  (hf : ∀ rb eb w1, St m0 m F w0 w1 (rdE rb bv 0 :: errE eb 0 :: Es) → RetP Tryz.prog gf (rdP rb :: cap).toArray w1 faultV (fun _ w2 => ∃ m2 j Es2, RR m2 j Es2 ∧ St m0 m2 F w0 w2 (rdE rb bv j :: errE eb 0 :: Es2)) (fun w2 => ∃ m2 Es2, XX m2 Es2 ∧ St m0 m2 F w0 w2 (errE eb 0 :: Es2))) :
  Ret Tryz.prog 35 #[bv, .func (.func gf) #[] cap.toArray] w fun v w' => (∃ m2 j Es2, RR m2 j Es2 ∧ v = .int .i64 (if j = b.length then 0 else 3 : Nat) ∧ St m0 m2 F w0 w' Es2) ∨ (∃ m2 Es2, XX m2 Es2 ∧ v = .int .i64 (3 : Nat) ∧ St m0 m2 F w0 w' Es2) := by
 obtain ⟨_, ba, bc, rfl, _⟩ := id hb
 refine ⟨Tryz.call35, calls_ofD Tryz.func35 rfl Tryz.ntmps35 rfl (args := [.slice ba b.length bc, .func (.func gf) #[] cap.toArray]) ?_⟩
 refine wd_seqc ?_
 refine wc_region ?_
 refine wl_alloc TF.z26 st rfl ?_
 intro eb w st
 have st : St m0 m F w0 w (errE eb 0 :: Es) := st
 refine wl_nil ?_
 refine then_go ?_
 refine wd_seqd (wd_defer rfl ?_)
 refine wd_of_wc ?_
 refine wc_seq ?_
 refine wc_region ?_
 refine wl_val (v_move' (by conv => (lhs; whnf))) rfl ?_
 refine wl_val (v_build (c' := #[.slice ba b.length bc, .int .i64 0]) [(0, .slice ba b.length bc)] TF.z117 TF.p117 rfl ⟨0, 1, rfl, rfl, by decide, rfl⟩) rfl ?_
 refine wl_box rfl st rfl ?_
 intro rb w st
 have st : St m0 m F w0 w (rdE rb (.slice ba b.length bc) 0 :: errE eb 0 :: Es) := st
 refine wl_val (v_assign' (by conv => (lhs; whnf))) rfl ?_
 refine wl_nil ?_
 refine then_go ?_
 refine wc_seq ?_
 refine wc_region ?_
 refine wl_val (v_move' (by conv => (lhs; whnf))) rfl ?_
 refine wl_val (v_move' (by conv => (lhs; whnf))) rfl ?_
 refine wl_callvP rfl (by simp; rfl) (hf rb eb w st) rfl ?_ ?_
 ·rintro w' ⟨m2, Es2, hX, st⟩
  intro a ha
  exact leaves_catch ha rfl (by simp) rfl (c_catch st) fun w' st => ⟨_, rfl, .inr ⟨m2, Es2, hX, rfl, st⟩⟩
 rintro v12 w ⟨m2, j, Es2, hR, st⟩
 refine wl_nil ?_
 refine then_go ?_
 refine wc_seq ?_
 refine wc_seq ?_
 refine wc_draw TF.mixed ?_
 have st := st.pure (touch_drew _)
 refine fl_val 0 rfl (fun _ => (v_move' (by conv => (lhs; whnf)))) rfl (by kernel_rfl) ?_
 refine fl_val 1 rfl (fun _ => (v_nil rfl)) rfl (by kernel_rfl) ?_
 refine fl_val 2 rfl (fun _ => (v_fa TF.f117_1 rfl)) rfl (by kernel_rfl) ?_
 refine fl_ld 3 rfl (v_load rfl (st.reads (v := .int .i64 (j : Int)) 0 rfl TF.t3 rfl)) (by kernel_rfl) ?_
 refine fl_val 4 rfl (fun _ => (v_move' (by conv => (lhs; whnf)))) rfl (by kernel_rfl) ?_
 refine fl_val 5 rfl (fun _ => (v_nil rfl)) rfl (by kernel_rfl) ?_
 refine fl_val 6 rfl (fun _ => (v_fa TF.f117_0 rfl)) rfl (by kernel_rfl) ?_
 refine fl_ld 7 rfl (v_load rfl (st.reads (v := .slice ba b.length bc) 0 rfl TF.t23 rfl)) (by kernel_rfl) ?_
 refine fl_val 8 rfl (fun _ => (v_len_s Tryz.underlying23 rfl)) rfl (by kernel_rfl) ?_
 refine fl_val 9 rfl (fun _ => (v_neq rfl rfl)) rfl (by kernel_rfl) ?_
 refine fl_nil (by kernel_rfl) ⟨obl_ld rfl rfl rfl (v_load rfl (st.reads (v := .slice ba b.length bc) 0 rfl TF.t23 rfl)), obl_ld rfl rfl rfl (v_load rfl (st.reads (v := .int .i64 (j : Int)) 0 rfl TF.t3 rfl)), trivial⟩ ?_
 refine then_go ?_
 refine wc_cond rfl (fun h22 => ?_) (fun h22 => ?_)
 ·refine wc_region ?_
  refine wl_val (v_build (c' := #[]) [] TF.z115 TF.p115 rfl rfl) rfl ?_
  refine wl_val (v_mkiface Tryz.underlying115 trivial rfl) rfl ?_
  refine wl_panic rfl ?_
  have hj : ¬ j = b.length := by have := of_decide_eq_true h22; omega
  intro a ha
  exact leaves_catch ha rfl (by simp) rfl (c_catch (st.drop 0)) fun w' st => ⟨_, rfl, .inl ⟨m2, j, Es2, hR, by rw [if_neg hj], st⟩⟩
 ·refine wc_skip ?_
  refine then_go ?_
  refine wc_seq ?_
  refine wc_region ?_
  refine wl_store1 (v := .int .i64 (0 : Nat)) 1 st rfl TF.t26 rfl rfl rfl (lt_ok rfl) ?_
  intro w st
  refine wl_nil ?_
  refine then_go ?_
  refine wc_ret ?_
  have hj : j = b.length := by have := of_decide_eq_false h22; omega
  intro a ha
  exact leaves_catch ha rfl (by simp) rfl (c_idle (z := 0) (st.drop 0)) fun w' st => ⟨_, rfl, .inl ⟨m2, j, Es2, hR, by rw [if_pos hj], st⟩⟩
end
end Go.Proofs.YtladpaehbolghaaGreat

namespace Go.Proofs.YtladpaehbolghaaGreat
open Go Go.RowKit K SH GC JR OS
namespace OS
def actR (b : By) : Option (Ac × By) := match txtR b with
 | none => none
 | some (k, r) => match cntR 1 r with
  | none => none
  | some (s, r) => if s = 1 then (match txtR r with | none => none | some (d, r) => some (⟨k, true, d⟩, r)) else some (⟨k, false, []⟩, r)
def actsR : Nat → By → Option (List Ac × By)
 | 0, b => some ([], b)
 | n + 1, b => match actR b with
  | none => none
  | some (a, r) => match actsR n r with
   | none => none
   | some (l, r) => some (a :: l, r)
def batR (b : By) : Option (List Ac) := match cntR 4096 b with
 | none => none
 | some (n, r) => match actsR n r with
  | none => none
  | some (l, r) => if r = [] ∧ okL l then some l else none
theorem actR_actB {a : Ac} {rest : By} (h : actOk a) : actR (actB a ++ rest) = some (a, rest) := by
 unfold actR actB
 unfold actOk at h
 rw [List.append_assoc, txtR_txtB (by omega)]
 have e1 : ∀ r : By, cntR 1 (1 :: r) = some (1, r) := fun r => by have := cntR_numB (most := 1) (n := 1) (rest := r) (by omega) (by decide); rwa [numB_small (by decide)] at this
 have e0 : ∀ r : By, cntR 1 (0 :: r) = some (0, r) := fun r => by have := cntR_numB (most := 1) (n := 0) (rest := r) (by omega) (by decide); rwa [numB_small (by decide)] at this
 obtain ⟨k, s, d⟩ := a
 cases s with
 | true =>
  simp only [if_true, List.cons_append, e1, txtR_txtB (show d.length ≤ 1048576 from h.2.2.2)]
 | false =>
  have hd : d = [] := by
   have := h.2.2.1
   simpa using this
  subst hd
  simp [e0]
theorem actsR_flat : ∀ {L : List Ac} {rest : By}, (∀ a ∈ L, actOk a) → actsR L.length (L.flatMap actB ++ rest) = some (L, rest)
 | [], _, _ => rfl
 | a :: L, rest, h => by
  rw [List.flatMap_cons, List.append_assoc, List.length_cons, actsR, actR_actB (h a (List.mem_cons_self ..))]
  show (match actsR L.length (L.flatMap actB ++ rest) with | none => none | some (l, r) => some (a :: l, r)) = _
  rw [actsR_flat fun x hx => h x (List.mem_cons_of_mem _ hx)]
theorem batR_batB {L : List Ac} (h : okL L) : batR (batB L) = some L := by
 unfold batR batB
 rw [cntR_numB h.1 (by have := h.1; omega)]
 have := actsR_flat (L := L) (rest := []) h.2.1
 rw [List.append_nil] at this
 simp [this, h]
theorem actR_eq {b r : By} {a : Ac} (h : actR b = some (a, r)) : b = actB a ++ r := by
 unfold actR at h
 cases h1 : txtR b with
 | none => rw [h1] at h; cases h
 | some q =>
  obtain ⟨k, r1⟩ := q
  rw [h1] at h
  simp only at h
  cases h2 : cntR 1 r1 with
  | none => rw [h2] at h; cases h
  | some q =>
   obtain ⟨s, r2⟩ := q
   rw [h2] at h
   simp only at h
   obtain ⟨e1, _⟩ := txtR_eq h1
   obtain ⟨e2, hs⟩ := cntR_eq h2
   split at h
   ·rename_i hs1
    subst hs1
    cases h3 : txtR r2 with
    | none => rw [h3] at h; cases h
    | some q =>
     obtain ⟨d, r3⟩ := q
     rw [h3] at h
     simp only [Option.some.injEq, Prod.mk.injEq] at h
     obtain ⟨rfl, rfl⟩ := h
     obtain ⟨e3, _⟩ := txtR_eq h3
     rw [e1, e2, e3, numB_small (by decide)]
     simp [actB]
   ·rename_i hs1
    have hs0 : s = 0 := by omega
    subst hs0
    simp only [Option.some.injEq, Prod.mk.injEq] at h
    obtain ⟨rfl, rfl⟩ := h
    rw [e1, e2, numB_small (by decide)]
    simp [actB]
theorem actsR_eq : ∀ {n : Nat} {b r : By} {L : List Ac}, actsR n b = some (L, r) → b = L.flatMap actB ++ r ∧ L.length = n
 | 0, b, r, L, h => by
  simp only [actsR, Option.some.injEq, Prod.mk.injEq] at h
  obtain ⟨rfl, rfl⟩ := h
  simp
 | n + 1, b, r, L, h => by
  rw [actsR] at h
  cases h1 : actR b with
  | none => rw [h1] at h; cases h
  | some q =>
   obtain ⟨a, r1⟩ := q
   rw [h1] at h
   simp only at h
   cases h2 : actsR n r1 with
   | none => rw [h2] at h; cases h
   | some q =>
    obtain ⟨l, r2⟩ := q
    rw [h2] at h
    simp only [Option.some.injEq, Prod.mk.injEq] at h
    obtain ⟨rfl, rfl⟩ := h
    obtain ⟨e1, e2⟩ := actsR_eq h2
    rw [actR_eq h1, e1, List.flatMap_cons, List.append_assoc, List.length_cons, e2]
    exact ⟨rfl, rfl⟩
theorem batR_eq {b : By} {L : List Ac} (h : batR b = some L) : b = batB L ∧ okL L := by
 unfold batR at h
 cases h1 : cntR 4096 b with
 | none => rw [h1] at h; cases h
 | some q =>
  obtain ⟨n, r⟩ := q
  rw [h1] at h
  simp only at h
  cases h2 : actsR n r with
  | none => rw [h2] at h; cases h
  | some q =>
   obtain ⟨l, r2⟩ := q
   rw [h2] at h
   simp only at h
   split at h
   ·rename_i h3
    simp only [Option.some.injEq] at h
    subst h
    obtain ⟨e1, _⟩ := cntR_eq h1
    obtain ⟨e2, e3⟩ := actsR_eq h2
    rw [h3.1, List.append_nil] at e2
    refine ⟨?_, h3.2⟩
    rw [e1, e2, batB, e3]
   ·cases h
end OS
section
open OS
variable {m0 m : Mem} {w0 w : World} {Es : List Ent}
abbrev gaE (lb : Nat) (lv : Value) : Ent := K.blk lb #[lv] 22
abbrev acE (lv : Value) (L : List AcT) : Ent := lsE 57 3 acP lv L
theorem c_readB1 {rb eb lb : Nat} {bv : Value} {b : List UInt8} (st : St m0 m [] w0 w (rdE rb bv 0 :: errE eb 0 :: gaE lb (.slice none 0 0) :: Es)) (hb : SlM m bv 1 b.length (bs b)) (hl : b.length ≤ 1099511627776) :
  RetP Tryz.prog 36 #[rdP rb, .pointer (some ⟨lb, 0, none⟩)] w faultV
   (fun _ w2 => ∃ m2 j Es2, (∃ lv L n r, (∀ k o, m k = some o → m2 k = some o) ∧ Es2 = gaE lb lv :: acE lv L :: Es ∧ j ≤ b.length ∧ (∀ p ∈ L, AcOk m2 p.1 p.2) ∧ cntR 4096 b = some (n, r) ∧ actsR n r = some (L.map (·.1), b.drop j) ∧ okL (L.map (·.1))) ∧ St m0 m2 [] w0 w2 (rdE rb bv j :: errE eb 0 :: Es2))
   (fun w2 => ∃ m2 Es2, (batR b = none ∧ (∀ k o, m k = some o → m2 k = some o) ∧ Es2 = Es) ∧ St m0 m2 [] w0 w2 (errE eb 0 :: Es2)) := by
 have hbat : batR b = (match cntR 4096 b with | none => none | some (n, r) => match actsR n r with | none => none | some (l, r) => if r = [] ∧ okL l then some l else none) := rfl
 refine ret_ofP Tryz.call36 Tryz.func36 rfl Tryz.ntmps36 Tryz.results36 rfl ?_
 refine wc_seq ?_
 refine wc_seq ?_
 refine wc_region ?_
 refine wl_val (v_move' (by conv => (lhs; whnf))) rfl ?_
 refine wl_callP rfl (c_rdcount (most := 4096) st hb hl (Nat.zero_le _) (by decide)) rfl (fun w' h => ⟨rfl, by obtain ⟨hn, j, _, st⟩ := h; rw [List.drop_zero] at hn; exact ⟨m, Es, ⟨by rw [hbat, hn], fun _ _ h => h, rfl⟩, (st.drop 0).drop 1⟩⟩) ?_
 rintro v6 w ⟨n, j, hij, hj, hn4, hc, rfl, st⟩
 rw [List.drop_zero] at hc
 rw [hc] at hbat
 obtain ⟨T, hT⟩ : ∃ T, T = actsR n (b.drop j) := ⟨_, rfl⟩
 simp only [← hT] at hbat
 refine wl_val (v_assign' (by conv => (lhs; whnf))) rfl ?_
 refine wl_nil ?_
 refine then_go ?_
 refine wc_block ?_
 have st : St m0 m [] w0 w (acE (.slice none 0 0) [] :: rdE rb bv j :: errE eb 0 :: gaE lb (.slice none 0 0) :: Es) := nilRow st 57 3
 have st : St m0 m [] w0 w (rdE rb bv j :: errE eb 0 :: gaE lb (.slice none 0 0) :: acE (.slice none 0 0) [] :: Es) := st.perm (by exact (List.perm_middle (l₁ := [_, _, _])).symm)
 refine wc_loop (S := Nat) (fun q r w' => ∃ (k j : Nat) (lv : Value) (L : List AcT) (m' : Mem), q = k ∧ L.length + k = n ∧ j ≤ b.length ∧ r 0 = rdP rb ∧ r 1 = .pointer (some ⟨lb, 0, none⟩) ∧ r 3 = .int .i64 k ∧ (∀ k o, m k = some o → m' k = some o) ∧ (∀ p ∈ L, AcOk m' p.1 p.2) ∧ (T = match actsR k (b.drop j) with | none => none | some (l, r) => some (L.map (·.1) ++ l, r)) ∧ St m0 m' [] w0 w' (rdE rb bv j :: errE eb 0 :: gaE lb lv :: acE lv L :: Es)) id n ⟨n, j, _, [], m, rfl, by simp, hj, rfl, rfl, rfl, fun _ _ h => h, by simp, by rw [hT]; cases actsR n (b.drop j) <;> simp, st⟩ ?_
 clear st hj hij
 rintro q r w2 ⟨k, j2, lv, L, m', hqk, hLk, hj, g0, g1, g3, hmm, hLo, hTT, st⟩
 refine wc_o 0 g0 (wc_o 1 g1 (wc_o 3 g3 ?_))
 have hb := hb.mono hmm
 refine wc_seq ?_
 refine wc_seq ?_
 refine wc_region ?_
 refine wl_val (v_move' (by conv => (lhs; whnf))) rfl ?_
 refine wl_val (v_gtr rfl rfl) rfl ?_
 refine wl_nil ?_
 refine then_go ?_
 refine wc_cond rfl (fun h8 => ?_) (fun h8 => ?_)
 ·refine wc_skip ?_
  refine then_go ?_
  refine wc_seq ?_
  refine wc_block ?_
  refine wc_seq ?_
  refine wc_region ?_
  refine wl_val (v_move' (by conv => (lhs; whnf))) rfl ?_
  obtain ⟨k, hk⟩ : ∃ k', k = k' + 1 := ⟨k - 1, by have := of_decide_eq_true h8; omega⟩
  subst hk
  rw [actsR] at hTT
  refine wl_callP rfl (c_rdtext st hb hl hj) rfl (fun w' h => ⟨rfl, by obtain ⟨hn, j, _, st⟩ := h; exact ⟨m', Es, ⟨by rw [hbat, hTT]; unfold actR; rw [hn], hmm, rfl⟩, ((st.drop 0).drop 1).drop 1⟩⟩) ?_
  rintro v12 w ⟨m1, t, j3, hm1, hij3, hj3, htx, hsl, st⟩
  have hact : actR (b.drop j2) = (match cntR 1 (b.drop j3) with | none => none | some (s, r) => if s = 1 then (match txtR r with | none => none | some (d, r) => some (⟨t, true, d⟩, r)) else some (⟨t, false, []⟩, r)) := by unfold actR; rw [htx]
  rw [hact] at hTT
  have hmm1 : ∀ k o, m k = some o → m1 k = some o := fun k o h => hm1 k o (hmm k o h)
  have hb := hb.mono hm1
  have htl := (txtR_eq htx).2
  refine wl_val (v_b2s Tryz.underlying23 Tryz.underlying5 Tryz.underlying9 st.im hsl rfl) rfl ?_
  refine wl_val (v_build (c' := (acC ⟨t, false, []⟩ (.slice none 0 0)).toArray) [(0, .string (strB t))] TF.z57 TF.p57 rfl ⟨0, 1, rfl, rfl, by decide, rfl⟩) rfl ?_
  refine wl_alloc TF.z57 st rfl ?_
  intro b4 w st
  refine wl_storeW (cs := (acC ⟨t, false, []⟩ (.slice none 0 0)).toArray) 0 st rfl TF.t57 rfl rfl rfl rfl (by intro u hu; simp [acC] at hu; rcases hu with rfl | rfl | rfl <;> rfl) ?_
  intro w st
  have st : St m0 m1 [] w0 w (rdE rb bv j3 :: K.blk b4 (acC ⟨t, false, []⟩ (.slice none 0 0)).toArray 57 :: errE eb 0 :: gaE lb lv :: acE lv L :: Es) := st.perm (List.Perm.swap _ _ _)
  refine wl_nil ?_
  refine then_go ?_
  refine wc_seq ?_
  refine wc_seq ?_
  refine wc_region ?_
  refine wl_val (v_move' (by conv => (lhs; whnf))) rfl ?_
  refine wl_callP rfl (c_rdcount (most := 1) st hb hl hj3 (by decide)) rfl (fun w' h => ⟨rfl, by obtain ⟨hn, j, _, st⟩ := h; exact ⟨m1, Es, ⟨by rw [hbat, hTT, hn], hmm1, rfl⟩, (((st.drop 0).drop 0).drop 1).drop 1⟩⟩) ?_
  rintro v16 w ⟨s, j4, hij4, hj4, hs1, hcs, rfl, st⟩
  rw [hcs] at hTT
  simp only at hTT
  refine wl_val (wl_valD (v_eql rfl rfl) (q := decide (s = 1)) (decide_eq_decide.2 (by omega))) rfl ?_
  refine wl_val (v_fa TF.f57_1 rfl) rfl ?_
  refine wl_store1 (v := .bool (decide (s = 1))) 1 st rfl TF.t4 rfl rfl rfl (lt_ok rfl) ?_
  intro w st
  have st : St m0 m1 [] w0 w (rdE rb bv j4 :: K.blk b4 (acC ⟨t, decide (s = 1), []⟩ (.slice none 0 0)).toArray 57 :: errE eb 0 :: gaE lb lv :: acE lv L :: Es) := st
  refine wl_nil ?_
  refine then_go ?_
  refine wc_seq ?_
  refine wc_region ?_
  refine wl_val (v_fa TF.f57_1 rfl) rfl ?_
  refine wl_val (v_load rfl (st.reads (v := .bool (decide (s = 1))) 1 rfl TF.t4 rfl)) rfl ?_
  refine wl_nil ?_
  refine then_go ?_
  refine wc_mid (fun r w' => ∃ (m2 : Mem) (a : Ac) (dv : Value) (j5 : Nat), j5 ≤ b.length ∧ r 0 = rdP rb ∧ r 1 = .pointer (some ⟨lb, 0, none⟩) ∧ r 3 = .int .i64 ((k + 1 : Nat) : Int) ∧ r 4 = .pointer (some ⟨b4, 0, none⟩) ∧ (∀ k o, m1 k = some o → m2 k = some o) ∧ AcOk m2 a dv ∧ (T = match actsR k (b.drop j5) with | none => none | some (l, r) => some (L.map (·.1) ++ a :: l, r)) ∧ St m0 m2 [] w0 w' (rdE rb bv j5 :: K.blk b4 (acC a dv).toArray 57 :: errE eb 0 :: gaE lb lv :: acE lv L :: Es)) ?_ ?_
  ·refine wc_cond rfl (fun h20 => ?_) (fun h20 => ?_)
   ·refine wc_region ?_
    refine wl_val (v_move' (by conv => (lhs; whnf))) rfl ?_
    have hs : s = 1 := of_decide_eq_true h20
    subst hs
    rw [if_pos rfl] at hTT
    refine wl_callP rfl (c_rdtext st hb hl hj4) rfl (fun w' h => ⟨rfl, by obtain ⟨hn, j, _, st⟩ := h; exact ⟨m1, Es, ⟨by rw [hbat, hTT, hn], hmm1, rfl⟩, (((st.drop 0).drop 0).drop 1).drop 1⟩⟩) ?_
    rintro v22 w ⟨m2, d, j5, hm2, hij5, hj5, htx5, hsl5, st⟩
    rw [htx5] at hTT
    refine wl_val (v_fa TF.f57_2 rfl) rfl ?_
    refine wl_store1 (v := v22) 1 st rfl TF.t23 rfl rfl (SlM.one1 hsl5) (lt_ok rfl) ?_
    intro w st
    have st : St m0 m2 [] w0 w (rdE rb bv j5 :: K.blk b4 (acC ⟨t, true, d⟩ v22).toArray 57 :: errE eb 0 :: gaE lb lv :: acE lv L :: Es) := st
    refine wl_nil ?_
    refine then_go ?_
    exact ⟨m2, ⟨t, true, d⟩, v22, j5, hj5, rfl, rfl, rfl, rfl, hm2, ⟨by show t.length ≤ _; omega, hsl5⟩, by rw [hTT]; dsimp only; cases actsR k (b.drop j5) <;> rfl, st⟩
   ·refine wc_skip ?_
    refine then_go ?_
    have hs : ¬ s = 1 := of_decide_eq_false h20
    rw [if_neg hs] at hTT
    rw [decide_eq_false hs] at st
    exact ⟨m1, ⟨t, false, []⟩, .slice none 0 0, j4, hj4, rfl, rfl, rfl, rfl, fun _ _ h => h, ⟨by show t.length ≤ _; omega, SlM.nil⟩, by rw [hTT]; dsimp only; cases actsR k (b.drop j4) <;> rfl, st⟩
  ·clear st hTT
   rintro r w ⟨m2, a, dv, j5, hj5, g0, g1, g3, g4, hm2, hao, hTT, st⟩
   refine wc_o 0 g0 (wc_o 1 g1 (wc_o 3 g3 (wc_o 4 g4 ?_)))
   have hmm2 : ∀ k o, m k = some o → m2 k = some o := fun k o h => hm2 k o (hmm1 k o h)
   refine wc_region ?_
   refine wl_val (v_load rfl (st.reads (v := lv) 3 rfl TF.t22 rfl)) rfl ?_
   refine wl_val (v_load rfl (st.reads (v := .agg (acC a dv).toArray) 1 rfl TF.t57 (getV_all (Ac.len hao)))) rfl ?_
   refine wl_lsOne (acC a dv) Tryz.underlying22 TF.t57 TF.z57 (by decide) (by decide) (Ac.len hao) rfl st rfl ?_
   intro b26 w st
   refine wl_lsApp (c := acP) (e := (a, dv)) 4 st rfl Tryz.underlying22 TF.t57 TF.z57 rfl rfl (Ac.one hao) rfl rfl (by omega) (by omega) rfl ?_
   intro v27 w st hv27
   have st : St m0 m2 [] w0 w (rdE rb bv j5 :: K.blk b4 (acC a dv).toArray 57 :: errE eb 0 :: gaE lb lv :: acE v27 (L ++ [(a, dv)]) :: Es) := st
   refine wl_store1 (v := v27) 3 st rfl TF.t22 rfl rfl hv27 (lt_ok rfl) ?_
   intro w st
   have st : St m0 m2 [] w0 w (rdE rb bv j5 :: errE eb 0 :: gaE lb v27 :: acE v27 (L ++ [(a, dv)]) :: Es) := st.drop 1
   refine wl_nil ?_
   refine block_go (then_go ?_)
   refine wc_region ?_
   refine wl_val (v_move' (by conv => (lhs; whnf))) rfl ?_
   refine wl_val (v_sub' (c := (k : Int)) rfl rfl (by omega) (by omega) (by omega)) rfl ?_
   refine wl_val (v_assign' (by conv => (lhs; whnf))) rfl ?_
   refine wl_nil ?_
   refine then_go ?_
   exact ⟨k, by simp; omega, k, j5, v27, L ++ [(a, dv)], m2, rfl, by simp; omega, hj5, rfl, rfl, rfl, hmm2, fun p hp => (List.mem_append.1 hp).elim (fun hp => (hLo p hp).mono fun k o h => hm2 k o (hm1 k o h)) fun hp => by rw [List.mem_singleton.1 hp]; exact hao, by rw [hTT]; simp, st⟩
 ·refine wc_exit (then_exit (then_exit (block_hit ?_)))
  refine then_go ?_
  refine wc_seq ?_
  have hk : k = 0 := by have := of_decide_eq_false h8; omega
  subst hk
  have hTT : T = some (L.map (·.1), b.drop j2) := by rw [hTT, actsR]; simp
  rw [hTT] at hbat
  have st0 := st
  refine wc_region ?_
  refine wl_val (v_load rfl (st.reads (v := lv) 2 rfl TF.t22 rfl)) rfl ?_
  have hLM : AcsM (heapM w2) lv L := ⟨st.lsRd 3 rfl (fun x _ => rfl), fun p hp => (hLo p hp).mono st.im⟩
  refine wl_call rfl (c_chk (im_heapM w2) hLM (by omega)) rfl ?_
  rintro v29 w ⟨t29, rfl⟩
  have st := st.pure t29
  refine wl_val (wl_valD (v_neq rfl rfl) (q := decide (¬ okL (L.map (·.1)))) (by unfold chkL; by_cases h : okL (L.map (·.1)) <;> simp [h])) rfl ?_
  refine wl_nil ?_
  refine then_go ?_
  refine wc_cond rfl (fun h30 => ?_) (fun h30 => ?_)
  ·refine wc_region ?_
   refine wl_val (v_move' (by conv => (lhs; whnf))) rfl ?_
   exact wl_callP rfl c_fail rfl (fun w' h => by subst h; exact ⟨rfl, m', Es, ⟨by rw [hbat]; exact if_neg (fun h => of_decide_eq_true h30 h.2), hmm, rfl⟩, ((st.drop 0).drop 1).drop 1⟩) (fun _ _ h => h.elim)
  ·refine wc_skip ?_
   have hok : okL (L.map (·.1)) := Decidable.not_not.1 (of_decide_eq_false h30)
   exact toPn (end0 ⟨m', j2, _, ⟨lv, L, n, b.drop j, hmm, rfl, hj, hLo, hc, by rw [← hT, hTT], hok⟩, st⟩)
end
end Go.Proofs.YtladpaehbolghaaGreat

namespace Go.Proofs.YtladpaehbolghaaGreat
open Go Go.RowKit K Go.Sort
theorem bytesW_grow {w : World} {E : TypeId} {s : ByteArray} : Lib.bytesWorld w E s = grow (w.drewN 1) #[.cells (Lib.bytesCells w E s) E ((Lib.bytesCells w E s).size, (Lib.bytesCells w E s).size + 1)] := by
 have hh : (Lib.bytesWorld w E s).heap = w.heap ++ #[.cells (Lib.bytesCells w E s) E ((Lib.bytesCells w E s).size, (Lib.bytesCells w E s).size + 1)] := by
  apply Array.ext_getElem?
  intro j
  rcases Nat.lt_trichotomy j w.heap.size with h | h | h
  ·rw [Lib.bytesWorld_at_old w E s j h, Array.getElem?_append_left h]
  ·subst h
   rw [Lib.bytesWorld_at_new, Array.getElem?_append_right (Nat.le_refl _), Nat.sub_self]
   rfl
  ·rw [Array.getElem?_eq_none (by rw [Lib.bytesWorld_size]; omega), Array.getElem?_eq_none (by simp; omega)]
 show (⟨(Lib.bytesWorld w E s).heap, w.tape, w.drawn + 1, w.os, w.output⟩ : World) = ⟨w.heap ++ _, w.tape, w.drawn + 1, w.os, w.output⟩
 rw [hh]
section
variable {P : Program} {n : Nat} {ops : Array Oper} {Q : Po} {rest : List Oper} {r : Fr} {w : World} {d : Nat} {ty : TypeId} {pos : String} {after : Array Edge}
theorem wl_s2bX {S T E : TypeId} {x : Operand} {l : List UInt8} (hS : P.underlying S = some .string) (hT : P.underlying T = some (.slice E)) (hE : P.underlying E = some (.int .u8)) (hx : ev r x = .string (strB l)) (hd : Nat.blt d n = true)
  (k : ∀ v o, (∀ m : Mem, m w.heap.size = some o → SlM m v 1 l.length (bs l)) → WL P n ops Q rest (upd d v r) (grow (w.drewN 1) #[o])) :
  WL P n ops Q (⟨some d, .convert S T x, ty, pos, after, none⟩ :: rest) r w := by
 have hrun := Lib.run_convert_string_bytes (P := P) w S T E (strB l) hS hT hE
 have hsl : ∀ m : Mem, m w.heap.size = some (.cells (Lib.bytesCells w E (strB l)) E ((Lib.bytesCells w E (strB l)).size, (Lib.bytesCells w E (strB l)).size + 1)) → SlM m (.slice (some ⟨w.heap.size, 0, none⟩) (strB l).size (grownCap w (strB l).size 0 E)) 1 l.length (bs l) := fun m hm => by
  have hsz : (strB l).size = l.length := rfl
  have hge := grownCap_ge w (strB l).size 0 E
  rw [hsz] at hge ⊢
  refine SlM.ofBlock (pre := []) (post := List.replicate (grownCap w (strB l).size 0 E - (strB l).size) (.int .u8 0)) hm ?_ rfl hge
  simp [Lib.bytesCells, strB, bs, u8]
 refine wl_val (v := .slice (some ⟨w.heap.size, 0, none⟩) (strB l).size (grownCap w (strB l).size 0 E)) (w' := Lib.bytesWorld w E (strB l)) ?_ hd (by rw [bytesW_grow]; exact k _ _ hsl)
 intro _ _ _ _
 simp only [execOp, hx, Sem.run_bind, hrun, Result.andThen_ok, Sem.run_pure]
theorem grow_old {w : World} {os : Array Obj} {q k : Nat} {o : Obj} (h : w.heap[k]? = some o) : (grow (w.drewN q) os).heap[k]? = some o := by
 show (w.heap ++ os)[k]? = _
 rw [Array.getElem?_append_left (lt_of_get h), h]
theorem grow_new {w : World} {o : Obj} {q : Nat} : (grow (w.drewN q) #[o]).heap[w.heap.size]? = some o := by
 show (w.heap ++ #[o])[w.heap.size]? = _
 rw [Array.getElem?_append_right (Nat.le_refl _), Nat.sub_self]
 rfl
def Gro (w w' : World) : Prop := ∃ q os, w' = grow (w.drewN q) os
theorem Gro.trans {a b c : World} (h : Gro a b) (h' : Gro b c) : Gro a c := by
 obtain ⟨q, os, rfl⟩ := h
 obtain ⟨q', os', rfl⟩ := h'
 refine ⟨q + q', os ++ os', ?_⟩
 show (⟨a.heap ++ os ++ os', a.tape, a.drawn + q + q', a.os, a.output⟩ : World) = ⟨a.heap ++ (os ++ os'), a.tape, a.drawn + (q + q'), a.os, a.output⟩
 rw [Array.append_assoc, Nat.add_assoc]
theorem Gro.one {w : World} {q : Nat} {os : Array Obj} : Gro w (grow (w.drewN q) os) := ⟨q, os, rfl⟩
end
end Go.Proofs.YtladpaehbolghaaGreat

namespace Go.Proofs.YtladpaehbolghaaGreat
open Go Go.RowKit K SH
section
variable {P : Program} {r : Fr} {w : World} {ty : TypeId} {m : Mem}
theorem run_bytesOf {x : Value} {a : (List UInt8)} (him : Im m w) (ha : SlM m x 1 a.length (bs a)) : (Extern.Bytes.bytesOf x).run P w = .ok (strB a) w := by
 have ha0 := ha
 obtain ⟨hl, p, c, rfl, hc, hn, h1⟩ := ha
 by_cases h0 : a = []
 ·subst h0
  cases p with
  | none => rfl
  | some p => rfl
 ·have hpos : 0 < a.length := List.length_pos_iff.2 h0
  obtain ⟨b, o, cap, he, _, _⟩ := ha0.rd P (by simpa [bs] using hpos)
  cases he
  have hq := Lib.run_loadBytesX (P := P) w (a.map fun x => (x.toNat : Int)) ⟨b, o, none⟩ .empty (fun j y hy => by
   obtain ⟨hj, hjy⟩ := List.getElem?_eq_some_iff.1 hy
   have hj2 : j < a.length := by simpa using hj
   rw [List.getElem_map] at hjy
   obtain ⟨b', o', cc, t, fr, h2, h3, h4⟩ := h1 j (u8 a[j]) (by simp [bs, hj2])
   cases h2
   have e : (⟨b, o, none⟩ : Addr).add j = ⟨b, o + j, none⟩ := by unfold Addr.add; split <;> simp_all
   rw [e, cell_of_row w b (o + j) cc t fr (him b _ h3), h4, ← hjy]
   rfl)
  rw [List.length_map] at hq
  show (Extern.Bytes.loadBytes ⟨b, o, none⟩ a.length .empty).run P w = _
  rw [hq]
  congr 1
  unfold strB Lib.bytesOf
  apply ByteArray.ext
  simp
  conv => rhs; rw [← List.map_id a]
  refine List.map_congr_left fun c _ => ?_
  simp
theorem v_extern {f : FuncId} {args : Array Value} {v : Value} {ags : Array Operand} {tys : Array TypeId} (ha : ags.map (ev r) = args) (hc : (callFunc f args).run P w = .ok (.value v) w) : Val P (.call ⟨.value (.func f), ags, tys⟩) ty r w v w := by
 intro _ _ _ _
 simp [execOp, resolve, ev, Deferred.ofValue, invoke, ha, hc]
theorem v_bcompare {f : FuncId} {fn : Func} {x y : Value} {X Y : Operand} {a b : (List UInt8)} {tys : Array TypeId} (hf : P.funcs[f]? = some fn) (h1 : (fn.name == "runtime.NumGoroutine") = false) (h2 : fn.body.isNone = true) (h3 : Extern.findNext fn = none) (h4 : Extern.find fn = some Extern.BytealgCompare.compare)
  (him : Im m w) (ha : SlM m x 1 a.length (bs a)) (hb : SlM m y 1 b.length (bs b)) (hx : ev r X = x) (hy : ev r Y = y) : Val P (.call ⟨.value (.func f), #[X, Y], tys⟩) ty r w (.int .i64 (Lib.compareBytes a b)) w := by
 have hc : (Extern.BytealgCompare.compare #[x, y]).run P w = .ok (.int .i64 (Lib.compareBytes a b)) w := by
  change Sem.run P (do pure (goInt (Extern.BytealgCompare.cmp (← Extern.Bytes.bytesOf x) (← Extern.Bytes.bytesOf y)))) w = _
  simp only [Sem.run_bind, run_bytesOf him ha, run_bytesOf him hb, Sem.run_pure, Result.andThen]
  rw [Lib.cmp_eq]
  rfl
 refine v_extern (args := #[x, y]) (by simp [hx, hy]) ?_
 rw [run_callFunc_extern hf h1 h2 h3 h4, hc]
 rfl
end
section
variable {m : Mem} {wI : World}
theorem c_bcompareW {x y : Value} {a b : (List UInt8)} (him : Im m wI) (ha : SlM m x 1 a.length (bs a)) (hb : SlM m y 1 b.length (bs b)) :
  Ret Tryz.prog 88 #[x, y] wI fun v w' => w' = wI ∧ v = .int .i64 (Lib.compareBytes a b) := by
 refine ret_of Tryz.call88 Tryz.func88 rfl Tryz.ntmps88 Tryz.results88 rfl ?_
 refine wc_seq ?_
 refine wc_region ?_
 refine wl_val (v_assign' (by conv => (lhs; whnf))) rfl ?_
 refine wl_nil ?_
 refine then_go ?_
 refine wc_seq ?_
 refine wc_region ?_
 refine wl_val (v_move' (by conv => (lhs; whnf))) rfl ?_
 refine wl_val (v_move' (by conv => (lhs; whnf))) rfl ?_
 refine wl_val (v_bcompare Tryz.func110 (by kernel_rfl) (by kernel_rfl) (by kernel_rfl) (by kernel_rfl) him ha hb rfl rfl) rfl ?_
 refine wl_val (v_assign' (by conv => (lhs; whnf))) rfl ?_
 refine wl_nil ?_
 refine then_go ?_
 refine wc_ret ?_
 exact ret1 rfl ⟨rfl, rfl⟩
end
end Go.Proofs.YtladpaehbolghaaGreat

namespace Go.Proofs.YtladpaehbolghaaGreat
open Go.Shelf
def sortAct_ren : Go.Shelf.Ren := ⟨fun | 6 => 86 | 15 => 109 | 14 => 108 | 28 => 125 | 29 => 126 | 20 => 117 | 21 => 118 | 22 => 119 | 23 => 120 | 24 => 121 | 25 => 122 | 26 => 123 | 27 => 124 | 46 => 133 | 47 => 134 | 48 => 135 | 49 => 136 | 50 => 137 | 57 => 144 | n => n, fun | 22 => 22 | 24 => 57 | 25 => 136 | 3 => 3 | 39 => 120 | 0 => 0 | 53 => 160 | 55 => 47 | 4 => 4 | 46 => 154 | 45 => 153 | 50 => 131 | 5 => 5 | 9 => 9 | 66 => 169 | 70 => 172 | 76 => 180 | 77 => 181 | n => n, fun | n => n⟩
theorem sortAct : Go.Proofs.SlLaysF0.n6 Tryz.prog sortAct_ren := {
 mixed := by kernel_rfl
 f6 := ⟨Tryz.f86.name, by decide, Tryz.func86.trans (congrArg some (by kernel_rfl))⟩
 f14 := ⟨Tryz.f108.name, by decide, Tryz.func108.trans (congrArg some (by kernel_rfl))⟩
 f15 := Tryz.func109.trans (congrArg some (by kernel_rfl))
 f20 := ⟨Tryz.f117.name, by decide, Tryz.func117.trans (congrArg some (by kernel_rfl))⟩
 f21 := ⟨Tryz.f118.name, by decide, Tryz.func118.trans (congrArg some (by kernel_rfl))⟩
 f22 := ⟨Tryz.f119.name, by decide, Tryz.func119.trans (congrArg some (by kernel_rfl))⟩
 f23 := ⟨Tryz.f120.name, by decide, Tryz.func120.trans (congrArg some (by kernel_rfl))⟩
 f24 := ⟨Tryz.f121.name, by decide, Tryz.func121.trans (congrArg some (by kernel_rfl))⟩
 f25 := ⟨Tryz.f122.name, by decide, Tryz.func122.trans (congrArg some (by kernel_rfl))⟩
 f26 := ⟨Tryz.f123.name, by decide, Tryz.func123.trans (congrArg some (by kernel_rfl))⟩
 f27 := ⟨Tryz.f124.name, by decide, Tryz.func124.trans (congrArg some (by kernel_rfl))⟩
 f28 := Tryz.func125.trans (congrArg some (by kernel_rfl))
 f29 := Tryz.func126.trans (congrArg some (by kernel_rfl))
 f46 := ⟨Tryz.f133.name, by decide, Tryz.func133.trans (congrArg some (by kernel_rfl))⟩
 f47 := Tryz.func134.trans (congrArg some (by kernel_rfl))
 f48 := Tryz.func135.trans (congrArg some (by kernel_rfl))
 f49 := ⟨Tryz.f136.name, by decide, Tryz.func136.trans (congrArg some (by kernel_rfl))⟩
 f50 := ⟨Tryz.f137.name, by decide, Tryz.func137.trans (congrArg some (by kernel_rfl))⟩
 f57 := ⟨Tryz.f144.name, by decide, Tryz.func144.trans (congrArg some (by kernel_rfl))⟩
 t0 := Tryz.underlying0
 a0 := Tryz.isAgg0
 z0 := Tryz.sizeOf0
 v0 := Tryz.zeroValue0
 t3 := Tryz.underlying3
 a3 := Tryz.isAgg3
 z3 := Tryz.sizeOf3
 v3 := Tryz.zeroValue3
 t4 := Tryz.underlying4
 a4 := Tryz.isAgg4
 z4 := Tryz.sizeOf4
 v4 := Tryz.zeroValue4
 t5 := Tryz.underlying5
 a5 := Tryz.isAgg5
 z5 := Tryz.sizeOf5
 v5 := Tryz.zeroValue5
 t9 := Tryz.underlying9
 a9 := Tryz.isAgg9
 z9 := Tryz.sizeOf9
 v9 := Tryz.zeroValue9
 t22 := Tryz.underlying22
 a22 := Tryz.isAgg22
 z22 := Tryz.sizeOf22
 v22 := Tryz.zeroValue22
 t25 := Tryz.underlying136
 a25 := Tryz.isAgg136
 z25 := Tryz.sizeOf136
 v25 := Tryz.zeroValue136
 t39 := Tryz.underlying120
 a39 := Tryz.isAgg120
 z39 := Tryz.sizeOf120
 v39 := Tryz.zeroValue120
 t45 := Tryz.underlying153
 a45 := Tryz.isAgg153
 z45 := Tryz.sizeOf153
 v45 := Tryz.zeroValue153
 t46 := Tryz.underlying154
 a46 := Tryz.isAgg154
 z46 := Tryz.sizeOf154
 v46 := Tryz.zeroValue154
 t50 := Tryz.underlying131
 a50 := Tryz.isAgg131
 z50 := Tryz.sizeOf131
 v50 := Tryz.zeroValue131
 t53 := Tryz.underlying160
 a53 := Tryz.isAgg160
 z53 := Tryz.sizeOf160
 v53 := Tryz.zeroValue160
 t55 := Tryz.underlying47
 a55 := Tryz.isAgg47
 z55 := Tryz.sizeOf47
 v55 := Tryz.zeroValue47
 t66 := Tryz.underlying169
 a66 := Tryz.isAgg169
 z66 := Tryz.sizeOf169
 v66 := Tryz.zeroValue169
 t70 := Tryz.underlying172
 a70 := Tryz.isAgg172
 z70 := Tryz.sizeOf172
 v70 := Tryz.zeroValue172
 t76 := Tryz.underlying180
 a76 := Tryz.isAgg180
 z76 := Tryz.sizeOf180
 v76 := Tryz.zeroValue180
 t77 := Tryz.underlying181
 a77 := Tryz.isAgg181
 z77 := Tryz.sizeOf181
 v77 := Tryz.zeroValue181 }
def cloneMap_ren : Go.Shelf.Ren := ⟨fun | 5 => 77 | 7 => 98 | n => n, fun | 23 => 93 | 25 => 9 | 3 => 23 | 4 => 4 | 20 => 20 | n => n, fun | n => n⟩
theorem cloneMap : Go.Proofs.SlLaysW.n5 Tryz.prog cloneMap_ren := {
 mixed := by kernel_rfl
 f5 := ⟨Tryz.f77.name, by decide, Tryz.func77.trans (congrArg some (by kernel_rfl))⟩
 f7 := Tryz.func98.trans (congrArg some (by kernel_rfl))
 t4 := Tryz.underlying4
 a4 := Tryz.isAgg4
 z4 := Tryz.sizeOf4
 v4 := Tryz.zeroValue4
 t20 := Tryz.underlying20
 a20 := Tryz.isAgg20
 z20 := Tryz.sizeOf20
 v20 := Tryz.zeroValue20
 t23 := Tryz.underlying93
 a23 := Tryz.isAgg93
 z23 := Tryz.sizeOf93
 v23 := Tryz.zeroValue93 }
end Go.Proofs.YtladpaehbolghaaGreat

namespace Go.Proofs.YtladpaehbolghaaGreat
open Go Go.RowKit K SH GC JR OS Go.Sort
abbrev SB := {x : AcT // x.2.oneCell' = true}
instance : Inhabited SB := ⟨⟨(⟨[], false, []⟩, .slice none 0 0), rfl⟩⟩
abbrev sbC (x : SB) : List Value := acP x.1
theorem as_sb : ∀ {L : List AcT}, (∀ x ∈ L, x.2.oneCell' = true) → ∃ L' : List SB, L'.map Subtype.val = L
 | [], _ => ⟨[], rfl⟩
 | x :: L, h => by
  obtain ⟨L', e⟩ := as_sb (L := L) fun y hy => h y (List.mem_cons_of_mem _ hy)
  exact ⟨⟨x, h x (List.mem_cons_self ..)⟩ :: L', by rw [List.map_cons, e]⟩
theorem sb_E (v : Value) (M : List SB) : acE v (M.map Subtype.val) = rowE v 57 3 M.length (M.flatMap sbC) := by
 show rowE v 57 3 (M.map Subtype.val).length ((M.map Subtype.val).flatMap acP) = _
 rw [List.flatMap_map, List.length_map]
theorem cmpA (W : World) (x y : AcT) : Ret Tryz.prog 87 #[.agg (acP x).toArray, .agg (acP y).toArray] W fun v w' => v = .int .i64 (Lib.compareBytes x.1.key y.1.key) ∧ Gro W w' := by
 refine ret_of Tryz.call87 Tryz.func87 rfl Tryz.ntmps87 Tryz.results87 rfl ?_
 refine wc_seq ?_
 refine wc_region ?_
 refine wl_boxX rfl rfl ?_
 refine wl_boxX rfl rfl ?_
 refine wl_val (v_assign' (by conv => (lhs; whnf))) rfl ?_
 refine wl_nil ?_
 refine then_go ?_
 refine wc_seq ?_
 obtain ⟨W2, hW2⟩ : ∃ W2, W2 = grow (grow W #[.cells (acP x).toArray 57 (0, 0)]) #[.cells (acP y).toArray 57 (0, 0)] := ⟨_, rfl⟩
 have g2 : Gro W W2 := by rw [hW2, grow_grow]; exact ⟨0, _, rfl⟩
 have hA : W2.heap[W.heap.size]? = some (.cells (acP x).toArray 57 (0, 0)) := by rw [hW2, grow_grow]; exact grow_at (k := 0)
 have hB : W2.heap[(grow W #[.cells (acP x).toArray 57 (0, 0)]).heap.size]? = some (.cells (acP y).toArray 57 (0, 0)) := by rw [hW2, grow_grow, size_grow]; exact grow_at (k := 1)
 change WC _ _ _ _ _ (grow (grow W #[.cells (acP x).toArray 57 (0, 0)]) #[.cells (acP y).toArray 57 (0, 0)])
 rw [← hW2]
 refine wc_region ?_
 refine wl_val (v_fa TF.f57_0 rfl) rfl ?_
 refine wl_val (v_load rfl (reads_row TF.t9 hA rfl)) rfl ?_
 refine wl_s2bX (l := x.1.key) Tryz.underlying9 Tryz.underlying23 Tryz.underlying5 rfl rfl ?_
 intro v7 o7 h7
 obtain ⟨W3, hW3⟩ : ∃ W3, W3 = grow (W2.drewN 1) #[o7] := ⟨_, rfl⟩
 have g3 : Gro W W3 := by rw [hW3]; exact g2.trans .one
 have hB : W3.heap[(grow W #[.cells (acP x).toArray 57 (0, 0)]).heap.size]? = some (.cells (acP y).toArray 57 (0, 0)) := by rw [hW3]; exact grow_old hB
 have hO : W3.heap[W2.heap.size]? = some o7 := by rw [hW3]; exact grow_new
 rw [← hW3]
 refine wl_val (v_fa TF.f57_0 rfl) rfl ?_
 refine wl_val (v_load rfl (reads_row TF.t9 hB rfl)) rfl ?_
 refine wl_s2bX (l := y.1.key) Tryz.underlying9 Tryz.underlying23 Tryz.underlying5 rfl rfl ?_
 intro v10 o10 h10
 obtain ⟨W4, hW4⟩ : ∃ W4, W4 = grow (W3.drewN 1) #[o10] := ⟨_, rfl⟩
 have g4 : Gro W W4 := by rw [hW4]; exact g3.trans .one
 have hO4 : W4.heap[W2.heap.size]? = some o7 := by rw [hW4]; exact grow_old hO
 have hO5 : W4.heap[W3.heap.size]? = some o10 := by rw [hW4]; exact grow_new
 rw [← hW4]
 refine wl_call rfl (c_bcompareW (m := fun k => W4.heap[k]?) (wI := W4) (fun _ _ h => h) (h7 _ hO4) (h10 _ hO5)) rfl ?_
 rintro v11 w ⟨rfl, rfl⟩
 refine wl_val (v_assign' (by conv => (lhs; whnf))) rfl ?_
 refine wl_nil ?_
 refine then_go ?_
 refine wc_ret ?_
 exact ret1 rfl ⟨rfl, g4⟩
theorem c_sortAct {m0 m : Mem} {F : List Nat} {w0 w : World} {Es : List Ent} {v : Value} {L : List AcT} (st : St m0 m F w0 w (acE v L :: Es)) (hone : ∀ x ∈ L, x.2.oneCell' = true) (hl : L.length ≤ 1000000000) :
  Ret Tryz.prog 86 #[v, .func (.func 87) #[] #[]] w fun _ w' => ∃ L', L'.Perm L ∧ L'.Pairwise (fun x y => ¬ y.1.key < x.1.key) ∧ St m0 m F w0 w' (acE v L' :: Es) := by
 obtain ⟨M, rfl⟩ := as_sb hone
 refine ⟨Tryz.call86, Calls.mono (sort_row (enc := sbC) sortAct rfl TF.t57 (fun x => rfl) (fun x u hu => by
   simp only [sbC, acP, acC, List.cons_append, List.nil_append, List.mem_cons, List.not_mem_nil, or_false] at hu
   rcases hu with rfl | rfl | rfl
   ·rfl
   ·rfl
   ·exact x.2) (cmpB_swo fun x : SB => x.1.1.key) Tryz.call87
  (fun W x y => Calls.mono (cmpA W x.1 y.1).2 fun e w' ⟨v, h, e2, q⟩ => ⟨h.trans (congrArg _ e2), q⟩) (L := M) (v := v) st 0 (congrArg some (sb_E v M)) (by simpa using hl)) ?_⟩
 rintro e w' ⟨rfl, L', hp, hs, st⟩
 refine ⟨_, rfl, L'.map Subtype.val, hp.map _, ?_, by rw [sb_E]; exact st⟩
 rw [List.pairwise_map]
 exact hs.imp fun h => by simpa [ltOf, cmpB_lt] using h
end Go.Proofs.YtladpaehbolghaaGreat

namespace Go.Proofs.YtladpaehbolghaaGreat
open Go Go.RowKit K SH GC JR OS
namespace OS
def toAct (x : By × DV) : AcT := (⟨x.1, true, x.2.1⟩, x.2.2)
end OS
section
open OS
variable {m0 m : Mem} {w0 w : World} {Es : List Ent}
theorem c_swhole {mb : Nat} {L : List (By × DV)} (st : St m0 m [] w0 w (kmE mb L :: Es)) (hL : KvOk m L) (hl : L.length ≤ 1000000) :
  Ret Tryz.prog 63 #[.map (some mb)] w fun v w' => ∃ A : List AcT, A.Perm (L.map toAct) ∧ (A.map (·.1.key)).Pairwise (· < ·) ∧ St m0 m [] w0 w' (acE v A :: kmE mb L :: Es) := by
 obtain ⟨es, clock, he, st⟩ := st.mapFix 0 rfl
 have st : St m0 m [] w0 w (K.objE mb (.map es clock) :: Es) := st
 refine ret_of Tryz.call63 Tryz.func63 rfl Tryz.ntmps63 Tryz.results63 rfl ?_
 refine wc_seq ?_
 refine wc_region ?_
 refine wl_val (v_assign' (by conv => (lhs; whnf))) rfl ?_
 refine wl_nil ?_
 refine then_go ?_
 refine wc_seq ?_
 refine wc_region ?_
 refine wl_val (v_assign' (by conv => (lhs; whnf))) rfl ?_
 refine wl_nil ?_
 refine then_go ?_
 refine wc_seq ?_
 refine wc_seq ?_
 refine wc_region ?_
 refine wl_val (v_move' (by conv => (lhs; whnf))) rfl ?_
 refine wl_range st (st.at (i := 0) rfl) he Tryz.underlying93 rfl rfl ?_
 intro g6 w hg6 st
 refine wl_nil ?_
 refine then_go ?_
 refine wc_block ?_
 have st : St m0 m [] w0 w (acE (.slice none 0 0) [] :: iterE strV (fun x : DV => x.2) es clock mb g6 L :: K.objE mb (.map es clock) :: Es) := nilRow st 57 3
 refine wc_loop (S := Nat) (fun q r w' => ∃ (v : Value) (A : List AcT) (R : List (By × DV)), q = R.length ∧ r 0 = .map (some mb) ∧ r 3 = v ∧ r 6 = .pointer (some ⟨g6, 0, none⟩) ∧ (A ++ R.map toAct).Perm (L.map toAct) ∧ St m0 m [] w0 w' (acE v A :: iterE strV (fun x : DV => x.2) es clock mb g6 R :: K.objE mb (.map es clock) :: Es)) id _ ⟨_, [], L, rfl, rfl, rfl, rfl, List.Perm.refl _, st⟩ ?_
 clear st
 rintro q r w2 ⟨v, A, R, hq, g0, g3, g6e, hperm, st⟩
 refine wc_o 0 g0 (wc_o 3 g3 (wc_o 6 g6e ?_))
 have hAl : A.length + R.length ≤ 1000000 := by have := hperm.length_eq; simp at this; omega
 refine wc_seq ?_
 rcases next_or (P := Tryz.prog) (ty := 0) 1 st rfl (st.at (i := 2) rfl) he with ⟨hR, hrun⟩ | ⟨p1, y, p2, w3, hR, st, hent, hrun, _⟩
 ·refine wc_region ?_
  refine wl_val (v_next hrun rfl) rfl ?_
  refine wl_val (v_extract rfl rfl) rfl ?_
  refine wl_nil ?_
  refine then_go ?_
  refine wc_seq ?_
  refine wc_false rfl ?_
  refine wc_exit (then_exit (then_exit (block_hit ?_)))
  refine then_go ?_
  refine wc_seq ?_
  refine wc_region ?_
  refine wl_val (v_move' (by conv => (lhs; whnf))) rfl ?_
  subst hR
  have hone : ∀ x ∈ A, x.2.oneCell' = true := fun x hx => by
   have h1 := hperm.mem_iff.1 (List.mem_append_left _ hx)
   obtain ⟨z, hz, e⟩ := List.mem_map.1 h1
   rw [← e]
   exact SlM.one1 (hL z hz).2.2
  refine wl_call rfl (c_sortAct st hone (by omega)) rfl ?_
  rintro v20 w ⟨A', hp', hs', st⟩
  refine wl_nil ?_
  refine then_go ?_
  refine wc_seq ?_
  refine wc_region ?_
  refine wl_val (v_move' (by conv => (lhs; whnf))) rfl ?_
  refine wl_val (v_assign' (by conv => (lhs; whnf))) rfl ?_
  refine wl_nil ?_
  refine then_go ?_
  refine wc_ret ?_
  have st := (st.drop 1).mapLoose 1 rfl he
  refine ret1 rfl ⟨A', hp'.trans (by simpa using hperm), ?_, st⟩
  have hnd : (A'.map (·.1.key)).Nodup := by
   have hp2 := (hp'.trans (by simpa using hperm : A.Perm (L.map toAct))).map (fun a : AcT => a.1.key)
   rw [List.map_map] at hp2
   exact hp2.symm.nodup (by exact he.nodup)
  rw [List.pairwise_map]
  refine (List.pairwise_and_iff.2 ⟨hs', List.pairwise_map.1 hnd⟩).imp fun {x y} h => ?_
  rcases List.le_iff_lt_or_eq.1 (List.not_lt.1 h.1) with h2 | h2
  ·exact h2
  ·exact (h.2 h2).elim
 ·refine wc_region ?_
  refine wl_val (v_next hrun rfl) rfl ?_
  refine wl_val (v_extract rfl rfl) rfl ?_
  refine wl_nil ?_
  refine then_go ?_
  refine wc_seq ?_
  refine wc_true rfl ?_
  refine wc_skip ?_
  refine then_go ?_
  refine wc_block ?_
  refine wc_seq ?_
  have hyL : y ∈ L := by
   have h1 : toAct y ∈ L.map toAct := hperm.mem_iff.1 (List.mem_append_right A (List.mem_map.2 ⟨y, by rw [hR]; simp, rfl⟩))
   obtain ⟨z, hz, e⟩ := List.mem_map.1 h1
   obtain ⟨k, d, v⟩ := y
   obtain ⟨k', d', v'⟩ := z
   simp only [toAct, Prod.mk.injEq, Ac.mk.injEq, true_and] at e
   obtain ⟨⟨rfl, rfl⟩, rfl⟩ := e
   exact hz
  obtain ⟨hk64, hd20, hsl⟩ := hL y hyL
  have hget : getKV y.1 L = some y.2 := (mem_getKV he.nodup).1 hyL
  have st : St m0 m [] w0 w3 (acE v A :: iterE strV (fun x : DV => x.2) es clock mb g6 (p1 ++ p2) :: K.objE mb (.map es clock) :: Es) := st
  have o1 := cells_one (SlM.one1 hsl)
  refine wc_region ?_
  refine wl_val (v_entry hent rfl) rfl ?_
  refine wl_val (v_extract rfl rfl) rfl ?_
  refine wl_val (v_assign' (by conv => (lhs; whnf))) rfl ?_
  refine wl_nil ?_
  refine then_go ?_
  refine wc_region ?_
  refine wl_val (v_move' (by conv => (lhs; whnf))) rfl ?_
  refine wl_val (v_move' (by conv => (lhs; whnf))) rfl ?_
  refine wl_val (v_move' (by conv => (lhs; whnf))) rfl ?_
  refine wl_val (v_move' (by conv => (lhs; whnf))) rfl ?_
  refine wl_val (v_to (v' := y.2.2) (v_mapGetH (st.at (i := 2) rfl) he kt_str Tryz.underlying93 TF.z23 hL.keys (by omega) rfl rfl false) (by rw [hget]; rfl)) rfl ?_
  refine wl_val (v_build (c' := (acC ⟨y.1, true, y.2.1⟩ y.2.2).toArray) [(0, .string (strB y.1)), (1, .bool true), (2, y.2.2)] TF.z57 TF.p57 rfl (fill_one [] [.string ⟨#[]⟩] [.bool false, .slice none 0 0] rfl rfl rfl (fill_one [.string (strB y.1)] [.bool false] [.slice none 0 0] rfl rfl rfl (fill_one [.string (strB y.1), .bool true] [.slice none 0 0] [] rfl rfl (by rw [o1]; rfl) (by rw [o1]; rfl))))) rfl ?_
  have hao : AcOk m ⟨y.1, true, y.2.1⟩ y.2.2 := ⟨by show y.1.length ≤ _; omega, hsl⟩
  refine wl_lsOne (acC ⟨y.1, true, y.2.1⟩ y.2.2) Tryz.underlying22 TF.t57 TF.z57 (by decide) (by decide) (Ac.len hao) rfl st rfl ?_
  intro b17 w st
  refine wl_lsApp (c := acP) (e := toAct y) 0 st rfl Tryz.underlying22 TF.t57 TF.z57 rfl rfl (Ac.one hao) rfl rfl (by omega) (by omega) rfl ?_
  intro v18 w st hv18
  have st : St m0 m [] w0 w (acE v18 (A ++ [toAct y]) :: iterE strV (fun x : DV => x.2) es clock mb g6 (p1 ++ p2) :: K.objE mb (.map es clock) :: Es) := st
  refine wl_val (v_assign' (by conv => (lhs; whnf))) rfl ?_
  refine wl_nil ?_
  refine block_go (then_go ?_)
  refine ⟨(p1 ++ p2).length, ?_, v18, A ++ [toAct y], p1 ++ p2, rfl, rfl, rfl, rfl, ?_, st⟩
  ·rw [hq, hR]; simp
  ·refine List.Perm.trans ?_ hperm
   rw [hR]
   simp only [List.map_append, List.map_cons, List.append_assoc, List.singleton_append]
   exact (List.perm_middle (l₁ := p1.map toAct)).symm.append_left A
end
end Go.Proofs.YtladpaehbolghaaGreat

namespace Go.Proofs.YtladpaehbolghaaGreat
open Go Go.RowKit K SH DK JR
section
variable {m0 m : Mem} {F : List Nat} {w0 w : World} {Es : List Ent}
def LogOut (m0 m : Mem) (w0 w' : World) (Es : List Ent) (g b s n : Nat) (o : DS × LG × Int) (N : List (By × Value)) (L L' : List By) (v : Value) : Prop :=
 ∃ m' wv' lv' N', (∀ k o, m k = some o → m' k = some o) ∧ v = .int .i64 o.2.2 ∧ Pcs m' N' ∧ PcsN m m' N N' ∧ N'.map (·.1) = (if o.2.2 = 0 then L' else L) ∧ St m0 m' [] w0 w' (logB g b o.2.1 lv' :: lrE lv' N' :: diskO b s n wv' o.1 :: Es)
theorem p132 {a b c : Ent} {l : List Ent} : List.Perm (a :: b :: c :: l) (a :: c :: b :: l) := List.Perm.cons _ (List.Perm.swap _ _ _)
theorem c_append {g b s n : Nat} {sl : LG} {lv wv bv : Value} {d : DS} {N : List (By × Value)} {x : By} (st : St m0 m [] w0 w (logB g b sl lv :: lrE lv N :: diskO b s n wv d :: Es)) (hr : Rdy n d 100000) (hP : Pcs m N) (hx : SlM m bv 1 x.length (bs x)) (hsl : sl.half ≤ 1) (hf1 : sl.fin ≤ n / 2 * 64) (hNn : N.length ≤ 1048576) :
  Ret Tryz.prog 51 #[.pointer (some ⟨g, 0, none⟩), bv] w fun v w' => LogOut m0 m w0 w' Es g b s n (appD n d sl (N.map (·.1)) x) N (N.map (·.1)) (N.map (·.1) ++ [x]) v := by
 obtain ⟨ba, bc, rfl, hbc⟩ := hx.opn
 have hn := hr.ok.le
 obtain ⟨la, lc, hlv⟩ := row_sl (st.at (i := 1) rfl)
 have hNL : (N.map (·.1)).length = N.length := List.length_map _
 have hrl := length_recB sl.gen (UInt64.ofNat N.length) x
 have hmm0 : ∀ k o, m k = some o → m k = some o := fun _ _ h => h
 have bad : ∀ {d' : DS} {e : Int} {m' : Mem} {wv' : Value} {w' : World}, appD n d sl (N.map (·.1)) x = (d', sl, e) → e ≠ 0 → (∀ k o, m k = some o → m' k = some o) → St m0 m' [] w0 w' (logB g b sl lv :: diskO b s n wv' d' :: lrE lv N :: Es) → LogOut m0 m w0 w' Es g b s n (appD n d sl (N.map (·.1)) x) N (N.map (·.1)) (N.map (·.1) ++ [x]) (.int .i64 e) := by
  intro d' e m' wv' w' ho he hmm st
  unfold LogOut
  rw [ho]
  exact ⟨m', wv', lv, N, hmm, rfl, hP.mono hmm, .refl, by rw [if_neg he], st.perm p132⟩
 have st : St m0 m [] w0 w (logB g b sl lv :: diskO b s n wv d :: lrE lv N :: Es) := st.perm p132
 refine ret_of Tryz.call51 Tryz.func51 rfl Tryz.ntmps51 Tryz.results51 rfl ?_
 refine wc_seq ?_
 refine wc_region ?_
 refine wl_val (v_assign' (by conv => (lhs; whnf))) rfl ?_
 refine wl_nil ?_
 refine then_go ?_
 refine wc_seq ?_
 refine wc_seq ?_
 refine wc_region ?_
 refine wl_val (v_move' (by conv => (lhs; whnf))) rfl ?_
 refine wl_call rfl (c_jcheck st.im hx) rfl ?_
 rintro v9 w ⟨t9, rfl⟩
 have st := st.pure t9
 have hck : (if 1 ≤ x.length ∧ x.length ≤ 1048576 then (0 : Int) else 1) = ((checkE x : Nat) : Int) := by unfold checkE; split <;> rfl
 rw [hck]
 refine wl_val (v_assign' (by conv => (lhs; whnf))) rfl ?_
 refine wl_nil ?_
 refine then_go ?_
 refine wc_seq ?_
 refine wc_region ?_
 refine wl_val (v_move' (by conv => (lhs; whnf))) rfl ?_
 refine wl_val (v_neq rfl rfl) rfl ?_
 refine wl_nil ?_
 refine then_go ?_
 refine wc_cond rfl (fun h11 => ?_) (fun h11 => ?_)
 ·refine wc_seq ?_
  refine wc_region ?_
  refine wl_val (v_move' (by conv => (lhs; whnf))) rfl ?_
  refine wl_val (v_assign' (by conv => (lhs; whnf))) rfl ?_
  refine wl_nil ?_
  refine then_go ?_
  refine wc_ret (then_ret ?_)
  have hz := of_decide_eq_true h11
  have h1 : checkE x = 1 := by
   have : checkE x = 0 ∨ checkE x = 1 := by
    unfold checkE
    split
    ·exact .inl rfl
    ·exact .inr rfl
   rcases this with h | h
   ·exact (hz (by rw [h]; rfl)).elim
   ·exact h
  exact ret1 (v := .int .i64 1) (by rw [h1]; rfl) (bad (by unfold appD; rw [if_pos (by omega)]) (by decide) hmm0 st)
 ·refine wc_skip ?_
  refine then_go ?_
  refine wc_seq ?_
  have hc0 : ¬ checkE x ≠ 0 := fun h => of_decide_eq_false h11 (by omega)
  have hxm : 1 ≤ x.length ∧ x.length ≤ 1048576 := by
   unfold checkE at hc0
   split at hc0
   ·assumption
   ·exact (hc0 (by decide)).elim
  have hrl2 : recL x.length ≤ 1048696 := by unfold recL; omega
  refine wc_draw TF.mixed ?_
  have st := st.pure (touch_drew _)
  refine fl_val 0 rfl (fun _ => (v_move' (by conv => (lhs; whnf)))) rfl (by kernel_rfl) ?_
  refine fl_val 1 rfl (fun _ => (v_nil rfl)) rfl (by kernel_rfl) ?_
  refine fl_val 2 rfl (fun _ => (v_fa TF.f126_2 rfl)) rfl (by kernel_rfl) ?_
  refine fl_ld 3 rfl (v_load rfl (by first | exact st.reads (v := u64 sl.gen) 0 rfl TF.t47 rfl | exact st.reads (v := u64 sl.gen) 1 rfl TF.t47 rfl)) (by kernel_rfl) ?_
  refine fl_val 4 rfl (fun _ => (v_move' (by conv => (lhs; whnf)))) rfl (by kernel_rfl) ?_
  refine fl_val 5 rfl (fun _ => (v_nil rfl)) rfl (by kernel_rfl) ?_
  refine fl_val 6 rfl (fun _ => (v_fa TF.f126_4 rfl)) rfl (by kernel_rfl) ?_
  refine fl_ld 7 rfl (v_load rfl (by first | exact st.reads (v := .slice la N.length lc) 0 rfl TF.t41 (by rw [hlv]; rfl) | exact st.reads (v := .slice la N.length lc) 1 rfl TF.t41 (by rw [hlv]; rfl))) (by kernel_rfl) ?_
  refine fl_val 8 rfl (fun _ => (v_len_s Tryz.underlying41 rfl)) rfl (by kernel_rfl) ?_
  refine fl_val 9 rfl (fun _ => (v_convi_64 Tryz.underlying3 Tryz.underlying47 rfl)) rfl (by kernel_rfl) ?_
  refine fl_val 10 rfl (fun _ => (v_move' (by conv => (lhs; whnf)))) rfl (by kernel_rfl) ?_
  refine fl_eff1 11 [8, 6, 5, 4, 2, 1, 0] [7] (by kernel_rfl) ⟨obl_ld rfl rfl rfl (v_load rfl (by first | exact st.reads (v := .slice la N.length lc) 0 rfl TF.t41 (by rw [hlv]; rfl) | exact st.reads (v := .slice la N.length lc) 1 rfl TF.t41 (by rw [hlv]; rfl))), obl_ld rfl rfl rfl (v_load rfl (by first | exact st.reads (v := u64 sl.gen) 0 rfl TF.t47 rfl | exact st.reads (v := u64 sl.gen) 1 rfl TF.t47 rfl)), trivial⟩ rfl ?_
  refine wl_call rfl (c_jrecord (g := sl.gen) (s := UInt64.ofNat N.length) st hx (by omega)) rfl ?_
  intro v24 w st
  have st1 := st
  obtain ⟨m1, hg1, hm1, st⟩ := st.freezeR (i := 0) rfl (by simp)
  obtain ⟨R, hR⟩ : ∃ R, R = recB sl.gen (UInt64.ofNat N.length) x := ⟨_, rfl⟩
  rw [← hR] at hrl st1
  have hRm : SlM m1 v24 1 R.length (bs R) := row_SlM (m := m1) (st1.at (i := 0) rfl) hm1
  have st : St m0 m1 [] w0 w (logB g b sl lv :: diskO b s n wv d :: lrE lv N :: Es) := st
  have hmm1 := hg1.le
  have hx := hx.mono hmm1
  obtain ⟨Ra, Rc, hRv, _⟩ := hRm.opn
  subst hRv
  have hRe : recB sl.gen (UInt64.ofNat (N.map (·.1)).length) x = R := by rw [hNL, hR]
  refine wl_nil ⟨rfl, ?_⟩
  refine fl_eff1 12 [] [] (by kernel_rfl) ⟨obl_ld rfl rfl rfl (v_load rfl (by first | exact st.reads (v := .slice la N.length lc) 0 rfl TF.t41 (by rw [hlv]; rfl) | exact st.reads (v := .slice la N.length lc) 1 rfl TF.t41 (by rw [hlv]; rfl))), trivial⟩ rfl ?_
  refine wl_val (v_assign' (by conv => (lhs; whnf))) rfl ?_
  refine wl_nil ⟨rfl, ?_⟩
  refine fl_nil (by kernel_rfl) trivial ?_
  refine then_go ?_
  refine wc_seq ?_
  refine wc_seq ?_
  refine wc_draw TF.mixed ?_
  have st := st.pure (touch_drew _)
  refine fl_val 0 rfl (fun _ => (v_move' (by conv => (lhs; whnf)))) rfl (by kernel_rfl) ?_
  refine fl_val 1 rfl (fun _ => (v_len_s Tryz.underlying23 rfl)) rfl (by kernel_rfl) ?_
  refine fl_val 2 rfl (fun _ => (v_move' (by conv => (lhs; whnf)))) rfl (by kernel_rfl) ?_
  refine fl_val 4 rfl (fun _ => (v_move' (by conv => (lhs; whnf)))) rfl (by kernel_rfl) ?_
  refine fl_val 5 rfl (fun _ => (v_nil rfl)) rfl (by kernel_rfl) ?_
  refine fl_val 6 rfl (fun _ => (v_fa TF.f126_3 rfl)) rfl (by kernel_rfl) ?_
  refine fl_ld 7 rfl (v_load rfl (st.reads (v := .int .i64 sl.fin) 0 rfl TF.t3 rfl)) (by kernel_rfl) ?_
  refine fl_eff1 3 [6, 5, 4, 1, 0] [7] (by kernel_rfl) ⟨obl_ld rfl rfl rfl (v_load rfl (st.reads (v := .int .i64 sl.fin) 0 rfl TF.t3 rfl)), trivial⟩ rfl ?_
  refine wl_call rfl (c_lsize st hr.ok) rfl ?_
  rintro v28 w ⟨t28, rfl⟩
  have st := st.pure t28
  refine wl_nil ⟨rfl, ?_⟩
  refine fl_val 8 rfl (fun _ => (v_sub' (c := ((n / 2 * 64 - sl.fin : Nat) : Int)) rfl rfl (by omega) (by omega) (by omega))) rfl (by kernel_rfl) ?_
  refine fl_val 9 rfl (fun _ => (v_gtr rfl rfl)) rfl (by kernel_rfl) ?_
  refine fl_nil (by kernel_rfl) ⟨obl_ld rfl rfl rfl (v_load rfl (st.reads (v := .int .i64 sl.fin) 0 rfl TF.t3 rfl)), trivial⟩ ?_
  refine then_go ?_
  refine wc_if rfl (fun h34 => ?_) (fun h34 => ?_)
  ·refine wc_seq ?_
   refine wc_region ?_
   refine wl_val (v_assign' (by conv => (lhs; whnf))) rfl ?_
   refine wl_nil ?_
   refine then_go ?_
   refine wc_ret (then_ret ?_)
   exact ret1 rfl (bad (e := 13) (by unfold appD; rw [if_neg hc0, if_pos (by omega)]) (by decide) hmm1 st)
  ·refine wc_skip ?_
   refine then_go ?_
   refine wc_seq ?_
   refine wc_seq ?_
   refine wc_draw TF.mixed ?_
   have st := st.pure (touch_drew _)
   refine fl_val 0 rfl (fun _ => (v_move' (by conv => (lhs; whnf)))) rfl (by kernel_rfl) ?_
   refine fl_val 1 rfl (fun _ => (v_move' (by conv => (lhs; whnf)))) rfl (by kernel_rfl) ?_
   refine fl_val 2 rfl (fun _ => (v_nil rfl)) rfl (by kernel_rfl) ?_
   refine fl_val 3 rfl (fun _ => (v_fa TF.f126_1 rfl)) rfl (by kernel_rfl) ?_
   refine fl_ld 4 rfl (v_load rfl (st.reads (v := .int .i64 sl.half) 0 rfl TF.t3 rfl)) (by kernel_rfl) ?_
   refine fl_val 5 rfl (fun _ => (v_move' (by conv => (lhs; whnf)))) rfl (by kernel_rfl) ?_
   refine fl_val 6 rfl (fun _ => (v_nil rfl)) rfl (by kernel_rfl) ?_
   refine fl_val 7 rfl (fun _ => (v_fa TF.f126_3 rfl)) rfl (by kernel_rfl) ?_
   refine fl_ld 8 rfl (v_load rfl (st.reads (v := .int .i64 sl.fin) 0 rfl TF.t3 rfl)) (by kernel_rfl) ?_
   refine fl_val 9 rfl (fun _ => (v_move' (by conv => (lhs; whnf)))) rfl (by kernel_rfl) ?_
   refine fl_eff1 10 [7, 6, 5, 3, 2, 1] [] (by kernel_rfl) ⟨obl_ld rfl rfl rfl (v_load rfl (st.reads (v := .int .i64 sl.fin) 0 rfl TF.t3 rfl)), obl_ld rfl rfl rfl (v_load rfl (st.reads (v := .int .i64 sl.half) 0 rfl TF.t3 rfl)), trivial⟩ rfl ?_
   have hfit : ¬ n / 2 * 64 < sl.fin + recL x.length := by omega
   refine wl_call rfl (c_put (hf := sl.half) (at' := sl.fin) st hr hRm (by rw [hrl]; unfold recL; omega) (by omega) hsl (by omega)) rfl ?_
   rintro v45 w ⟨wv1, st, rfl⟩
   have hd1 : putD n d ((sl.half * (n / 2 * 64) + sl.fin) / 64) (recB sl.gen (UInt64.ofNat (N.map (·.1)).length) x) = putD n d ((sl.half * (n / 2 * 64) + sl.fin) / 64) R := by rw [hRe]
   obtain ⟨P1, hP1⟩ : ∃ P1, P1 = putD n d ((sl.half * (n / 2 * 64) + sl.fin) / 64) R := ⟨_, rfl⟩
   rw [← hP1] at st hd1 ⊢
   refine wl_nil ⟨rfl, ?_⟩
   refine fl_eff1 11 [] [] (by kernel_rfl) trivial rfl ?_
   refine wl_val (v_assign' (by conv => (lhs; whnf))) rfl ?_
   refine wl_nil ⟨rfl, ?_⟩
   refine fl_nil (by kernel_rfl) trivial ?_
   refine then_go ?_
   refine wc_seq ?_
   refine wc_region ?_
   refine wl_val (v_move' (by conv => (lhs; whnf))) rfl ?_
   refine wl_val (v_neq rfl rfl) rfl ?_
   refine wl_nil ?_
   refine then_go ?_
   refine wc_cond rfl (fun h47 => ?_) (fun h47 => ?_)
   ·refine wc_seq ?_
    refine wc_region ?_
    refine wl_val (v_move' (by conv => (lhs; whnf))) rfl ?_
    refine wl_val (v_assign' (by conv => (lhs; whnf))) rfl ?_
    refine wl_nil ?_
    refine then_go ?_
    refine wc_ret (then_ret ?_)
    have hz := of_decide_eq_true h47
    exact ret1 rfl (bad (by unfold appD; rw [if_neg hc0, if_neg hfit, hd1, if_pos hz]) hz hmm1 st)
   ·refine wc_skip ?_
    refine then_go ?_
    refine wc_seq ?_
    refine wc_draw TF.mixed ?_
    have st := st.pure (touch_drew _)
    refine fl_val 0 rfl (fun _ => (v_move' (by conv => (lhs; whnf)))) rfl (by kernel_rfl) ?_
    refine fl_val 1 rfl (fun _ => (v_move' (by conv => (lhs; whnf)))) rfl (by kernel_rfl) ?_
    refine fl_val 2 rfl (fun _ => (v_move' (by conv => (lhs; whnf)))) rfl (by kernel_rfl) ?_
    refine fl_val 3 rfl (fun _ => (v_nil rfl)) rfl (by kernel_rfl) ?_
    refine fl_val 4 rfl (fun _ => (v_fa TF.f126_4 rfl)) rfl (by kernel_rfl) ?_
    refine fl_ld 5 rfl (v_load rfl (by first | exact st.reads (v := lv) 0 rfl TF.t41 rfl | exact st.reads (v := lv) 1 rfl TF.t41 rfl)) (by kernel_rfl) ?_
    refine fl_val 6 rfl (fun _ => (v_move' (by conv => (lhs; whnf)))) rfl (by kernel_rfl) ?_
    refine fl_val 10 rfl (fun _ => (v_move' (by conv => (lhs; whnf)))) rfl (by kernel_rfl) ?_
    refine fl_val 11 rfl (fun _ => (v_nil rfl)) rfl (by kernel_rfl) ?_
    refine fl_val 12 rfl (fun _ => (v_fa TF.f126_3 rfl)) rfl (by kernel_rfl) ?_
    refine fl_ld 13 rfl (v_load rfl (by first | exact st.reads (v := .int .i64 sl.fin) 0 rfl TF.t3 rfl | exact st.reads (v := .int .i64 sl.fin) 1 rfl TF.t3 rfl)) (by kernel_rfl) ?_
    refine fl_val 14 rfl (fun _ => (v_move' (by conv => (lhs; whnf)))) rfl (by kernel_rfl) ?_
    refine fl_val 15 rfl (fun _ => (v_len_s Tryz.underlying23 rfl)) rfl (by kernel_rfl) ?_
    refine fl_val 16 rfl (fun _ => (v_add' (c := ((sl.fin + recL x.length : Nat) : Int)) rfl rfl (by omega) (by omega) (by omega))) rfl (by kernel_rfl) ?_
    refine fl_eff1 7 [16, 15, 14, 12, 11, 10, 4, 3, 2, 1, 0] [13, 5] (by kernel_rfl) ⟨obl_ld rfl rfl rfl (v_load rfl (by first | exact st.reads (v := .int .i64 sl.fin) 0 rfl TF.t3 rfl | exact st.reads (v := .int .i64 sl.fin) 1 rfl TF.t3 rfl)), obl_ld rfl rfl rfl (v_load rfl (by first | exact st.reads (v := lv) 0 rfl TF.t41 rfl | exact st.reads (v := lv) 1 rfl TF.t41 rfl)), trivial⟩ rfl ?_
    refine wl_call rfl (c_bcloneA st.im hx (by omega)) rfl ?_
    rintro v56 w ⟨t56, m2, hg2, hi2, hxv, hap⟩
    have hap : Apart m m2 v56 x := hap.mono hmm1 fun _ _ h => h
    have st := st.grown hg2 t56 hi2
    have hmm2 : ∀ k o, m k = some o → m2 k = some o := fun k o h => hg2.le k o (hmm1 k o h)
    have hP := hP.mono hmm2
    refine wl_nil ⟨rfl, ?_⟩
    refine fl_eff1 8 [16, 15, 14, 12, 11, 10, 4, 3, 2, 1, 0] [13, 5] (by kernel_rfl) ⟨obl_ld rfl rfl rfl (v_load rfl (by first | exact st.reads (v := .int .i64 sl.fin) 0 rfl TF.t3 rfl | exact st.reads (v := .int .i64 sl.fin) 1 rfl TF.t3 rfl)), obl_ld rfl rfl rfl (v_load rfl (by first | exact st.reads (v := lv) 0 rfl TF.t41 rfl | exact st.reads (v := lv) 1 rfl TF.t41 rfl)), trivial⟩ rfl ?_
    refine wl_svOne (v := v56) Tryz.underlying41 TF.t23 TF.z23 (SlM.one1 hxv) rfl st rfl ?_
    intro b57 w st
    refine wl_nil ⟨rfl, ?_⟩
    refine fl_eff1 9 [16, 15, 14, 12, 11, 10, 4, 3, 2, 1, 0] [13] (by kernel_rfl) ⟨obl_ld rfl rfl rfl (v_load rfl (by first | exact st.reads (v := .int .i64 sl.fin) 0 rfl TF.t3 rfl | exact st.reads (v := .int .i64 sl.fin) 1 rfl TF.t3 rfl)), obl_ld rfl rfl rfl (v_load rfl (by first | exact st.reads (v := lv) 0 rfl TF.t41 rfl | exact st.reads (v := lv) 1 rfl TF.t41 rfl)), trivial⟩ rfl ?_
    refine wl_lrApp (x := x) 2 st rfl (SlM.one1 hxv) rfl rfl (by omega) rfl ?_
    intro v58 w st
    have st : St m0 m2 [] w0 w (logB g b sl lv :: diskO b s n wv1 P1.1 :: lrE v58 (N ++ [(x, v56)]) :: Es) := st
    refine wl_nil ⟨rfl, ?_⟩
    refine fl_val 17 rfl (fun _ => (v_nil rfl)) rfl (by kernel_rfl) ?_
    refine fl_val 18 rfl (fun _ => (v_fa TF.f126_4 rfl)) rfl (by kernel_rfl) ?_
    refine fl_eff1 19 [17, 16, 15, 14, 12, 11, 10, 1] [] (by kernel_rfl) ⟨obl_ld rfl rfl rfl (v_load rfl (by first | exact st.reads (v := .int .i64 sl.fin) 0 rfl TF.t3 rfl | exact st.reads (v := .int .i64 sl.fin) 1 rfl TF.t3 rfl)), trivial⟩ rfl ?_
    refine wl_store1 (v := v58) 0 st rfl TF.t41 rfl rfl (row_one (st.at (i := 2) rfl)) (lt_ok rfl) ?_
    intro w st
    have st : St m0 m2 [] w0 w (logB g b sl v58 :: diskO b s n wv1 P1.1 :: lrE v58 (N ++ [(x, v56)]) :: Es) := st
    refine wl_nil ⟨rfl, ?_⟩
    refine fl_val 20 rfl (fun _ => (v_nil rfl)) rfl (by kernel_rfl) ?_
    refine fl_val 21 rfl (fun _ => (v_fa TF.f126_3 rfl)) rfl (by kernel_rfl) ?_
    refine fl_eff1 22 [20] [] (by kernel_rfl) trivial rfl ?_
    refine wl_store1 (v := .int .i64 ((sl.fin + recL x.length : Nat) : Int)) 0 st rfl TF.t3 rfl rfl rfl (lt_ok rfl) ?_
    intro w st
    have st : St m0 m2 [] w0 w (logB g b { sl with fin := sl.fin + recL x.length } v58 :: diskO b s n wv1 P1.1 :: lrE v58 (N ++ [(x, v56)]) :: Es) := st
    refine wl_nil ⟨rfl, ?_⟩
    refine fl_nil (by kernel_rfl) trivial ?_
    refine then_go ?_
    refine wc_seq ?_
    refine wc_region ?_
    refine wl_val (v_assign' (by conv => (lhs; whnf))) rfl ?_
    refine wl_nil ?_
    refine then_go ?_
    refine wc_ret ?_
    have hz := of_decide_eq_false h47
    have hfin : appD n d sl (N.map (·.1)) x = (P1.1, { sl with fin := sl.fin + recL x.length }, 0) := by unfold appD; rw [if_neg hc0, if_neg hfit, hd1, if_neg hz]
    refine ret1 (v := .int .i64 0) rfl ?_
    unfold LogOut
    rw [hfin]
    exact ⟨m2, wv1, v58, N ++ [(x, v56)], hmm2, rfl, hP.snoc hxv, fun y hy => (List.mem_append.1 hy).imp id fun hy => by rw [List.mem_singleton.1 hy]; exact hap, by rw [if_pos rfl, List.map_append]; rfl, st.perm p132⟩
def resD (n : Nat) (d : DS) (s : LG) (M : List By) : DS × LG × Int := if ∃ b ∈ M, checkE b ≠ 0 then (d, s, 1) else overD n d s M
theorem checkE_or (x : By) : checkE x = 0 ∨ checkE x = 1 := by
 unfold checkE
 split
 ·exact .inl rfl
 ·exact .inr rfl
theorem checkE_len {x : By} (h : ¬ checkE x ≠ 0) : 1 ≤ x.length ∧ x.length ≤ 1048576 := by
 unfold checkE at h
 split at h
 ·assumption
 ·exact (h (by decide)).elim
theorem c_restart {g b s n : Nat} {sl : LG} {lv wv nv : Value} {d : DS} {N M : List (By × Value)} (st : St m0 m [] w0 w (logB g b sl lv :: lrE lv N :: diskO b s n wv d :: Es)) (hr : Rdy n d 100000) (hP : Pcs m N) (hn8 : 8 ≤ n) (hsl : sl.half ≤ 1) (hM : PcsM m nv M) (hMn : M.length ≤ 1048576) :
  Ret Tryz.prog 78 #[.pointer (some ⟨g, 0, none⟩), nv] w fun v w' => LogOut m0 m w0 w' Es g b s n (resD n d sl (M.map (·.1))) N (N.map (·.1)) (M.map (·.1)) v := by
 obtain ⟨na, nc, hlv⟩ : ∃ a c, nv = .slice a M.length c := by obtain ⟨⟨_, a, c, h, _⟩, _⟩ := hM; exact ⟨a, c, h⟩
 subst hlv
 have hmm0 : ∀ k o, m k = some o → m k = some o := fun _ _ h => h
 refine ret_of Tryz.call78 Tryz.func78 rfl Tryz.ntmps78 Tryz.results78 rfl ?_
 refine wc_seq ?_
 refine wc_region ?_
 refine wl_val (v_assign' (by conv => (lhs; whnf))) rfl ?_
 refine wl_nil ?_
 refine then_go ?_
 refine wc_seq ?_
 refine wc_seq ?_
 refine wc_region ?_
 refine wl_val (v_move' (by conv => (lhs; whnf))) rfl ?_
 refine wl_val (v_len_s Tryz.underlying41 rfl) rfl ?_
 refine wl_val (v_move' (by conv => (lhs; whnf))) rfl ?_
 refine wl_nil ?_
 refine then_go ?_
 refine wc_block ?_
 refine wc_loop (S := Nat) (fun q r w' => ∃ (i : Nat), q + i = M.length ∧ r 0 = .pointer (some ⟨g, 0, none⟩) ∧ r 1 = .slice na M.length nc ∧ r 8 = .slice na M.length nc ∧ r 9 = .int .i64 M.length ∧ r 10 = .int .i64 i ∧ (∀ x ∈ M.take i, ¬ checkE x.1 ≠ 0) ∧ St m0 m [] w0 w' (logB g b sl lv :: lrE lv N :: diskO b s n wv d :: Es)) id M.length ⟨0, by omega, rfl, rfl, rfl, rfl, rfl, by simp, st⟩ ?_
 clear st
 rintro q r w2 ⟨i, hqi, g0, g1, g8, g9, g10, hck, st⟩
 refine wc_o 0 g0 (wc_o 1 g1 (wc_o 8 g8 (wc_o 9 g9 (wc_o 10 g10 ?_))))
 refine wc_seq ?_
 refine wc_region ?_
 refine wl_val (v_lss rfl rfl) rfl ?_
 refine wl_nil ?_
 refine then_go ?_
 refine wc_seq ?_
 refine wc_if rfl (fun h11 => ?_) (fun h11 => ?_)
 ·refine wc_skip ?_
  refine then_go ?_
  refine wc_seq ?_
  refine wc_block ?_
  refine wc_seq ?_
  have hi : i < M.length := by omega
  obtain ⟨nb, no, _, hnv, hsk, hrk⟩ := hM.elem hi
  cases hnv
  refine wc_region ?_
  refine wl_val (v_ias i Tryz.underlying41 TF.t23 rfl rfl (by first | rfl | omega) (by first | omega | (dsimp only at *; omega))) rfl ?_
  refine wl_val (v_load rfl (hrk st.im)) rfl ?_
  refine wl_val (v_assign' (by conv => (lhs; whnf))) rfl ?_
  refine wl_nil ?_
  refine then_go ?_
  refine wc_seq ?_
  refine wc_region ?_
  refine wl_val (v_move' (by conv => (lhs; whnf))) rfl ?_
  refine wl_call rfl (c_jcheck st.im hsk) rfl ?_
  rintro v15 w ⟨t15, rfl⟩
  have st := st.pure t15
  have hcq : (if 1 ≤ M[i].1.length ∧ M[i].1.length ≤ 1048576 then (0 : Int) else 1) = ((checkE M[i].1 : Nat) : Int) := by unfold checkE; split <;> rfl
  rw [hcq]
  refine wl_val (v_assign' (by conv => (lhs; whnf))) rfl ?_
  refine wl_nil ?_
  refine then_go ?_
  refine wc_seq ?_
  refine wc_region ?_
  refine wl_val (v_move' (by conv => (lhs; whnf))) rfl ?_
  refine wl_val (v_neq rfl rfl) rfl ?_
  refine wl_nil ?_
  refine then_go ?_
  refine wc_cond rfl (fun h17 => ?_) (fun h17 => ?_)
  ·refine wc_seq ?_
   refine wc_region ?_
   refine wl_val (v_move' (by conv => (lhs; whnf))) rfl ?_
   refine wl_val (v_assign' (by conv => (lhs; whnf))) rfl ?_
   refine wl_nil ?_
   refine then_go ?_
   refine wc_ret (block_ret (then_ret (then_ret (block_ret (then_ret ?_)))))
   have hz := of_decide_eq_true h17
   have h1 : checkE M[i].1 = 1 := (checkE_or _).resolve_left fun h => hz (by rw [h]; rfl)
   have hfin : resD n d sl (M.map (·.1)) = (d, sl, 1) := by unfold resD; rw [if_pos ⟨_, List.mem_map.2 ⟨_, List.getElem_mem hi, rfl⟩, by omega⟩]
   refine ret1 (v := .int .i64 1) (by rw [h1]; rfl) ?_
   unfold LogOut
   rw [hfin]
   exact ⟨m, wv, lv, N, hmm0, rfl, hP, .refl, by rw [if_neg (show ¬ (1 : Int) = 0 by decide)], st⟩
  ·refine wc_skip ?_
   refine block_go (then_go ?_)
   refine wc_region ?_
   refine wl_val (v_add' (c := ((i + 1 : Nat) : Int)) rfl rfl (by omega) (by omega) (by omega)) rfl ?_
   refine wl_val (v_move' (by conv => (lhs; whnf))) rfl ?_
   refine wl_nil ?_
   refine then_go ?_
   refine ⟨q - 1, by simp; omega, i + 1, by omega, rfl, rfl, rfl, rfl, rfl, fun x hx => ?_, st⟩
   rw [List.take_succ_eq_append_getElem hi] at hx
   rcases List.mem_append.1 hx with hx | hx
   ·exact hck x hx
   ·rw [List.mem_singleton.1 hx]
    exact fun h => of_decide_eq_false h17 (by omega)
 ·refine wc_exit (then_exit (then_exit (block_hit ?_)))
  refine then_go ?_
  refine wc_seq ?_
  refine wc_region ?_
  refine wl_val (v_move' (by conv => (lhs; whnf))) rfl ?_
  refine wl_val (v_move' (by conv => (lhs; whnf))) rfl ?_
  have hiN : i = M.length := by omega
  subst hiN
  rw [List.take_length] at hck
  have hfin : resD n d sl (M.map (·.1)) = overD n d sl (M.map (·.1)) := by
   unfold resD
   rw [if_neg]
   rintro ⟨x, hx, hz⟩
   obtain ⟨y, hy, rfl⟩ := List.mem_map.1 hx
   exact hck y hy hz
  have st := st.perm p132
  refine wl_call rfl (c_over st hr hn8 hsl hM (fun x hx => (checkE_len (hck x hx)).2) hMn) rfl ?_
  rintro v22 w ⟨m1, wv1, hmm1, rfl, hbad, hok⟩
  refine wl_val (v_assign' (by conv => (lhs; whnf))) rfl ?_
  refine wl_nil ?_
  refine then_go ?_
  refine wc_ret ?_
  refine ret1 rfl ?_
  unfold LogOut
  rw [hfin]
  by_cases hz : (overD n d sl (M.map (·.1))).2.2 = 0
  ·obtain ⟨lv', N', hP', hPn, hNN, st⟩ := hok hz
   refine ⟨m1, wv1, lv', N', hmm1, rfl, hP', fun y hy => .inr (hPn y hy), by rw [if_pos hz]; exact hNN, ?_⟩
   exact (st.perm (List.perm_middle (l₁ := [_, _, _]))).drop 0
  ·obtain ⟨hs, st⟩ := hbad hz
   refine ⟨m1, wv1, lv, N, hmm1, rfl, hP.mono hmm1, .refl, by rw [if_neg hz], ?_⟩
   rw [hs]
   exact st.perm p132
abbrev rowsE (A : List (By × Value)) : List Ent := (A.map fun x => byE x.2 x.1).reverse
theorem rows_freeze : ∀ {A : List (By × Value)} {m : Mem} {Es : List Ent}, St m0 m [] w0 w (rowsE A ++ Es) → ∃ m', (∀ k o, m k = some o → m' k = some o) ∧ Pcs m' A ∧ St m0 m' [] w0 w Es := by
 intro A
 induction h : A.length generalizing A with
 | zero =>
  intro m Es st
  have := List.eq_nil_of_length_eq_zero h
  subst this
  exact ⟨m, fun _ _ h => h, (by intro x hx; cases hx), st⟩
 | succ k ih =>
  intro m Es st
  have hne : A ≠ [] := by intro e; subst e; simp at h
  obtain ⟨B, x, rfl⟩ : ∃ B x, A = B ++ [x] := ⟨A.dropLast, A.getLast hne, (List.dropLast_concat_getLast hne).symm⟩
  have e : rowsE (B ++ [x]) ++ Es = byE x.2 x.1 :: (rowsE B ++ Es) := by simp [rowsE]
  rw [e] at st
  obtain ⟨m1, hg1, hm1, st1⟩ := st.freezeR (i := 0) rfl (by simp)
  have hx : SlM m1 x.2 1 x.1.length (bs x.1) := row_SlM (m := m1) (st.at (i := 0) rfl) hm1
  obtain ⟨m2, h2, hP, st2⟩ := ih (A := B) (by simpa using h) (show St m0 m1 [] w0 w (rowsE B ++ Es) from st1)
  exact ⟨m2, fun k o h => h2 k o (hg1.le k o h), hP.snoc (hx.mono h2), st2⟩
theorem c_logAll {g b : Nat} {sl : LG} {lv : Value} {N : List (By × Value)} (st : St m0 m F w0 w (logB g b sl lv :: lrE lv N :: Es)) (hP : Pcs m N) (hNl : ∀ x ∈ N, x.1.length ≤ 1048576) (hNn : N.length ≤ 1048576) :
  Ret Tryz.prog 61 #[.pointer (some ⟨g, 0, none⟩)] w fun v w' => ∃ A, A.map (·.1) = N.map (·.1) ∧ St m0 m F w0 w' (lrE v A :: (rowsE A ++ logB g b sl lv :: lrE lv N :: Es)) := by
 obtain ⟨la, lc, hlv⟩ := row_sl (st.at (i := 1) rfl)
 subst hlv
 refine ret_of Tryz.call61 Tryz.func61 rfl Tryz.ntmps61 Tryz.results61 rfl ?_
 refine wc_seq ?_
 refine wc_region ?_
 refine wl_val (v_assign' (by conv => (lhs; whnf))) rfl ?_
 refine wl_nil ?_
 refine then_go ?_
 refine wc_seq ?_
 refine wc_region ?_
 refine wl_val (v_assign' (by conv => (lhs; whnf))) rfl ?_
 refine wl_nil ?_
 refine then_go ?_
 refine wc_seq ?_
 refine wc_seq ?_
 refine wc_region ?_
 refine wl_val (v_move' (by conv => (lhs; whnf))) rfl ?_
 refine wl_val (v_nil rfl) rfl ?_
 refine wl_val (v_fa TF.f126_4 rfl) rfl ?_
 refine wl_val (v_load rfl (st.reads (v := .slice la N.length lc) 0 rfl TF.t41 rfl)) rfl ?_
 refine wl_val (v_len_s Tryz.underlying41 rfl) rfl ?_
 refine wl_val (v_move' (by conv => (lhs; whnf))) rfl ?_
 refine wl_nil ?_
 refine then_go ?_
 refine wc_block ?_
 have st := nilRow st 23 1
 refine wc_loop (S := Nat) (fun q r w' => ∃ (i : Nat) (v : Value) (A : List (By × Value)), q + i = N.length ∧ r 3 = v ∧ r 9 = .slice la N.length lc ∧ r 10 = .int .i64 N.length ∧ r 11 = .int .i64 i ∧ A.map (·.1) = (N.take i).map (·.1) ∧ St m0 m F w0 w' (lrE v A :: (rowsE A ++ logB g b sl (.slice la N.length lc) :: lrE (.slice la N.length lc) N :: Es))) id N.length ⟨0, _, [], by omega, rfl, rfl, rfl, rfl, rfl, st⟩ ?_
 clear st
 rintro q r w2 ⟨i, v, A, hqi, g3, g9, g10, g11, hA, st⟩
 refine wc_o 3 g3 (wc_o 9 g9 (wc_o 10 g10 (wc_o 11 g11 ?_)))
 refine wc_seq ?_
 refine wc_region ?_
 refine wl_val (v_lss rfl rfl) rfl ?_
 refine wl_nil ?_
 refine then_go ?_
 refine wc_seq ?_
 refine wc_if rfl (fun h12 => ?_) (fun h12 => ?_)
 ·refine wc_skip ?_
  refine then_go ?_
  refine wc_seq ?_
  refine wc_block ?_
  refine wc_seq ?_
  have hi : i < N.length := by omega
  have hAl : A.length = i := by have := congrArg List.length hA; rw [List.length_map, List.length_map, List.length_take] at this; omega
  have hidx : (lrE v A :: (rowsE A ++ logB g b sl (.slice la N.length lc) :: lrE (.slice la N.length lc) N :: Es))[A.length + 2]? = some (lrE (.slice la N.length lc) N) := by
   rw [List.getElem?_cons_succ, List.getElem?_append_right (by simp)]
   simp
  obtain ⟨nb, no, _, hnv, hsk, hrk⟩ := (lr_PcsM st (A.length + 2) hidx hP).elem hi
  cases hnv
  have hxl := hNl _ (List.getElem_mem hi)
  have hsk := hP _ (List.getElem_mem hi)
  refine wc_region ?_
  refine wl_val (v_ias i Tryz.underlying41 TF.t23 rfl rfl (by first | rfl | omega) (by first | omega | (dsimp only at *; omega))) rfl ?_
  refine wl_val (v_load rfl (hrk (im_heapM _))) rfl ?_
  refine wl_val (v_assign' (by conv => (lhs; whnf))) rfl ?_
  refine wl_nil ?_
  refine then_go ?_
  refine wc_region ?_
  refine wl_val (v_move' (by conv => (lhs; whnf))) rfl ?_
  refine wl_val (v_move' (by conv => (lhs; whnf))) rfl ?_
  refine wl_call rfl (c_bcloneR st hsk (by omega)) rfl ?_
  intro v17 w st
  refine wl_svOne (v := v17) Tryz.underlying41 TF.t23 TF.z23 (byE_one st 0 rfl) rfl st rfl ?_
  intro b18 w st
  refine wl_lrApp (x := N[i].1) 1 st rfl (byE_one st 1 rfl) rfl rfl (by omega) rfl ?_
  intro v19 w st
  have st : St m0 m F w0 w (lrE v19 (A ++ [(N[i].1, v17)]) :: (rowsE (A ++ [(N[i].1, v17)]) ++ logB g b sl (.slice (some ⟨nb, no, none⟩) N.length lc) :: lrE (.slice (some ⟨nb, no, none⟩) N.length lc) N :: Es)) := by
   have e : rowsE (A ++ [(N[i].1, v17)]) = byE v17 N[i].1 :: rowsE A := by simp [rowsE]
   rw [e]
   exact st.perm (List.Perm.swap _ _ _)
  refine wl_val (v_assign' (by conv => (lhs; whnf))) rfl ?_
  refine wl_nil ?_
  refine block_go (then_go ?_)
  refine wc_region ?_
  refine wl_val (v_add' (c := ((i + 1 : Nat) : Int)) rfl rfl (by omega) (by omega) (by omega)) rfl ?_
  refine wl_val (v_move' (by conv => (lhs; whnf))) rfl ?_
  refine wl_nil ?_
  refine then_go ?_
  refine ⟨q - 1, by simp; omega, i + 1, v19, A ++ [(N[i].1, v17)], by omega, rfl, rfl, rfl, rfl, ?_, st⟩
  rw [List.map_append, hA, List.take_succ_eq_append_getElem hi, List.map_append]
  rfl
 ·refine wc_exit (then_exit (then_exit (block_hit ?_)))
  refine then_go ?_
  refine wc_seq ?_
  refine wc_region ?_
  refine wl_val (v_move' (by conv => (lhs; whnf))) rfl ?_
  refine wl_val (v_assign' (by conv => (lhs; whnf))) rfl ?_
  refine wl_nil ?_
  refine then_go ?_
  refine wc_ret ?_
  have hiN : i = N.length := by omega
  subst hiN
  rw [List.take_length] at hA
  exact ret1 rfl ⟨A, hA, st⟩
end
end Go.Proofs.YtladpaehbolghaaGreat

namespace Go.Proofs.YtladpaehbolghaaGreat
open Go Go.RowKit K SH DK JR
namespace JR
theorem splice_get {S l : By} {o i : Nat} (h : o + l.length ≤ S.length) : (splice S o l)[i]? = if i < o then S[i]? else if i < o + l.length then l[i - o]? else S[i]? := by
 unfold splice
 have h1 : (S.take o).length = o := by rw [List.length_take]; omega
 by_cases a : i < o
 ·rw [if_pos a, List.append_assoc, List.getElem?_append_left (by omega), List.getElem?_take_of_lt a]
 ·rw [if_neg a]
  by_cases c : i < o + l.length
  ·rw [if_pos c, List.getElem?_append_left (by rw [List.length_append]; omega), List.getElem?_append_right (by omega), h1]
  ·rw [if_neg c, List.getElem?_append_right (by rw [List.length_append]; omega), List.length_append, h1, List.getElem?_drop]
   congr 1
   omega
theorem halfB_get {b : By} {n k i : Nat} : (halfB b n k)[i]? = if i < n then b[k * n + i]? else none := by
 unfold halfB
 rw [List.getElem?_take]
 split
 ·rw [List.getElem?_drop]
 ·rfl
theorem halfB_len {b : By} {n k : Nat} (hk : k ≤ 1) (h : 2 * n ≤ b.length) : (halfB b n k).length = n := by
 unfold halfB
 rw [List.length_take, List.length_drop]
 rcases Nat.le_one_iff_eq_zero_or_eq_one.1 hk with h | h <;> subst h <;> omega
theorem half_other {S l : By} {H k a : Nat} (hk : k ≤ 1) (h : 2 * H ≤ S.length) (ha : a + l.length ≤ H) : halfB (splice S (k * H + a) l) H (1 - k) = halfB S H (1 - k) := by
 apply List.ext_getElem?
 intro i
 rw [halfB_get, halfB_get]
 split
 ·rcases Nat.le_one_iff_eq_zero_or_eq_one.1 hk with hk | hk <;> subst hk
  ·rw [splice_get (by omega), if_neg (by omega), if_neg (by omega)]
  ·rw [splice_get (by omega), if_pos (by omega)]
 ·rfl
theorem half_same {S l : By} {H k a : Nat} (hk : k ≤ 1) (h : 2 * H ≤ S.length) (ha : a + l.length ≤ H) : halfB (splice S (k * H + a) l) H k = splice (halfB S H k) a l := by
 have hkl : k * H ≤ H := by rcases Nat.le_one_iff_eq_zero_or_eq_one.1 hk with hk | hk <;> subst hk <;> omega
 apply List.ext_getElem?
 intro i
 have e : (splice (halfB S H k) a l)[i]? = if i < a then (halfB S H k)[i]? else if i < a + l.length then l[i - a]? else (halfB S H k)[i]? := splice_get (by rw [halfB_len hk h]; exact ha)
 rw [e, halfB_get, halfB_get, splice_get (by omega)]
 by_cases c : i < H
 ·simp only [if_pos c]
  by_cases c1 : i < a
  ·rw [if_pos c1, if_pos (by omega)]
  ·rw [if_neg c1, if_neg (by omega)]
   by_cases c2 : i < a + l.length
   ·rw [if_pos c2, if_pos (by omega)]; congr 1; omega
   ·rw [if_neg c2, if_neg (by omega)]
 ·rw [if_neg c, if_neg (by omega), if_neg (by omega), if_neg c]
structure LogOk (n : Nat) (S : By) (s : LG) (L : List By) : Prop where
 len : S.length = 64 * n
 n8 : 8 ≤ n
 nle : n ≤ 16384
 half : s.half ≤ 1
 fin : s.fin = 64 + sizeL L
 fit : 64 + sizeL L ≤ n / 2 * 64
 here : halfB S (n / 2 * 64) s.half = headB s.gen ++ (allB s.gen 0 L ++ List.replicate (n / 2 * 64 - 64 - sizeL L) 0)
 gen : 0 < s.gen.toNat
 other : (begF (halfB S (n / 2 * 64) (1 - s.half))).toNat < s.gen.toNat + (1 - s.half)
 okr : Okr L
theorem nextF_zeros {g s : UInt64} {k : Nat} : nextF g s (List.replicate k 0) = none := nextF_zero (by rw [List.drop_replicate, rd8_zero]; rfl)
section
variable {n : Nat} {S : By} {s : LG} {L : List By}
theorem LogOk.pick (h : LogOk n S s L) : pickF S (n / 2 * 64) = (s.half, s.gen) := by
 have hb : begF (halfB S (n / 2 * 64) s.half) = s.gen := by rw [h.here]; exact begF_head h.gen
 have ho := h.other
 unfold pickF
 rcases Nat.le_one_iff_eq_zero_or_eq_one.1 h.half with hk | hk
 ·rw [hk] at hb ho ⊢
  have ho : (begF (halfB S (n / 2 * 64) 1)).toNat < s.gen.toNat + 1 := ho
  rw [hb, if_neg]
  intro hlt
  have := UInt64.lt_iff_toNat_lt.1 hlt
  omega
 ·rw [hk] at hb ho ⊢
  have ho : (begF (halfB S (n / 2 * 64) 0)).toNat < s.gen.toNat := ho
  rw [hb, if_pos (UInt64.lt_iff_toNat_lt.2 ho)]
theorem okr_small {L : List By} (h : Okr L) : ∀ x ∈ L, 1 ≤ x.length ∧ x.length < 18446744073709551616 := fun x hx => ⟨(h x hx).1, by have := (h x hx).2; omega⟩
theorem recs_here {H : By} {g : UInt64} {L : List By} {k : Nat} (h : H = headB g ++ (allB g 0 L ++ List.replicate k 0)) (ho : Okr L) : recs g H = L := by
 unfold recs
 have e : H.drop 64 = allB g 0 L ++ List.replicate k 0 := by rw [h]; exact List.drop_left' (length_headB g)
 rw [e]
 refine recs_all (okr_small ho) nextF_zeros ?_
 rw [h, List.length_append, List.length_append, length_allB]
 have := sizeL_ge (l := L)
 omega
theorem LogOk.recs (h : LogOk n S s L) : recs s.gen (halfB S (n / 2 * 64) s.half) = L := recs_here h.here h.okr
theorem hlf_eq {n : Nat} : 64 * n / 64 / 2 * 64 = n / 2 * 64 := by omega
theorem LogOk.read (h : LogOk n S s L) : readF S = (s.gen, L, 0) := by
 have hn := h.n8
 unfold readF
 rw [h.len, hlf_eq, if_neg (by omega), h.pick]
 show (if s.gen = 0 then _ else _) = _
 rw [if_neg (fun e => by have := h.gen; rw [e] at this; exact absurd this (by decide)), h.recs]
theorem LogOk.app (h : LogOk n S s L) {x : By} : ∃ S' s', appD n (calm S) s L x = (calm S', s', ((appR L x n : Nat) : Int)) ∧ LogOk n S' s' (if appR L x n = 0 then L ++ [x] else L) ∧ s'.gen = s.gen ∧ s'.half = s.half := by
 have hn := h.n8
 have hfit := h.fit
 have hfin := h.fin
 by_cases hc : checkE x ≠ 0
 ·have hR : appR L x n = 1 := by unfold appR; rw [if_pos hc]
  rw [hR]
  exact ⟨S, s, by unfold appD; rw [if_pos hc]; rfl, by rw [if_neg (by decide)]; exact h, rfl, rfl⟩
 ·by_cases hf : n / 2 * 64 < s.fin + recL x.length
  ·have hR : appR L x n = 13 := by unfold appR; rw [if_neg hc, sizeL_snoc, if_neg (by omega)]
   rw [hR]
   exact ⟨S, s, by unfold appD; rw [if_neg hc, if_pos hf]; rfl, by rw [if_neg (by decide)]; exact h, rfl, rfl⟩
  ·have hR : appR L x n = 0 := by unfold appR; rw [if_neg hc, sizeL_snoc, if_pos (by omega)]
   rw [hR]
   have hrl := length_recB s.gen (UInt64.ofNat L.length) x
   have hk := h.half
   have hmod := sizeL_mod (l := L)
   have hpos : 64 * ((s.half * (n / 2 * 64) + s.fin) / 64) = s.half * (n / 2 * 64) + s.fin := by rcases Nat.le_one_iff_eq_zero_or_eq_one.1 hk with hk | hk <;> rw [hk] <;> omega
   have hle : s.half * (n / 2 * 64) ≤ n / 2 * 64 := by rcases Nat.le_one_iff_eq_zero_or_eq_one.1 hk with hk | hk <;> rw [hk] <;> omega
   have h2 : 2 * (n / 2 * 64) ≤ S.length := by rw [h.len]; omega
   have hput : putD n (calm S) ((s.half * (n / 2 * 64) + s.fin) / 64) (recB s.gen (UInt64.ofNat L.length) x) = (calm (splice S (s.half * (n / 2 * 64) + s.fin) (recB s.gen (UInt64.ofNat L.length) x)), 0) := by
    rw [put_calm h.len (by rw [hrl]; unfold recL; omega) (by rw [hpos, hrl]; omega), hpos]
   refine ⟨splice S (s.half * (n / 2 * 64) + s.fin) (recB s.gen (UInt64.ofNat L.length) x), { s with fin := s.fin + recL x.length }, by unfold appD; rw [if_neg hc, if_neg hf, hput, if_neg (by simp)]; rfl, ?_, rfl, rfl⟩
   rw [if_pos rfl]
   have hz : n / 2 * 64 - 64 - sizeL L = recL x.length + (n / 2 * 64 - 64 - sizeL (L ++ [x])) := by rw [sizeL_snoc]; omega
   refine ⟨by rw [length_splice (by rw [hrl, h.len]; omega)]; exact h.len, hn, h.nle, hk, by rw [sizeL_snoc]; show s.fin + recL x.length = _; omega, by rw [sizeL_snoc]; omega, ?_, h.gen, ?_, ?_⟩
   ·show halfB (splice S (s.half * (n / 2 * 64) + s.fin) _) _ s.half = _
    rw [half_same hk h2 (by rw [hrl]; omega), h.here, hz, ← List.replicate_append_replicate]
    have hl : (headB s.gen ++ allB s.gen 0 L).length = s.fin := by rw [List.length_append, length_headB, length_allB]; omega
    unfold splice
    rw [← List.append_assoc (headB s.gen), ← List.append_assoc (headB s.gen ++ allB s.gen 0 L)]
    rw [List.append_assoc (headB s.gen ++ allB s.gen 0 L), List.take_left' hl, ← List.append_assoc (headB s.gen ++ allB s.gen 0 L)]
    rw [List.drop_left' (by rw [List.length_append, hl, List.length_replicate, hrl])]
    rw [allB_snoc, Nat.zero_add, List.append_assoc, List.append_assoc, List.append_assoc]
   ·show (begF (halfB (splice S (s.half * (n / 2 * 64) + s.fin) _) _ (1 - s.half))).toNat < s.gen.toNat + (1 - s.half)
    rw [half_other hk h2 (by rw [hrl]; omega)]
    exact h.other
   ·intro y hy
    rcases List.mem_append.1 hy with hy | hy
    ·exact h.okr y hy
    ·rw [List.mem_singleton.1 hy]; exact checkE_len hc
theorem over_ok (hl : S.length = 64 * n) (hn : 8 ≤ n) (hn2 : n ≤ 16384) (hk : s.half ≤ 1) (hg : (begF (halfB S (n / 2 * 64) s.half)).toNat ≤ s.gen.toNat) (hg2 : s.gen.toNat + 1 < 18446744073709551616) (ho : Okr L) :
  (sizeL L ≤ n / 2 * 64 - 64 → ∃ S', overD n (calm S) s L = (calm S', ⟨1 - s.half, s.gen + 1, 64 + sizeL L⟩, 0) ∧ LogOk n S' ⟨1 - s.half, s.gen + 1, 64 + sizeL L⟩ L) ∧ (¬ sizeL L ≤ n / 2 * 64 - 64 → overD n (calm S) s L = (calm S, s, 13)) := by
 refine ⟨fun hf => ?_, fun hf => by unfold overD; rw [if_pos (by omega)]⟩
 obtain ⟨hh, hhe⟩ : ∃ hh, hh = 1 - s.half := ⟨_, rfl⟩
 obtain ⟨H, hH⟩ : ∃ H, H = n / 2 * 64 := ⟨_, rfl⟩
 have hh1 : hh ≤ 1 := by omega
 have hback : 1 - hh = s.half := by omega
 have h64 : 64 * (hh * (n / 2)) = hh * H := by rcases Nat.le_one_iff_eq_zero_or_eq_one.1 hh1 with h | h <;> rw [h] <;> omega
 have h65 : 64 * (hh * (n / 2) + 1) = hh * H + 64 := by omega
 have hle : hh * H ≤ H := by rcases Nat.le_one_iff_eq_zero_or_eq_one.1 hh1 with h | h <;> rw [h] <;> omega
 have hmod := sizeL_mod (l := L)
 obtain ⟨Z, hZ⟩ : ∃ Z : By, Z = List.replicate H 0 := ⟨_, rfl⟩
 have hZl : Z.length = H := by rw [hZ, List.length_replicate]
 obtain ⟨B, hB⟩ : ∃ B, B = allB (s.gen + 1) 0 L := ⟨_, rfl⟩
 have hBl : B.length = sizeL L := by rw [hB, length_allB]
 obtain ⟨D, hD⟩ : ∃ D, D = headB (s.gen + 1) := ⟨_, rfl⟩
 have hDl : D.length = 64 := by rw [hD, length_headB]
 have p1 : putD n (calm S) (hh * (n / 2)) Z = (calm (splice S (hh * H + 0) Z), 0) := by rw [put_calm hl (by omega) (by omega), h64, Nat.add_zero]
 have l1 : (splice S (hh * H + 0) Z).length = 64 * n := by rw [length_splice (by omega)]; exact hl
 have p2 : putD n (calm (splice S (hh * H + 0) Z)) (hh * (n / 2) + 1) B = (calm (splice (splice S (hh * H + 0) Z) (hh * H + 64) B), 0) := by rw [put_calm l1 (by omega) (by omega), h65]
 have l2 : (splice (splice S (hh * H + 0) Z) (hh * H + 64) B).length = 64 * n := by rw [length_splice (by omega)]; exact l1
 have p3 : putD n (calm (splice (splice S (hh * H + 0) Z) (hh * H + 64) B)) (hh * (n / 2)) D = (calm (splice (splice (splice S (hh * H + 0) Z) (hh * H + 64) B) (hh * H + 0) D), 0) := by rw [put_calm l2 (by omega) (by omega), h64, Nat.add_zero]
 have hov : overD n (calm S) s L = (calm (splice (splice (splice S (hh * H + 0) Z) (hh * H + 64) B) (hh * H + 0) D), ⟨hh, s.gen + 1, 64 + sizeL L⟩, 0) := by
  unfold overD
  rw [← hhe, ← hH, ← hZ, ← hB, ← hD, if_neg (by omega)]
  simp only [p1, p2, p3]
  rfl
 refine ⟨_, by rw [← hhe]; exact hov, ?_⟩
 rw [← hhe]
 have hgs : (s.gen + 1).toNat = s.gen.toNat + 1 := by rw [UInt64.toNat_add]; show (s.gen.toNat + 1) % 18446744073709551616 = _; omega
 refine ⟨by rw [length_splice (by omega)]; exact l2, hn, hn2, hh1, rfl, by omega, ?_, by show 0 < (s.gen + 1).toNat; omega, ?_, ho⟩
 ·show halfB _ (n / 2 * 64) hh = _
  rw [← hH, half_same hh1 (by omega) (by omega), half_same hh1 (by omega) (by omega), half_same hh1 (by omega) (by omega)]
  have hs := halfB_len (b := S) hh1 (show 2 * H ≤ S.length by omega)
  have e1 : splice (halfB S H hh) 0 Z = Z := by
   unfold splice
   rw [List.drop_of_length_le (by omega)]
   simp
  rw [e1]
  have e2 : splice Z 64 B = List.replicate 64 0 ++ (B ++ List.replicate (H - 64 - sizeL L) 0) := by
   unfold splice
   rw [hZ, List.take_replicate, List.drop_replicate, Nat.min_eq_left (by omega), List.append_assoc, hBl]
   congr 3
   omega
  rw [e2]
  unfold splice
  rw [Nat.zero_add, List.drop_left' (by rw [List.length_replicate, hDl]), List.take_zero, List.nil_append, hD, hB]
 ·show (begF (halfB _ (n / 2 * 64) (1 - hh))).toNat < (s.gen + 1).toNat + (1 - hh)
  rw [← hH, half_other hh1 (by omega) (by omega), half_other hh1 (by omega) (by omega), half_other hh1 (by omega) (by omega), hback, hH]
  omega
theorem LogOk.res (h : LogOk n S s L) (hg2 : s.gen.toNat + 1 < 18446744073709551616) {M : List By} : ∃ S' s', resD n (calm S) s M = (calm S', s', ((resR M n : Nat) : Int)) ∧ LogOk n S' s' (if resR M n = 0 then M else L) ∧ s'.gen = (if resR M n = 0 then s.gen + 1 else s.gen) := by
 unfold resD resR
 by_cases hb : ∃ b ∈ M, checkE b ≠ 0
 ·rw [if_pos hb, if_pos hb]
  exact ⟨S, s, rfl, by rw [if_neg (by decide)]; exact h, by rw [if_neg (by decide)]⟩
 ·rw [if_neg hb, if_neg hb]
  have ho : Okr M := fun x hx => checkE_len fun hz => hb ⟨x, hx, hz⟩
  have hbe : begF (halfB S (n / 2 * 64) s.half) = s.gen := by rw [h.here]; exact begF_head h.gen
  obtain ⟨o1, o2⟩ := over_ok (L := M) h.len h.n8 h.nle h.half (by rw [hbe]; exact Nat.le_refl _) hg2 ho
  by_cases hf : sizeL M ≤ n / 2 * 64 - 64
  ·obtain ⟨S', h1, h2⟩ := o1 hf
   rw [if_pos hf]
   exact ⟨S', _, h1, by rw [if_pos rfl]; exact h2, by rw [if_pos rfl]⟩
  ·rw [if_neg hf]
   exact ⟨S, s, o2 hf, by rw [if_neg (by decide)]; exact h, by rw [if_neg (by decide)]⟩
def openD (n : Nat) (S : By) : DS × LG × List By × Int :=
  if (pickF S (n / 2 * 64)).2 = 0 then ((overD n (calm S) ⟨1, 0, 0⟩ []).1, (overD n (calm S) ⟨1, 0, 0⟩ []).2.1, [], (overD n (calm S) ⟨1, 0, 0⟩ []).2.2) else
  if ∃ c ∈ (halfB S (n / 2 * 64) (pickF S (n / 2 * 64)).1).drop (64 + sizeL (JR.recs (pickF S (n / 2 * 64)).2 (halfB S (n / 2 * 64) (pickF S (n / 2 * 64)).1))), c ≠ 0 then
    ((overD n (calm S) ⟨(pickF S (n / 2 * 64)).1, (pickF S (n / 2 * 64)).2, 64 + sizeL (JR.recs (pickF S (n / 2 * 64)).2 (halfB S (n / 2 * 64) (pickF S (n / 2 * 64)).1))⟩ (JR.recs (pickF S (n / 2 * 64)).2 (halfB S (n / 2 * 64) (pickF S (n / 2 * 64)).1))).1,
     (overD n (calm S) ⟨(pickF S (n / 2 * 64)).1, (pickF S (n / 2 * 64)).2, 64 + sizeL (JR.recs (pickF S (n / 2 * 64)).2 (halfB S (n / 2 * 64) (pickF S (n / 2 * 64)).1))⟩ (JR.recs (pickF S (n / 2 * 64)).2 (halfB S (n / 2 * 64) (pickF S (n / 2 * 64)).1))).2.1,
     JR.recs (pickF S (n / 2 * 64)).2 (halfB S (n / 2 * 64) (pickF S (n / 2 * 64)).1),
     (overD n (calm S) ⟨(pickF S (n / 2 * 64)).1, (pickF S (n / 2 * 64)).2, 64 + sizeL (JR.recs (pickF S (n / 2 * 64)).2 (halfB S (n / 2 * 64) (pickF S (n / 2 * 64)).1))⟩ (JR.recs (pickF S (n / 2 * 64)).2 (halfB S (n / 2 * 64) (pickF S (n / 2 * 64)).1))).2.2)
  else (calm S, ⟨(pickF S (n / 2 * 64)).1, (pickF S (n / 2 * 64)).2, 64 + sizeL (JR.recs (pickF S (n / 2 * 64)).2 (halfB S (n / 2 * 64) (pickF S (n / 2 * 64)).1))⟩, JR.recs (pickF S (n / 2 * 64)).2 (halfB S (n / 2 * 64) (pickF S (n / 2 * 64)).1), 0)
theorem pick_le {H : Nat} : (begF (halfB S H (1 - (pickF S H).1))).toNat ≤ (pickF S H).2.toNat ∧ begF (halfB S H (pickF S H).1) = (pickF S H).2 ∧ ((pickF S H).1 = 1 → (begF (halfB S H 0)).toNat < (pickF S H).2.toNat) := by
 unfold pickF
 split
 ·rename_i h
  have := UInt64.lt_iff_toNat_lt.1 h
  exact ⟨Nat.le_of_lt this, rfl, fun _ => this⟩
 ·rename_i h
  refine ⟨?_, rfl, fun h => by cases h⟩
  rcases Nat.lt_or_ge (begF (halfB S H 0)).toNat (begF (halfB S H 1)).toNat with h' | h'
  ·exact (h (UInt64.lt_iff_toNat_lt.2 h')).elim
  ·exact h'
theorem open_ok (hl : S.length = 64 * n) (hn : 8 ≤ n) (hn2 : n ≤ 16384) (hg : (pickF S (n / 2 * 64)).2.toNat + 1 < 18446744073709551616) :
  ∃ S' s' L, openD n S = (calm S', s', L, 0) ∧ LogOk n S' s' L ∧ (readF S).2.1 = L ∧ (s'.gen = (readF S).1 ∨ s'.gen = (readF S).1 + 1) ∧ s'.gen.toNat ≤ (pickF S (n / 2 * 64)).2.toNat + 1 := by
 obtain ⟨H, hH⟩ : ∃ H, H = n / 2 * 64 := ⟨_, rfl⟩
 have hrd : readF S = if (pickF S H).2 = 0 then (0, [], 0) else ((pickF S H).2, JR.recs (pickF S H).2 (halfB S H (pickF S H).1), 0) := by
  unfold readF
  rw [hl, hlf_eq, ← hH, if_neg (by omega)]
 rw [← hH] at hg
 rw [hrd, ← hH]
 obtain ⟨q1, q2, q3⟩ := pick_le (S := S) (H := H)
 have hk := pickF_le (b := S) (n := H)
 unfold openD
 rw [← hH]
 obtain ⟨k, hke⟩ : ∃ k, k = (pickF S H).1 := ⟨_, rfl⟩
 obtain ⟨g, hge⟩ : ∃ g, g = (pickF S H).2 := ⟨_, rfl⟩
 rw [← hke, ← hge] at q1 q2 q3 ⊢
 rw [← hge] at hg
 rw [← hke] at hk
 by_cases hg0 : g = 0
 ·rw [if_pos hg0, if_pos hg0]
  have hb1 : (begF (halfB S H 1)).toNat ≤ 0 := by
   rw [hg0] at q1 q2
   rcases Nat.le_one_iff_eq_zero_or_eq_one.1 hk with h | h
   ·rw [h] at q1; exact q1
   ·rw [h] at q2; rw [q2]; exact Nat.le_refl _
  obtain ⟨o1, _⟩ := over_ok (n := n) (S := S) (s := ⟨1, 0, 0⟩) (L := []) hl hn hn2 (Nat.le_refl _) (by rw [← hH]; exact hb1) (by decide) (by intro x hx; cases hx)
  obtain ⟨S', h1, h2⟩ := o1 (Nat.zero_le _)
  rw [h1]
  exact ⟨S', _, [], rfl, h2, rfl, .inr rfl, by rw [hg0]; exact Nat.le_refl _⟩
 ·rw [if_neg hg0, if_neg hg0]
  have hgp : 0 < g.toNat := by
   rcases Nat.eq_zero_or_pos g.toNat with h | h
   ·exact (hg0 (UInt64.toNat_inj.1 h)).elim
   ·exact h
  obtain ⟨half, hhf⟩ : ∃ half, half = halfB S H k := ⟨_, rfl⟩
  have hhl : half.length = H := by rw [hhf]; exact halfB_len hk (by omega)
  rw [← hhf] at q2 ⊢
  obtain ⟨r1, r2, r3, r4⟩ := recs_there (g := g) (f := half.length) (k := 0) (b := half.drop 64) (by rw [List.length_drop]; omega)
  have hrl : recsF g half.length 0 (half.drop 64) = JR.recs g half := rfl
  rw [hrl] at r1 r2 r3 r4
  rw [List.length_drop] at r1 r4
  obtain ⟨L, hL⟩ : ∃ L, L = JR.recs g half := ⟨_, rfl⟩
  rw [← hL] at r1 r2 r3 r4 ⊢
  have ho : Okr L := fun x hx => ⟨(r4 x hx).1, by have := (r4 x hx).2; omega⟩
  have hmod := sizeL_mod (l := L)
  by_cases hnz : ∃ c ∈ half.drop (64 + sizeL L), c ≠ 0
  ·rw [if_pos hnz]
   obtain ⟨o1, _⟩ := over_ok (n := n) (S := S) (s := ⟨k, g, 64 + sizeL L⟩) (L := L) hl hn hn2 hk (by rw [← hH, ← hhf, q2]; exact Nat.le_refl _) hg ho
   obtain ⟨S', h1, h2⟩ := o1 (by omega)
   rw [h1]
   exact ⟨S', _, L, rfl, h2, rfl, .inr rfl, by show (g + 1).toNat ≤ _; rw [UInt64.toNat_add]; show (g.toNat + 1) % 18446744073709551616 ≤ _; omega⟩
  ·rw [if_neg hnz]
   refine ⟨S, _, L, rfl, ⟨hl, hn, hn2, hk, rfl, by omega, ?_, hgp, ?_, ho⟩, rfl, .inl rfl, Nat.le_succ _⟩
   ·show halfB S (n / 2 * 64) k = headB g ++ (allB g 0 L ++ List.replicate (n / 2 * 64 - 64 - sizeL L) 0)
    rw [← hH, ← hhf, ← begF_is q2 hgp, ← r2]
    have hz : half.drop (64 + sizeL L) = List.replicate (H - 64 - sizeL L) 0 := by
     rw [List.eq_replicate_iff]
     refine ⟨by rw [List.length_drop]; omega, fun c hc => ?_⟩
     by_cases hc0 : c = 0
     ·exact hc0
     ·exact (hnz ⟨c, hc, hc0⟩).elim
    rw [← hz, ← List.drop_drop, List.take_append_drop, List.take_append_drop]
   ·show (begF (halfB S (n / 2 * 64) (1 - k))).toNat < g.toNat + (1 - k)
    rw [← hH]
    rcases Nat.le_one_iff_eq_zero_or_eq_one.1 hk with h | h
    ·rw [h] at q1 ⊢; omega
    ·rw [h]; exact q3 h
theorem LogOk.opens (h : LogOk n S s L) : openD n S = (calm S, s, L, 0) := by
 have hp := h.pick
 have hr := h.recs
 unfold openD
 rw [hp]
 show (if s.gen = 0 then _ else if ∃ c ∈ (halfB S (n / 2 * 64) s.half).drop (64 + sizeL (JR.recs s.gen (halfB S (n / 2 * 64) s.half))), c ≠ 0 then _ else (calm S, (⟨s.half, s.gen, 64 + sizeL (JR.recs s.gen (halfB S (n / 2 * 64) s.half))⟩ : LG), JR.recs s.gen (halfB S (n / 2 * 64) s.half), (0 : Int))) = _
 rw [hr, if_neg (fun e => by have := h.gen; rw [e] at this; exact absurd this (by decide)), if_neg]
 ·have hf := h.fin
  cases s
  simp only at hf
  rw [hf]
 ·rintro ⟨c, hc, hc0⟩
  rw [h.here, ← List.append_assoc, List.drop_left' (by rw [List.length_append, length_headB, length_allB])] at hc
  exact hc0 (List.mem_replicate.1 hc).2
theorem begF_zeros {k : Nat} : begF (List.replicate k 0) = 0 := by
 unfold begF
 rw [List.drop_replicate, rd8_zero, if_neg (fun h => absurd h.1 (by decide))]
theorem open_new {n : Nat} (hn : 8 ≤ n) (hn2 : n ≤ 16384) : ∃ S' s', openD n (List.replicate (64 * n) 0) = (calm S', s', [], 0) ∧ LogOk n S' s' [] ∧ s'.gen = 1 := by
 have hp : (pickF (List.replicate (64 * n) 0) (n / 2 * 64)).2 = 0 := by
  unfold pickF halfB
  rw [List.drop_replicate, List.take_replicate, List.drop_replicate, List.take_replicate, begF_zeros, begF_zeros]
  rfl
 obtain ⟨S', s', L, h1, h2, h3, _, h5⟩ := open_ok (S := List.replicate (64 * n) 0) (by simp) hn hn2 (by rw [hp]; decide)
 have hL : L = [] := by
  rw [← h3]
  unfold readF
  rw [List.length_replicate, hlf_eq, if_neg (by omega), if_pos hp]
 subst hL
 refine ⟨S', s', h1, h2, ?_⟩
 rw [hp] at h5
 have := h2.gen
 have h5 : s'.gen.toNat ≤ 1 := h5
 exact UInt64.toNat_inj.1 (show s'.gen.toNat = 1 by omega)
end
end JR
end Go.Proofs.YtladpaehbolghaaGreat

namespace Go.Proofs.YtladpaehbolghaaGreat
open Go Go.RowKit K SH DK JR
section
variable {m0 m : Mem} {F : List Nat} {w0 w : World} {Es : List Ent}
theorem ok_calm {n : Nat} {S : By} (hl : S.length = 64 * n) (h1 : 1 ≤ n) (h2 : n ≤ 16384) : (calm S).ok n := ⟨h1, hl, h2, by intro x hx; cases hx⟩
theorem rdy_calm {n k : Nat} {S : By} (hl : S.length = 64 * n) (h1 : 1 ≤ n) (h2 : n ≤ 16384) : Rdy n (calm S) k := ⟨ok_calm hl h1 h2, ⟨Int.le_refl _, show (-1 : Int) ≤ 9223372036854775807 by decide⟩, Nat.zero_le _⟩
def OpenOut (m0 m : Mem) (w0 w' : World) (Es : List Ent) (b s n : Nat) (o : DS × LG × List By × Int) (v : Value) : Prop :=
 ∃ m' wv' g lv' N', (∀ k o, m k = some o → m' k = some o) ∧ v = .tuple #[.pointer (some ⟨g, 0, none⟩), .int .i64 o.2.2.2] ∧ Pcs m' N' ∧ N'.map (·.1) = o.2.2.1 ∧ St m0 m' [] w0 w' (logB g b o.2.1 lv' :: lrE lv' N' :: diskO b s n wv' o.1 :: Es)
theorem c_open {b s n : Nat} {wv : Value} {S : By} (st : St m0 m [] w0 w (diskO b s n wv (calm S) :: Es)) (hl : S.length = 64 * n) (hn : 8 ≤ n) (hn2 : n ≤ 16384) (h0 : (openD n S).2.2.2 = 0) :
  Ret Tryz.prog 60 #[.pointer (some ⟨b, 0, none⟩)] w fun v w' => OpenOut m0 m w0 w' Es b s n (openD n S) v := by
 have ok := ok_calm (n := n) hl (by omega) hn2
 have hr : Rdy n (calm S) 100000 := rdy_calm hl (by omega) hn2
 have hmm0 : ∀ k o, m k = some o → m k = some o := fun _ _ h => h
 have hop := openD.eq_1 n S
 refine ret_of Tryz.call60 Tryz.func60 rfl Tryz.ntmps60 Tryz.results60 rfl ?_
 refine wc_seq ?_
 refine wc_region ?_
 refine wl_val (v_assign' (by conv => (lhs; whnf))) rfl ?_
 refine wl_val (v_assign' (by conv => (lhs; whnf))) rfl ?_
 refine wl_nil ?_
 refine then_go ?_
 refine wc_seq ?_
 refine wc_seq ?_
 refine wc_region ?_
 refine wl_val (v_move' (by conv => (lhs; whnf))) rfl ?_
 refine wl_val (v_eq_nil (p := some ⟨b, 0, none⟩) Tryz.underlying35 rfl rfl) rfl ?_
 refine wl_val (v_move' (by conv => (lhs; whnf))) rfl ?_
 refine wl_on rfl rfl ?_
 refine wl_val (v_move' (by conv => (lhs; whnf))) rfl ?_
 refine wl_on rfl rfl ?_
 refine wl_call rfl (c_size (im_heapM _) (disk_at 0 st rfl ok)) rfl ?_
 rintro v14 w ⟨rfl, rfl⟩
 refine wl_on rfl rfl ?_
 refine wl_val (v_lss rfl rfl) rfl ?_
 refine wl_val (v_pick rfl) rfl ?_
 refine wl_nil ?_
 refine then_go ?_
 refine wc_false (congrArg Value.bool (decide_eq_false (by omega))) ?_
 refine wc_skip ?_
 refine then_go ?_
 refine wc_seq ?_
 refine wc_region ?_
 refine wl_val (v_move' (by conv => (lhs; whnf))) rfl ?_
 refine wl_call rfl (c_dump (im_heapM _) (disk_at 0 st rfl ok)) rfl ?_
 rintro v18 w ⟨t18, m1, hf1, hi1, hS⟩
 obtain ⟨m2, hmm2, hm12, st⟩ := st.absorb t18 hf1 hi1
 have hS : SlM m2 v18 1 S.length (bs S) := hS.mono hm12
 obtain ⟨sa, sc, hv18, hsc⟩ := hS.opn
 subst hv18
 refine wl_val (v_assign' (by conv => (lhs; whnf))) rfl ?_
 refine wl_nil ?_
 refine then_go ?_
 refine wc_seq ?_
 refine wc_region ?_
 refine wl_val (v_move' (by conv => (lhs; whnf))) rfl ?_
 refine wl_val (v_build (c' := #[.pointer (some ⟨b, 0, none⟩), .int .i64 0, .int .u64 0, .int .i64 0, .slice none 0 0]) [(0, .pointer (some ⟨b, 0, none⟩))] TF.z126 TF.p126 rfl ⟨0, 1, rfl, rfl, by decide, rfl⟩) rfl ?_
 refine wl_box (v := .agg #[.pointer (some ⟨b, 0, none⟩), .int .i64 0, .int .u64 0, .int .i64 0, .slice none 0 0]) rfl st rfl ?_
 intro g w st
 have st : St m0 m2 [] w0 w (logB g b ⟨0, 0, 0⟩ (.slice none 0 0) :: diskO b s n wv (calm S) :: Es) := st
 refine wl_val (v_assign' (by conv => (lhs; whnf))) rfl ?_
 refine wl_nil ?_
 refine then_go ?_
 refine wc_seq ?_
 refine wc_region ?_
 refine wl_val (v_move' (by conv => (lhs; whnf))) rfl ?_
 refine wl_call rfl (c_lsize st ok) rfl ?_
 rintro v23 w ⟨t23, rfl⟩
 have st := st.pure t23
 obtain ⟨H, hH⟩ : ∃ H, H = n / 2 * 64 := ⟨_, rfl⟩
 rw [← hH]
 refine wl_val (v_assign' (by conv => (lhs; whnf))) rfl ?_
 refine wl_nil ?_
 refine then_go ?_
 refine wc_seq ?_
 refine wc_region ?_
 refine wl_val (v_move' (by conv => (lhs; whnf))) rfl ?_
 refine wl_val (v_move' (by conv => (lhs; whnf))) rfl ?_
 refine wl_val (v_move' (by conv => (lhs; whnf))) rfl ?_
 refine wl_val (v_move' (by conv => (lhs; whnf))) rfl ?_
 refine wl_call rfl (c_pick (n := H) st.im hS (by omega) (by omega) (by omega)) rfl ?_
 rintro v29 w ⟨t29, rfl⟩
 have st := st.pure t29
 obtain ⟨q1, q2, q3⟩ := pick_le (S := S) (H := H)
 have hk := pickF_le (b := S) (n := H)
 obtain ⟨k, hke⟩ : ∃ k, k = (pickF S H).1 := ⟨_, rfl⟩
 obtain ⟨gn, hge⟩ : ∃ g, g = (pickF S H).2 := ⟨_, rfl⟩
 rw [← hH, ← hke, ← hge] at hop
 rw [← hke, ← hge] at q1 q2 q3 ⊢
 rw [← hke] at hk
 have hkl : k * H ≤ H := by rcases Nat.le_one_iff_eq_zero_or_eq_one.1 hk with h | h <;> rw [h] <;> omega
 refine wl_val (v_move' (by conv => (lhs; whnf))) rfl ?_
 refine wl_val (v_extract rfl rfl) rfl ?_
 refine wl_val (v_extract rfl rfl) rfl ?_
 refine wl_val (v_nil rfl) rfl ?_
 refine wl_val (v_fa TF.f126_1 rfl) rfl ?_
 refine wl_store1 0 st rfl TF.t3 rfl (by conv => (lhs; whnf)) rfl (by first | exact lt_ok rfl | decide | simp) ?_
 intro w st
 refine wl_val (v_nil rfl) rfl ?_
 refine wl_val (v_fa TF.f126_2 rfl) rfl ?_
 refine wl_store1 0 st rfl TF.t47 rfl (by conv => (lhs; whnf)) rfl (by first | exact lt_ok rfl | decide | simp) ?_
 intro w st
 have st : St m0 m2 [] w0 w (logB g b ⟨k, gn, 0⟩ (.slice none 0 0) :: diskO b s n wv (calm S) :: Es) := st
 refine wl_nil ?_
 refine then_go ?_
 refine wc_seq ?_
 refine wc_seq ?_
 refine wc_region ?_
 refine wl_val (v_move' (by conv => (lhs; whnf))) rfl ?_
 refine wl_val (v_nil rfl) rfl ?_
 refine wl_val (v_fa TF.f126_2 rfl) rfl ?_
 refine wl_val (v_load rfl (st.reads (v := u64 gn) 0 rfl TF.t47 rfl)) rfl ?_
 refine wl_val (v_eql64 (q := 0) rfl rfl) rfl ?_
 refine wl_nil ?_
 refine then_go ?_
 refine wc_if rfl (fun h40 => ?_) (fun h40 => ?_)
 ·refine wc_seq ?_
  refine wc_region ?_
  refine wl_val (v_move' (by conv => (lhs; whnf))) rfl ?_
  refine wl_val (v_nil rfl) rfl ?_
  refine wl_val (v_fa TF.f126_1 rfl) rfl ?_
  refine wl_store1 0 st rfl TF.t3 rfl (by conv => (lhs; whnf)) rfl (by first | exact lt_ok rfl | decide | simp) ?_
  intro w st
  have st : St m0 m2 [] w0 w (logB g b ⟨1, gn, 0⟩ (.slice none 0 0) :: diskO b s n wv (calm S) :: Es) := st
  refine wl_nil ?_
  refine then_go ?_
  refine wc_seq ?_
  refine wc_region ?_
  refine wl_val (v_move' (by conv => (lhs; whnf))) rfl ?_
  refine wl_val (v_move' (by conv => (lhs; whnf))) rfl ?_
  rw [if_pos h40] at hop
  rw [h40] at st
  refine wl_call rfl (c_over (N := []) st hr hn (Nat.le_refl _) ⟨SlM.nil, by intro x hx; cases hx⟩ (by intro x hx; cases hx) (Nat.zero_le _)) rfl ?_
  rintro v46 w ⟨m3, wv3, hmm3, rfl, hbad, hok⟩
  have hz : (overD n (calm S) ⟨1, 0, 0⟩ []).2.2 = 0 := by rw [hop] at h0; exact h0
  obtain ⟨lv', N', hP', _, hNN, st⟩ := hok hz
  refine wl_val (v_assign' (by conv => (lhs; whnf))) rfl ?_
  refine wl_val (v_assign' (by conv => (lhs; whnf))) rfl ?_
  refine wl_nil ?_
  refine then_go ?_
  refine wc_ret (then_ret ?_)
  refine ret2 rfl rfl ⟨m3, wv3, g, lv', N', fun k o h => hmm3 k o (hmm2 k o h), by rw [hop]; rfl, hP', by rw [hop]; exact hNN, by rw [hop]; exact st⟩
 ·refine wc_skip ?_
  refine then_go ?_
  refine wc_seq ?_
  rw [if_neg h40] at hop
  obtain ⟨half, hhf⟩ : ∃ half, half = halfB S H k := ⟨_, rfl⟩
  have hhl : half.length = H := by rw [hhf]; exact halfB_len hk (by omega)
  have hh : SlM m2 (.slice (sliceOff sa sc (k * H) 1) half.length (sc - k * H)) 1 half.length (bs half) := by
   have h := hS.partB (k * H) (k * H + H) (by omega) (by omega)
   rw [Nat.add_sub_cancel_left] at h
   rw [hhl]
   have e : (S.drop (k * H)).take H = half := by rw [hhf]; rfl
   rw [e, hhl] at h
   exact h
  rw [← hhf] at hop q2
  refine wc_draw TF.mixed ?_
  have st := st.pure (touch_drew _)
  refine fl_val 0 rfl (fun _ => (v_move' (by conv => (lhs; whnf)))) rfl (by kernel_rfl) ?_
  refine fl_val 1 rfl (fun _ => (v_move' (by conv => (lhs; whnf)))) rfl (by kernel_rfl) ?_
  refine fl_val 2 rfl (fun _ => (v_nil rfl)) rfl (by kernel_rfl) ?_
  refine fl_val 3 rfl (fun _ => (v_fa TF.f126_1 rfl)) rfl (by kernel_rfl) ?_
  refine fl_ld 4 rfl (v_load rfl (st.reads (v := .int .i64 k) 0 rfl TF.t3 rfl)) (by kernel_rfl) ?_
  refine fl_val 5 rfl (fun _ => (v_move' (by conv => (lhs; whnf)))) rfl (by kernel_rfl) ?_
  refine fl_val 6 rfl (fun _ => (v_mul' (c := ((k * H : Nat) : Int)) rfl rfl (Int.natCast_mul _ _).symm (by omega) (by omega))) rfl (by kernel_rfl) ?_
  refine fl_val 7 rfl (fun _ => (v_move' (by conv => (lhs; whnf)))) rfl (by kernel_rfl) ?_
  refine fl_val 8 rfl (fun _ => (v_nil rfl)) rfl (by kernel_rfl) ?_
  refine fl_val 9 rfl (fun _ => (v_fa TF.f126_1 rfl)) rfl (by kernel_rfl) ?_
  refine fl_ld 10 rfl (v_load rfl (st.reads (v := .int .i64 k) 0 rfl TF.t3 rfl)) (by kernel_rfl) ?_
  refine fl_val 11 rfl (fun _ => (v_add' (c := ((k + 1 : Nat) : Int)) rfl rfl (by omega) (by omega) (by omega))) rfl (by kernel_rfl) ?_
  refine fl_val 12 rfl (fun _ => (v_move' (by conv => (lhs; whnf)))) rfl (by kernel_rfl) ?_
  refine fl_val 13 rfl (fun _ => (v_mul' (c := ((k * H + H : Nat) : Int)) rfl rfl (by rw [Int.natCast_add, Int.natCast_add, Int.natCast_mul, Int.add_mul]; omega) (by omega) (by omega))) rfl (by kernel_rfl) ?_
  refine fl_val 14 rfl (fun _ => (v_to (v' := .slice (sliceOff sa sc (k * H) 1) half.length (sc - k * H)) (v_sls (k * H) (k * H + H) Tryz.underlying23 TF.t5 rfl ⟨_, _, rfl, rfl⟩ ⟨_, _, rfl, rfl⟩ (by omega) (by omega)) (by rw [Nat.add_sub_cancel_left, hhl]))) rfl (by kernel_rfl) ?_
  refine fl_eff1 15 [] [] (by kernel_rfl) ⟨obl_ld rfl rfl rfl (v_load rfl (st.reads (v := .int .i64 k) 0 rfl TF.t3 rfl)), obl_ld rfl rfl rfl (v_load rfl (st.reads (v := .int .i64 k) 0 rfl TF.t3 rfl)), trivial⟩ rfl ?_
  refine wl_val (v_assign' (by conv => (lhs; whnf))) rfl ?_
  refine wl_nil ⟨rfl, ?_⟩
  refine fl_nil (by kernel_rfl) trivial ?_
  refine then_go ?_
  refine wc_seq ?_
  refine wc_region ?_
  refine wl_val (v_move' (by conv => (lhs; whnf))) rfl ?_
  refine wl_val (v_move' (by conv => (lhs; whnf))) rfl ?_
  refine wl_val (v_move' (by conv => (lhs; whnf))) rfl ?_
  refine wl_val (v_nil rfl) rfl ?_
  refine wl_val (v_fa TF.f126_2 rfl) rfl ?_
  refine wl_val (v_load rfl (st.reads (v := u64 gn) 0 rfl TF.t47 rfl)) rfl ?_
  refine wl_val (v_move' (by conv => (lhs; whnf))) rfl ?_
  obtain ⟨L, hL⟩ : ∃ L, L = recs gn half := ⟨_, rfl⟩
  refine wl_call rfl (c_jread st hh (by omega) (by omega)) rfl ?_
  rintro v70 w ⟨m3, lv, N, st, hmm3, hP, hNN, rfl⟩
  obtain ⟨r1, _, _, r4⟩ := recs_there (g := gn) (f := half.length) (k := 0) (b := half.drop 64) (by rw [List.length_drop]; omega)
  have hrl : recsF gn half.length 0 (half.drop 64) = recs gn half := rfl
  rw [hrl, ← hL, List.length_drop] at r1 r4
  rw [← hL] at hNN hop ⊢
  have hLg := sizeL_ge (l := L)
  have hNL : L.length = N.length := by rw [← hNN, List.length_map]
  have st : St m0 m3 [] w0 w (logB g b ⟨k, gn, 0⟩ (.slice none 0 0) :: lrE lv N :: diskO b s n wv (calm S) :: Es) := st.perm (List.Perm.swap _ _ _)
  have hh := hh.mono hmm3
  have hmm3 : ∀ k o, m k = some o → m3 k = some o := fun k o h => hmm3 k o (hmm2 k o h)
  refine wl_val (v_move' (by conv => (lhs; whnf))) rfl ?_
  refine wl_val (v_extract rfl rfl) rfl ?_
  refine wl_val (v_extract rfl rfl) rfl ?_
  refine wl_val (v_nil rfl) rfl ?_
  refine wl_val (v_fa TF.f126_4 rfl) rfl ?_
  refine wl_store1 (v := lv) 0 st rfl TF.t41 rfl rfl (row_one (st.at (i := 1) rfl)) (lt_ok rfl) ?_
  intro w st
  have st : St m0 m3 [] w0 w (logB g b ⟨k, gn, 0⟩ lv :: lrE lv N :: diskO b s n wv (calm S) :: Es) := st
  refine wl_val (v_nil rfl) rfl ?_
  refine wl_val (v_fa TF.f126_3 rfl) rfl ?_
  refine wl_store1 (v := .int .i64 ((64 + sizeL L : Nat) : Int)) 0 st rfl TF.t3 rfl rfl rfl (lt_ok rfl) ?_
  intro w st
  have st : St m0 m3 [] w0 w (logB g b ⟨k, gn, 64 + sizeL L⟩ lv :: lrE lv N :: diskO b s n wv (calm S) :: Es) := st
  refine wl_nil ?_
  refine then_go ?_
  refine wc_seq ?_
  refine wc_seq ?_
  refine wc_region ?_
  refine wl_val (v_move' (by conv => (lhs; whnf))) rfl ?_
  refine wl_val (v_move' (by conv => (lhs; whnf))) rfl ?_
  refine wl_val (v_nil rfl) rfl ?_
  refine wl_val (v_fa TF.f126_3 rfl) rfl ?_
  refine wl_val (v_load rfl (st.reads (v := .int .i64 ((64 + sizeL L : Nat) : Int)) 0 rfl TF.t3 rfl)) rfl ?_
  refine wl_val (v_sls (64 + sizeL L) half.length Tryz.underlying23 TF.t5 rfl ⟨_, _, rfl, rfl⟩ rfl (by omega) (by omega)) rfl ?_
  refine wl_val (v_len_s Tryz.underlying23 rfl) rfl ?_
  refine wl_val (v_move' (by conv => (lhs; whnf))) rfl ?_
  refine wl_nil ?_
  refine then_go ?_
  refine wc_block ?_
  have htl := hh.tailB (64 + sizeL L) (by omega)
  obtain ⟨tl, htle⟩ : ∃ tl, tl = half.drop (64 + sizeL L) := ⟨_, rfl⟩
  have htll : tl.length = half.length - (64 + sizeL L) := by rw [htle, List.length_drop]
  rw [← htle] at htl hop
  rw [← htll] at htl ⊢
  obtain ⟨ta, tc, htv⟩ : ∃ a c, Value.slice (sliceOff (sliceOff sa sc (k * H) 1) (sc - k * H) (64 + sizeL L) 1) tl.length (sc - k * H - (64 + sizeL L)) = .slice a tl.length c := ⟨_, _, rfl⟩
  rw [htv] at htl ⊢
  refine wc_loop (S := Nat) (fun q r w' => ∃ (i : Nat), q + i = tl.length ∧ r 5 = .pointer (some ⟨g, 0, none⟩) ∧ r 82 = .slice ta tl.length tc ∧ r 83 = .int .i64 tl.length ∧ r 84 = .int .i64 i ∧ (∀ c ∈ tl.take i, c = 0) ∧ St m0 m3 [] w0 w' (logB g b ⟨k, gn, 64 + sizeL L⟩ lv :: lrE lv N :: diskO b s n wv (calm S) :: Es)) id tl.length ⟨0, by omega, rfl, rfl, rfl, rfl, by simp, st⟩ ?_
  clear st
  rintro q r w2 ⟨i, hqi, g5, g82, g83, g84, hz, st⟩
  refine wc_o 5 g5 (wc_o 82 g82 (wc_o 83 g83 (wc_o 84 g84 ?_)))
  refine wc_seq ?_
  refine wc_region ?_
  refine wl_val (v_lss rfl rfl) rfl ?_
  refine wl_nil ?_
  refine then_go ?_
  refine wc_seq ?_
  refine wc_if rfl (fun h85 => ?_) (fun h85 => ?_)
  ·refine wc_skip ?_
   refine then_go ?_
   refine wc_seq ?_
   refine wc_block ?_
   refine wc_seq ?_
   have hi : i < tl.length := by omega
   obtain ⟨tb, to, tcc, htb, _⟩ := htl.ptr1 (by omega) (by decide)
   cases htb
   refine wc_region ?_
   refine wl_val (v_ias i Tryz.underlying23 TF.t5 rfl rfl (by first | rfl | omega) (by first | omega | (dsimp only at *; omega))) rfl ?_
   refine wl_val (v_load rfl (SlM.rdB TF.t5 i htl hi st.im)) rfl ?_
   refine wl_val (v_assign' (by conv => (lhs; whnf))) rfl ?_
   refine wl_nil ?_
   refine then_go ?_
   refine wc_seq ?_
   refine wc_region ?_
   refine wl_val (v_move' (by conv => (lhs; whnf))) rfl ?_
   refine wl_val (v_neq rfl rfl) rfl ?_
   refine wl_nil ?_
   refine then_go ?_
   refine wc_if rfl (fun h89 => ?_) (fun h89 => ?_)
   ·refine wc_seq ?_
    refine wc_region ?_
    refine wl_val (v_move' (by conv => (lhs; whnf))) rfl ?_
    refine wl_val (v_move' (by conv => (lhs; whnf))) rfl ?_
    refine wl_val (v_move' (by conv => (lhs; whnf))) rfl ?_
    refine wl_val (v_nil rfl) rfl ?_
    refine wl_val (v_fa TF.f126_4 rfl) rfl ?_
    refine wl_val (v_load rfl (st.reads (v := lv) 0 rfl TF.t41 rfl)) rfl ?_
    have hnz : ∃ c ∈ tl, c ≠ 0 := ⟨tl[i], List.getElem_mem hi, fun e => h89 (by rw [e]; rfl)⟩
    rw [if_pos hnz] at hop
    have st1 := st
    obtain ⟨m4, hg4, hm4, st⟩ := st.freezeR (i := 1) rfl (by simp)
    have hNM : PcsM m4 lv N := ⟨row_SlM (m := m4) (st1.at (i := 1) rfl) hm4, hP.mono hg4.le⟩
    have st : St m0 m4 [] w0 _ (logB g b ⟨k, gn, 64 + sizeL L⟩ lv :: diskO b s n wv (calm S) :: Es) := st
    refine wl_call rfl (c_over (sl := ⟨k, gn, 64 + sizeL L⟩) st hr hn hk hNM (fun x hx => by have := (r4 x.1 (by rw [← hNN]; exact List.mem_map.2 ⟨x, hx, rfl⟩)).2; omega) (by omega)) rfl ?_
    rintro v96 w ⟨m5, wv5, hmm5, rfl, hbad, hok⟩
    rw [hNN] at hbad hok ⊢
    have hz : (overD n (calm S) ⟨k, gn, 64 + sizeL L⟩ L).2.2 = 0 := by rw [hop] at h0; exact h0
    obtain ⟨lv', N', hP', _, hNN', st⟩ := hok hz
    refine wl_val (v_assign' (by conv => (lhs; whnf))) rfl ?_
    refine wl_val (v_assign' (by conv => (lhs; whnf))) rfl ?_
    refine wl_nil ?_
    refine then_go ?_
    refine wc_ret (block_ret (then_ret (then_ret (block_ret (then_ret ?_)))))
    refine ret2 rfl rfl ⟨m5, wv5, g, lv', N', fun k o h => hmm5 k o (hg4.le k o (hmm3 k o h)), by rw [hop]; rfl, hP', by rw [hop]; exact hNN', by rw [hop]; exact st⟩
   ·refine wc_skip ?_
    refine block_go (then_go ?_)
    refine wc_region ?_
    refine wl_val (v_add' (c := ((i + 1 : Nat) : Int)) rfl rfl (by omega) (by omega) (by omega)) rfl ?_
    refine wl_val (v_move' (by conv => (lhs; whnf))) rfl ?_
    refine wl_nil ?_
    refine then_go ?_
    refine ⟨q - 1, by simp; omega, i + 1, by omega, rfl, rfl, rfl, rfl, fun c hc => ?_, st⟩
    rw [List.take_succ_eq_append_getElem hi] at hc
    rcases List.mem_append.1 hc with hc | hc
    ·exact hz c hc
    ·rw [List.mem_singleton.1 hc]
     have : tl[i].toNat = 0 := by have := Decidable.not_not.1 h89; omega
     exact UInt8.toNat_inj.1 this
  ·refine wc_exit (then_exit (then_exit (block_hit ?_)))
   refine then_go ?_
   refine wc_seq ?_
   refine wc_region ?_
   refine wl_val (v_move' (by conv => (lhs; whnf))) rfl ?_
   refine wl_val (v_assign' (by conv => (lhs; whnf))) rfl ?_
   refine wl_val (v_assign' (by conv => (lhs; whnf))) rfl ?_
   refine wl_nil ?_
   refine then_go ?_
   refine wc_ret ?_
   have hiN : i = tl.length := by omega
   subst hiN
   rw [List.take_length] at hz
   rw [if_neg (by rintro ⟨c, hc, hc0⟩; exact hc0 (hz c hc))] at hop
   refine ret2 rfl rfl ⟨m3, wv, g, lv, N, hmm3, by rw [hop]; rfl, hP, by rw [hop]; exact hNN, by rw [hop]; exact st⟩
end
end Go.Proofs.YtladpaehbolghaaGreat

namespace Go.Proofs.YtladpaehbolghaaGreat
open Go Go.RowKit K SH GC JR OS
namespace OS
abbrev Kys := List (By × By)
def Risen (M : Kys) : Prop := (M.map (·.1)).Pairwise (· < ·)
def oneS (M : Kys) (a : Ac) : Kys := M.filter (fun x => decide (x.1 < a.key)) ++ ((if a.set then [(a.key, a.data)] else []) ++ M.filter (fun x => decide (a.key < x.1)))
def doneS (M : Kys) (A : List Ac) : Kys := A.foldl oneS M
def actsOf (M : Kys) : List Ac := M.map fun x => ⟨x.1, true, x.2⟩
def anewOf (M : Kys) : List By := if M = [] then [] else [batB (actsOf M)]
def applyR (M : Kys) (R : List By) (A : List Ac) (n : Nat) : Kys × List By × Nat :=
 if chkL A ≠ 0 ∨ A = [] then (M, R, chkL A)
 else if appR R (batB A) n = 0 then (doneS M A, R ++ [batB A], 0)
 else if chkL (actsOf (doneS M A)) ≠ 0 ∨ resR (anewOf (doneS M A)) n ≠ 0 then (M, R, 13)
 else (doneS M A, anewOf (doneS M A), 0)
theorem Risen.nodup {M : Kys} (h : Risen M) : (M.map (·.1)).Nodup := h.imp fun h => by rintro rfl; exact List.lt_irrefl _ h
theorem oneS_rise {M : Kys} {a : Ac} (h : Risen M) : Risen (oneS M a) := by
 unfold Risen oneS at *
 rw [List.pairwise_map] at *
 rw [List.pairwise_append]
 refine ⟨h.sublist List.filter_sublist, ?_, ?_⟩
 ·rw [List.pairwise_append]
  refine ⟨by split <;> simp, h.sublist List.filter_sublist, fun x hx y hy => ?_⟩
  have hy := (List.mem_filter.1 hy).2
  split at hx
  ·rw [List.mem_singleton.1 hx]; exact of_decide_eq_true hy
  ·cases hx
 ·intro x hx y hy
  have hx := of_decide_eq_true (List.mem_filter.1 hx).2
  rcases List.mem_append.1 hy with hy | hy
  ·split at hy
   ·rw [List.mem_singleton.1 hy]; exact hx
   ·cases hy
  ·exact List.lt_trans hx (of_decide_eq_true (List.mem_filter.1 hy).2)
theorem ins_perm {k d : By} : ∀ {X : Kys}, (X.map (·.1)).Nodup → (insKV k d X).Perm ((k, d) :: delKV k X)
 | [], _ => List.Perm.refl _
 | x :: X, h => by
  rw [List.map_cons, List.nodup_cons] at h
  rw [insKV]
  by_cases e : x.1 = k
  ·rw [if_pos e]
   have : delKV k (x :: X) = X := by
    unfold delKV
    rw [List.filter_cons, if_neg (by simp [e])]
    exact delKV_off fun y hy q => h.1 (List.mem_map.2 ⟨y, hy, q.trans e.symm⟩)
   rw [this]
  ·rw [if_neg e]
   have : delKV k (x :: X) = x :: delKV k X := by unfold delKV; rw [List.filter_cons, if_pos (by simpa using e)]
   rw [this]
   exact ((ins_perm h.2).cons x).trans (List.Perm.swap _ _ _)
theorem two_perm {k : By} : ∀ (M : Kys), (M.filter (fun x => decide (x.1 < k)) ++ M.filter (fun x => decide (k < x.1))).Perm (delKV k M)
 | [] => List.Perm.refl _
 | x :: M => by
  have ih := two_perm (k := k) M
  unfold delKV at ih ⊢
  rw [List.filter_cons, List.filter_cons, List.filter_cons]
  by_cases h1 : x.1 < k
  ·have h2 : ¬ k < x.1 := fun h => List.lt_irrefl _ (List.lt_trans h1 h)
   have h3 : x.1 ≠ k := fun e => by rw [e] at h1; exact List.lt_irrefl _ h1
   rw [if_pos (decide_eq_true h1), if_neg (by simpa using h2), if_pos (by simpa using h3)]
   exact ih.cons x
  ·by_cases h2 : k < x.1
   ·have h3 : x.1 ≠ k := fun e => by rw [e] at h2; exact List.lt_irrefl _ h2
    rw [if_neg (by simpa using h1), if_pos (decide_eq_true h2), if_pos (by simpa using h3)]
    exact List.perm_middle.trans (ih.cons x)
   ·have h3 : x.1 = k := List.le_antisymm (List.not_lt.1 h2) (List.not_lt.1 h1)
    rw [if_neg (by simpa using h1), if_neg (by simpa using h2), if_neg (by simp [h3])]
    exact ih
theorem oneS_perm {M X : Kys} {a : Ac} (hp : M.Perm X) (hn : (X.map (·.1)).Nodup) : (oneS M a).Perm (actK X a) := by
 unfold oneS actK
 have hf : (delKV a.key M).Perm (delKV a.key X) := hp.filter _
 have h2 := (two_perm (k := a.key) M).trans hf
 split
 ·refine List.Perm.trans ?_ (ins_perm hn).symm
  exact List.perm_middle.trans (h2.cons _)
 ·rw [List.nil_append]; exact h2
theorem actK_nodup {X : Kys} {a : Ac} (h : (X.map (·.1)).Nodup) : ((actK X a).map (·.1)).Nodup := by
 unfold actK
 split
 ·exact nodup_insKV h
 ·exact nodup_delKV h
theorem doneS_rise {A : List Ac} : ∀ {M : Kys}, Risen M → Risen (doneS M A) := by
 induction A with
 | nil => intro M h; exact h
 | cons a A ih => intro M h; exact ih (oneS_rise h)
theorem doneS_perm {A : List Ac} : ∀ {M X : Kys}, M.Perm X → (X.map (·.1)).Nodup → (doneS M A).Perm (doneK X A) := by
 induction A with
 | nil => intro M X h _; exact h
 | cons a A ih => intro M X h hn; exact ih (oneS_perm h hn) (actK_nodup hn)
theorem rise_one {A B : List Ac} (hA : (A.map (·.key)).Pairwise (· < ·)) (hB : (B.map (·.key)).Pairwise (· < ·)) (hp : A.Perm B) : A = B :=
 hp.eq_of_pairwise (le := fun x y => x.key < y.key) (fun a b _ _ h1 h2 => (List.lt_irrefl _ (List.lt_trans h1 h2)).elim) (List.pairwise_map.1 hA) (List.pairwise_map.1 hB)
theorem acts_keys {M : Kys} : (actsOf M).map (·.key) = M.map (·.1) := by unfold actsOf; rw [List.map_map]; rfl
theorem whole_one {A : List AcT} {L : List (By × DV)} {M : Kys} (hA : A.Perm (L.map toAct)) (hr : (A.map (·.1.key)).Pairwise (· < ·)) (hM : Risen M) (hp : M.Perm (kvs L)) : A.map (·.1) = actsOf M := by
 refine rise_one (by rw [List.map_map]; exact hr) (by rw [acts_keys]; exact hM) ?_
 have h1 := hA.map (·.1)
 rw [List.map_map] at h1
 refine h1.trans ?_
 have h2 := (hp.map (fun x : By × By => (⟨x.1, true, x.2⟩ : Ac))).symm
 unfold kvs at h2
 rw [List.map_map] at h2
 exact h2
def bulkK (M : Kys) : Nat := (M.map fun x => x.1.length + x.2.length).sum
theorem bulk_acts {M : Kys} : bulkA (actsOf M) = bulkK M := by unfold bulkA actsOf bulkK; rw [List.map_map]; rfl
theorem bulk_filter {p : By × By → Bool} : ∀ {M : Kys}, bulkK (M.filter p) ≤ bulkK M
 | [] => by simp
 | x :: M => by
  have := bulk_filter (p := p) (M := M)
  unfold bulkK at this ⊢
  rw [List.filter_cons]
  split <;> simp <;> omega
theorem bulk_app {M N : Kys} : bulkK (M ++ N) = bulkK M + bulkK N := by simp [bulkK]
theorem bulkOne {M : Kys} {a : Ac} : bulkK (oneS M a) ≤ bulkK M + (a.key.length + a.data.length) ∧ (oneS M a).length ≤ M.length + 1 := by
 have h : (M.filter (fun x => decide (x.1 < a.key)) ++ M.filter (fun x => decide (a.key < x.1))).Perm (delKV a.key M) := two_perm M
 have h1 : bulkK (M.filter (fun x => decide (x.1 < a.key)) ++ M.filter (fun x => decide (a.key < x.1))) = bulkK (delKV a.key M) := by
  unfold bulkK
  exact (h.map _).sum_nat
 have h2 : bulkK (delKV a.key M) ≤ bulkK M := bulk_filter
 have h3 := h.length_eq
 have h4 : (delKV a.key M).length ≤ M.length := List.length_filter_le _ _
 rw [bulk_app] at h1
 rw [List.length_append] at h3
 unfold oneS
 rw [bulk_app, bulk_app, List.length_append, List.length_append]
 split
 ·simp only [bulkK, List.map_cons, List.map_nil, List.sum_cons, List.sum_nil, List.length_cons, List.length_nil] at *
  omega
 ·simp only [bulkK, List.map_nil, List.sum_nil, List.length_nil] at *
  omega
theorem bulk_done {A : List Ac} : ∀ {M : Kys}, bulkK (doneS M A) ≤ bulkK M + bulkA A ∧ (doneS M A).length ≤ M.length + A.length := by
 induction A with
 | nil => intro M; exact ⟨by simp [doneS, bulkA], by simp [doneS]⟩
 | cons a A ih =>
  intro M
  have h := ih (M := oneS M a)
  have h2 := bulkOne (M := M) (a := a)
  rw [bulk_cons, List.length_cons]
  have e : doneS M (a :: A) = doneS (oneS M a) A := rfl
  rw [e]
  omega
end OS
end Go.Proofs.YtladpaehbolghaaGreat
