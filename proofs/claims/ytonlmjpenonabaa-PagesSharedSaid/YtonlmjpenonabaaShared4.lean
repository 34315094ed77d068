/-
  Proved here: for every input the law PagesShared returns true, and what it was handed reads behind the call as before. No condition.
-/
import Derived.Test.YtonlmjpenonabaaRows
import Derived.Test.YtonlmjpenonabaaShared3

namespace Go.Proofs.Ytonlmjpenonabaa
open Go Go.RowKit K SH PT
theorem wh_len : ∀ {g d : Nat} {L : List (By × By)}, D32p L → (wh g d L).length ≤ 1 + (66 + 2 * g) * L.length
 | g, d, [], _ => by rw [wh_nil]; simp
 | g, d, [x], h => by rw [wh_one]; have := h x (by simp); simp [this.1, this.2]; omega
 | 0, d, x :: y :: l, _ => Nat.le_add_right 1 _
 | g + 1, d, x :: y :: l, h => by
  rw [wh_halves (by simp)]
  have h1 := wh_len (g := g) (d := d + 1) (h.half (d := d) (b := false))
  have h2 := wh_len (g := g) (d := d + 1) (h.half (d := d) (b := true))
  have h3 : (halfL (x :: y :: l) d false).length + (halfL (x :: y :: l) d true).length = (x :: y :: l).length := by
   have q0 : halfL (x :: y :: l) d false = (x :: y :: l).filter fun x => !bitI x.1 d := List.filter_congr fun x _ => by cases bitI x.1 d <;> rfl
   have q1 : halfL (x :: y :: l) d true = (x :: y :: l).filter fun x => bitI x.1 d := List.filter_congr fun x _ => by cases bitI x.1 d <;> rfl
   rw [q0, q1]
   exact length_split (fun x : By × By => bitI x.1 d) _
  have e2 : (66 + 2 * g) * (halfL (x :: y :: l) d false).length + (66 + 2 * g) * (halfL (x :: y :: l) d true).length = (66 + 2 * g) * (x :: y :: l).length := by rw [← Nat.mul_add, h3]
  have e3 : (66 + 2 * (g + 1)) * (x :: y :: l).length = (66 + 2 * g) * (x :: y :: l).length + 2 * (x :: y :: l).length := by rw [← Nat.add_mul]; congr 1
  have e4 : 2 ≤ (x :: y :: l).length := by simp
  omega
theorem DigM.sl1 {m : Mem} {b o k cap i : Nat} {L : List By} (h : DigM m (.slice (some ⟨b, o, none⟩) k cap) L) (hi : i < L.length) : SlM m (.slice (some ⟨b, o + i * 32 + 0 * 1, none⟩) (32 - 0) (32 - 0)) 1 L[i].length (bs L[i]) := by
 have hl : L[i].length = 32 := h.1 _ (List.getElem_mem hi)
 obtain ⟨_, a', c', he, _, _, hc⟩ := h.2
 cases he
 rw [hl]
 refine ⟨by rw [length_bs, hl], _, _, rfl, Nat.le_refl _, by simp, fun j u hj => ?_⟩
 have hj32 : j < 32 := by
  rcases Nat.lt_or_ge j 32 with h' | h'
  ·exact h'
  ·rw [List.getElem?_eq_none (by rw [length_bs, hl]; exact h')] at hj; cases hj
 have e := cells_digs h.1 hi
 have e2 : (digs L)[i * 32 + j]? = some u := by
  rw [← e] at hj
  simp only [cellsAt] at hj
  rw [List.getElem?_take_of_lt hj32, List.getElem?_drop] at hj
  exact hj
 obtain ⟨b', o', c, t, fr, e3, e4, e5⟩ := hc _ _ e2
 cases e3
 exact ⟨b, _, c, t, fr, rfl, e4, by rw [show o + i * 32 + 0 * 1 + j = o + (i * 32 + j) by omega]; exact e5⟩
end Go.Proofs.Ytonlmjpenonabaa

namespace Go.Proofs.Ytonlmjpenonabaa
open Go Go.RowKit K SH PT
end Go.Proofs.Ytonlmjpenonabaa

namespace Go.Proofs.Ytonlmjpenonabaa
open Go Go.RowKit K SH PT
end Go.Proofs.Ytonlmjpenonabaa

namespace Go.Proofs.Ytonlmjpenonabaa
open Go Go.RowKit K SH PT
theorem half_len {L : List (By × By)} {d : Int} : (halfL L d false).length + (halfL L d true).length = L.length := by
 unfold halfL
 induction L with
 | nil => rfl
 | cons x L ih =>
  simp only [List.filter_cons]
  cases bitI x.1 d
  ·rw [if_pos (by decide), if_neg (by decide), List.length_cons, List.length_cons]; omega
  ·rw [if_neg (by decide), if_pos (by decide), List.length_cons, List.length_cons]; omega
theorem wh_low : ∀ {g d : Nat} {L : List (By × By)}, g + d = 256 → Dst d L → D32p L → 66 * L.length ≤ (wh g d L).length + 1
 | g, d, [], _, _, _ => by simp
 | g, d, [x], _, _, hL => by
  rw [wh_one]
  obtain ⟨h1, h2⟩ := hL x (by simp)
  simp [h1, h2]
 | 0, d, x :: y :: L, hgd, hD, _ => by
  rw [show d = 256 by omega] at hD
  exact hD.two.elim
 | g + 1, d, x :: y :: L, hgd, hD, hL => by
  rw [wh_halves (by simp)]
  have h0 := wh_low (g := g) (d := d + 1) (by omega) (hD.half (by omega) false) hL.half
  have h1 := wh_low (g := g) (d := d + 1) (by omega) (hD.half (by omega) true) hL.half
  have := half_len (L := x :: y :: L) (d := d)
  omega
theorem dst_pow : ∀ {g d : Nat} {L : List (By × By)}, g + d = 256 → Dst d L → L.length ≤ 2 ^ g
 | 0, d, L, hgd, hD => by
  rw [show d = 256 by omega] at hD
  match L, hD with
  | [], _ => simp
  | [x], _ => simp
  | x :: y :: l, hD => exact hD.two.elim
 | g + 1, d, L, hgd, hD => by
  have h0 := dst_pow (g := g) (d := d + 1) (by omega) (hD.half (by omega) false)
  have h1 := dst_pow (g := g) (d := d + 1) (by omega) (hD.half (by omega) true)
  have := half_len (L := L) (d := d)
  rw [Nat.pow_succ]
  omega
def Near (x : By) (L L' : List (By × By)) : Prop := L'.filter (fun y => decide (y.1 ≠ x)) = L.filter fun y => decide (y.1 ≠ x)
theorem Near.half {x : By} {L L' : List (By × By)} (h : Near x L L') (d : Int) (b : Bool) : Near x (halfL L d b) (halfL L' d b) := by
 unfold Near halfL at *
 rw [List.filter_filter, List.filter_filter]
 have e : ∀ M : List (By × By), M.filter (fun a => decide (a.1 ≠ x) && bitI a.1 d == b) = (M.filter fun y => decide (y.1 ≠ x)).filter fun a => bitI a.1 d == b := fun M => by
  rw [List.filter_filter]
  congr 1
  funext a
  exact Bool.and_comm _ _
 rw [e, e, h]
theorem Near.other {x : By} {L L' : List (By × By)} (h : Near x L L') (d : Int) (b : Bool) (hb : bitI x d ≠ b) : halfL L' d b = halfL L d b := by
 have h' := h.half d b
 unfold Near at h'
 have e : ∀ M : List (By × By), (halfL M d b).filter (fun y => decide (y.1 ≠ x)) = halfL M d b := fun M => List.filter_eq_self.2 fun y hy => by
  have := (List.mem_filter.1 hy).2
  simp only [beq_iff_eq] at this
  simp only [ne_eq, decide_eq_true_eq]
  rintro e
  rw [e] at this
  exact hb this
 rwa [e, e] at h'
theorem near_put {x v : By} : ∀ {L : List (By × By)} {b : Bool}, (putG x v L b).filter (fun y => decide (y.1 ≠ x)) = L.filter fun y => decide (y.1 ≠ x)
 | [], b => by unfold putG; cases b <;> simp
 | e :: l, b => by
  unfold putG
  rw [List.filter_append, List.filter_append, near_put (L := l), List.filter_cons]
  have h1 : (if b = false ∧ lt e.1 x = false then [(x, v)] else ([] : List (By × By))).filter (fun y => decide (y.1 ≠ x)) = [] := by split <;> simp
  rw [h1, List.nil_append]
  by_cases h : e.1 = x <;> simp [h]
theorem near_len {x : By} {L L' : List (By × By)} (h : Near x L L') (hn : (L'.map (·.1)).Nodup) : L'.length ≤ L.length + 1 := by
 have h1 : (L.filter fun y => decide (y.1 ≠ x)).length ≤ L.length := List.length_filter_le _ _
 have h2 : ∀ M : List (By × By), (M.map (·.1)).Nodup → M.length ≤ (M.filter fun y => decide (y.1 ≠ x)).length + 1 := by
  intro M
  induction M with
  | nil => simp
  | cons e M ih =>
   intro hn
   rw [List.map_cons, List.nodup_cons] at hn
   rw [List.filter_cons]
   by_cases hx : e.1 = x
   ·have : M.filter (fun y => decide (y.1 ≠ x)) = M := List.filter_eq_self.2 fun y hy => by
     simp only [ne_eq, decide_eq_true_eq]
     intro e2
     exact hn.1 (List.mem_map.2 ⟨y, hy, e2.trans hx.symm⟩)
    rw [this]
    simp [hx]
   ·have := ih hn.2
    simp [hx] at this ⊢
    omega
 have := h2 L' hn
 rw [h] at this
 omega
theorem small_half {g d : Nat} {L : List (By × By)} (hs : (wh (g + 1) d L).length ≤ 512) (hL : D32p L) (b : Bool) : (wh g (d + 1) (halfL L d b)).length ≤ 512 := by
 by_cases h2 : 2 ≤ L.length
 ·rw [wh_halves h2] at hs
  cases b <;> omega
 ·have hl := half_len (L := L) (d := d)
  exact Nat.le_trans (wh_lt2 (by cases b <;> omega) hL.half) (by decide)
theorem rest_small {g d : Nat} {h : List (By × By)} (hs : (wh g d h).length ≤ 512) : (restB (sv g d h) h).length ≤ 1 ∧ (h.length < 2 → (restB (sv g d h) h).length = 0) := by
 unfold restB
 rw [sv_small hs]
 split
 ·simp
 ·rename_i h2
  exact ⟨Nat.le_refl _, fun h => (h2 h).elim⟩
theorem sv_len_big {g d : Nat} {L : List (By × By)} (h : ¬ (wh (g + 1) d L).length ≤ 512) : (sv (g + 1) d L).length = 1 + (restB (sv g (d + 1) (halfL L d false)) (halfL L d false)).length + (restB (sv g (d + 1) (halfL L d true)) (halfL L d true)).length := by
 rw [sv_big h]
 simp
 omega
theorem few_new {x : By} : ∀ {g d : Nat} {L L' : List (By × By)}, g + d = 256 → Dst d L' → D32p L → D32p L' → Near x L L' → (wh g d L).length ≤ 512 → L'.length ≤ 8 → (sv g d L').length ≤ max 1 (g + 1 - (8 - L'.length) / 2)
 | 0, d, L, L', _, _, _, _, _, _, _ => Nat.le_max_left _ _
 | g + 1, d, L, L', hgd, hD, hL, hL', hn, hs, h8 => by
  by_cases hb : (wh (g + 1) d L').length ≤ 512
  ·rw [sv_small hb]; exact Nat.le_max_left _ _
  ·have hlen := half_len (L := L') (d := d)
   have hw := wh_len (g := g + 1) (d := d) hL'
   have hp := dst_pow hgd hD
   have k1 : g ≤ 4 → 7 ≤ L'.length := fun hg => by
    have : (66 + 2 * (g + 1)) * L'.length ≤ 76 * L'.length := Nat.mul_le_mul_right _ (by omega)
    omega
   have k2 : g ≤ 1 → L'.length ≤ 4 := fun hg => Nat.le_trans hp (Nat.pow_le_pow_right (n := 2) (by decide) (by omega : g + 1 ≤ 2))
   rw [sv_len_big hb]
   have key : ∀ b : Bool, bitI x d = b → (restB (sv g (d + 1) (halfL L' d b)) (halfL L' d b)).length ≤ max 1 (g + 1 - (8 - (halfL L' d b).length) / 2) ∧ (restB (sv g (d + 1) (halfL L' d !b)) (halfL L' d !b)).length ≤ 1 ∧ ((halfL L' d !b).length < 2 → (restB (sv g (d + 1) (halfL L' d !b)) (halfL L' d !b)).length = 0) := fun b hb' => by
    refine ⟨?_, ?_⟩
    ·have ih := few_new (x := x) (g := g) (d := d + 1) (L := halfL L d b) (L' := halfL L' d b) (by omega) (hD.half (by omega) b) hL.half hL'.half (hn.half d b) (small_half hs hL b) (by cases b <;> omega)
     unfold restB
     split
     ·simp
     ·exact ih
    ·rw [hn.other d (!b) (by rw [hb']; cases b <;> decide)]
     exact rest_small (small_half hs hL (!b))
   cases hx : bitI x d
   ·obtain ⟨q1, q2, q3⟩ := key false hx
    simp only [Bool.not_false] at q2 q3
    omega
   ·obtain ⟨q1, q2, q3⟩ := key true hx
    simp only [Bool.not_true] at q2 q3
    omega
def newIn (S P : List By) : Nat := (P.filter fun p => decide (p ∉ S)).length
theorem newIn_le {S P : List By} : newIn S P ≤ P.length := List.length_filter_le _ _
theorem newIn_app {S P Q : List By} : newIn S (P ++ Q) = newIn S P + newIn S Q := by simp [newIn]
theorem newIn_cons {S Q : List By} {p : By} : newIn S (p :: Q) ≤ 1 + newIn S Q := by
 unfold newIn
 rw [List.filter_cons]
 split <;> simp <;> omega
theorem newIn_sub {S P : List By} (h : ∀ p ∈ P, p ∈ S) : newIn S P = 0 := by
 unfold newIn
 rw [List.filter_eq_nil_iff.2 fun p hp => by simpa using h p hp]
 rfl
theorem sv_new {x : By} {S : List By} : ∀ {g d : Nat} {L L' : List (By × By)}, g + d = 256 → Dst d L → Dst d L' → D32p L → D32p L' → Near x L L' → (∀ p ∈ sv g d L, p ∈ S) → newIn S (sv g d L') ≤ g + 1
 | 0, d, L, L', _, _, _, _, _, _, _ => Nat.le_trans newIn_le (by simp [sv])
 | g + 1, d, L, L', hgd, hD, hD', hL, hL', hn, hS => by
  by_cases hb : (wh (g + 1) d L').length ≤ 512
  ·rw [sv_small hb]; exact Nat.le_trans newIn_le (by simp)
  ·have small : ∀ {g d : Nat} {M M' : List (By × By)}, g + d = 256 → Dst d M → Dst d M' → D32p M → D32p M' → Near x M M' → (wh g d M).length ≤ 512 → newIn S (sv g d M') ≤ g + 1 := fun {g d M M'} hgd hD hD' hM hM' hn hs => by
    have hw := wh_low hgd hD hM
    have hl := near_len hn hD'.nodup
    have h8 : M'.length ≤ 8 := by omega
    have := few_new hgd hD' hM hM' hn hs h8
    have := newIn_le (S := S) (P := sv g d M')
    omega
   by_cases hs : (wh (g + 1) d L).length ≤ 512
   ·exact small hgd hD hD' hL hL' hn hs
   ·rw [sv_big hb]
    refine Nat.le_trans newIn_cons ?_
    rw [newIn_app]
    have hS' : ∀ b, ∀ p ∈ restB (sv g (d + 1) (halfL L d b)) (halfL L d b), p ∈ S := fun b p hp => by
     apply hS
     rw [sv_big hs]
     cases b
     ·exact List.mem_cons_of_mem _ (List.mem_append_left _ hp)
     ·exact List.mem_cons_of_mem _ (List.mem_append_right _ hp)
    have key : ∀ b : Bool, bitI x d = b → newIn S (restB (sv g (d + 1) (halfL L' d b)) (halfL L' d b)) ≤ g + 1 ∧ newIn S (restB (sv g (d + 1) (halfL L' d !b)) (halfL L' d !b)) = 0 := fun b hb' => by
     refine ⟨?_, ?_⟩
     ·unfold restB
      split
      ·exact Nat.zero_le _
      ·by_cases h2 : (halfL L d b).length < 2
       ·exact small (by omega) (hD.half (by omega) b) (hD'.half (by omega) b) hL.half hL'.half (hn.half d b) (Nat.le_trans (wh_lt2 h2 hL.half) (by decide))
       ·refine sv_new (by omega) (hD.half (by omega) b) (hD'.half (by omega) b) hL.half hL'.half (hn.half d b) fun p hp => hS' b p ?_
        unfold restB
        rw [if_neg h2]
        exact hp
     ·rw [hn.other d (!b) (by rw [hb']; cases b <;> decide)]
      exact newIn_sub (hS' (!b))
    cases hx : bitI x d
    ·obtain ⟨q1, q2⟩ := key false hx
     simp only [Bool.not_false] at q2
     omega
    ·obtain ⟨q1, q2⟩ := key true hx
     simp only [Bool.not_true] at q2
     omega
end Go.Proofs.Ytonlmjpenonabaa

namespace Go.Proofs.Ytonlmjpenonabaa
open Go Go.RowKit K SH PT
section
variable {m : Mem} {wI : World}
theorem c_pagesShared {va vv : Value} {A V : List By} {x v : By} (him : Im m wI) (ha : DigM m va A) (hv : DigM m vv V) (hx : x.length = 32) (hv32 : v.length = 32) (hA9 : A.length ≤ 9223372036854775807) (hV9 : V.length ≤ 9223372036854775807) :
  Ret Try.prog 5 #[va, vv, arr x, arr v] wI fun v w' => Tch wI w' [] [] ∧ v = .bool true := by
 have st := St.start him
 obtain ⟨a1, c1, rfl⟩ := ha.sl
 obtain ⟨a2, c2, rfl⟩ := hv.sl
 refine ret_of Try.call5 Try.func5 rfl Try.ntmps5 Try.results5 rfl ?_
 refine wc_seq ?_
 refine wc_region ?_
 refine wl_box (v := arr x) rfl st rfl ?_
 intro b6 w st
 refine wl_box (v := arr v) rfl st rfl ?_
 intro b7 w st
 refine wl_val (v_assign' (by conv => (lhs; whnf))) rfl ?_
 refine wl_nil ?_
 refine then_go ?_
 refine wc_seq ?_
 refine wc_seq ?_
 refine wc_region ?_
 refine wl_val (v_move' (by conv => (lhs; whnf))) rfl ?_
 refine wl_call rfl (c_few17 st.im) rfl ?_
 rintro v20 w ⟨t20, rfl⟩
 have st := st.pure t20
 refine wl_val (v_not rfl) rfl ?_
 refine wl_nil ?_
 refine then_go ?_
 refine wc_cond rfl (fun h21 => ?_) (fun h21 => ?_)
 ·refine wc_seq ?_
  refine wc_region ?_
  refine wl_call rfl (c_works17 st.im) rfl ?_
  rintro v22 w ⟨t22, rfl⟩
  have st := st.pure t22
  refine wl_val (v_assign' (by conv => (lhs; whnf))) rfl ?_
  refine wl_nil ?_
  refine then_go ?_
  refine wc_ret (then_ret ?_)
  exact ret1 rfl ⟨(st.keepOnly (l := []) (List.nil_sublist _)).touch, rfl⟩
 ·refine wc_skip ?_
  refine then_go ?_
  refine wc_seq ?_
  refine wc_region ?_
  refine wl_val (v_move' (by conv => (lhs; whnf))) rfl ?_
  refine wl_val (v_move' (by conv => (lhs; whnf))) rfl ?_
  have hA : A.length ≤ 40 := by simp at h21; omega
  have hz : (A.zip V).length ≤ 40 := by simp; omega
  have hol := length_ofLv (A.zip V)
  obtain ⟨hfD, hfU, hfd⟩ := ofLv_fine (d32_zip ha.1 hv.1)
  refine wl_call rfl (c_tof' st.im ha hv (by omega)) rfl ?_
  rintro v25 w ⟨t25, m1, hg1, hi1, p, rfl, hp⟩
  have st := st.grown hg1 t25 hi1
  obtain ⟨L, hL⟩ : ∃ L, L = ofLv (A.zip V) := ⟨_, rfl⟩
  rw [← hL] at hp hol hfD hfU hfd
  have hL40 : L.length ≤ 40 := by omega
  refine wl_val (v_assign' (by conv => (lhs; whnf))) rfl ?_
  refine wl_nil ?_
  refine then_go ?_
  refine wc_seq ?_
  refine wc_seq ?_
  refine wc_region ?_
  refine wl_val (v_move' (by conv => (lhs; whnf))) rfl ?_
  refine wl_val (v_eq_nil Try.underlying25 rfl rfl) rfl ?_
  refine wl_nil ?_
  refine then_go ?_
  refine wc_false rfl ?_
  refine wc_skip ?_
  refine then_go ?_
  refine wc_seq ?_
  refine wc_region ?_
  refine wl_val (v_move' (by conv => (lhs; whnf))) rfl ?_
  refine wl_val (v_load rfl (st.reads (v := arr x) 1 rfl TF.t28 (getV_all (by rw [size_arr]; exact hx)))) rfl ?_
  refine wl_val (v_load rfl (st.reads (v := arr v) 0 rfl TF.t28 (getV_all (by rw [size_arr]; exact hv32)))) rfl ?_
  refine wl_call rfl (c_tput' st.im hp hx hv32 hfD (by omega)) rfl ?_
  rintro v31 w ⟨t31, m2, hg2, hi2, p2, rfl, hp2⟩
  have st := st.grown hg2 t31 hi2
  have hp := hp.mono hg2.le
  obtain ⟨L2, hL2⟩ : ∃ L2, L2 = putL x v L := ⟨_, rfl⟩
  have hD2 := hfD.put (v := v) hx
  have hU2 := (up_putG (v := v) (b := false) hx hfU (fun y hy => (hfd y hy).1) (fun h => by cases h)).1
  have hd2 := hfd.put hx hv32
  have hnear : Near x L (putL x v L) := near_put
  have hl2 : (putL x v L).length ≤ L.length + 1 := length_putG
  change Up (putL x v L) at hU2
  rw [← hL2] at hD2 hU2 hd2 hp2 hnear hl2
  have hcount := sv_new (g := 256) (S := sv 256 0 L) rfl hfD hD2 hfd hd2 hnear (fun p hp => hp)
  refine wl_val (v_assign' (by conv => (lhs; whnf))) rfl ?_
  refine wl_nil ?_
  refine then_go ?_
  refine wc_seq ?_
  refine wc_seq ?_
  refine wc_region ?_
  refine wl_val (v_move' (by conv => (lhs; whnf))) rfl ?_
  refine wl_val (v_eq_nil Try.underlying25 rfl rfl) rfl ?_
  refine wl_nil ?_
  refine then_go ?_
  refine wc_false rfl ?_
  refine wc_skip ?_
  refine then_go ?_
  refine wc_seq ?_
  refine wc_region ?_
  refine wl_val (v_move' (by conv => (lhs; whnf))) rfl ?_
  refine wl_call rfl (c_save st.im hp hfD hfU hfd (by omega)) rfl ?_
  rintro v36 w ⟨t36, m3, hg3, hi3, lv1, N1, rfl, hN1, hs1⟩
  have st := st.grown hg3 t36 hi3
  have hp2 := hp2.mono hg3.le
  obtain ⟨na, nc, hlv1⟩ : ∃ a c, lv1 = .slice a N1.length c := by obtain ⟨⟨_, a, c, h, _⟩, _⟩ := hN1; exact ⟨a, c, h⟩
  subst hlv1
  refine wl_val (v_move' (by conv => (lhs; whnf))) rfl ?_
  refine wl_val (v_extract rfl rfl) rfl ?_
  refine wl_val (v_extract rfl rfl) rfl ?_
  refine wl_alloc TF.z28 st rfl ?_
  intro b11 w st
  refine wl_storeW (cs := (bs (sum (pg1 256 0 L))).toArray) 0 st rfl TF.t28 rfl rfl (by rw [List.size_toArray, length_bs, length_sum]) rfl (one_bs _) ?_
  intro w st
  refine wl_val (v_assign' (by conv => (lhs; whnf))) rfl ?_
  refine wl_nil ?_
  refine then_go ?_
  refine wc_seq ?_
  refine wc_region ?_
  refine wl_val (v_move' (by conv => (lhs; whnf))) rfl ?_
  refine wl_call rfl (c_save st.im hp2 hD2 hU2 hd2 (by omega)) rfl ?_
  rintro v41 w ⟨t41, m4, hg4, hi4, lv2, N2, rfl, hN2, hs2⟩
  have st := st.grown hg4 t41 hi4
  have hN1 := hN1.mono hg4.le
  obtain ⟨nb, nd, hlv2⟩ : ∃ a c, lv2 = .slice a N2.length c := by obtain ⟨⟨_, a, c, h, _⟩, _⟩ := hN2; exact ⟨a, c, h⟩
  subst hlv2
  refine wl_val (v_move' (by conv => (lhs; whnf))) rfl ?_
  refine wl_val (v_extract rfl rfl) rfl ?_
  refine wl_val (v_extract rfl rfl) rfl ?_
  refine wl_alloc TF.z28 st rfl ?_
  intro b13 w st
  refine wl_storeW (cs := (bs (sum (pg1 256 0 L2))).toArray) 0 st rfl TF.t28 rfl rfl (by rw [List.size_toArray, length_bs, length_sum]) rfl (one_bs _) ?_
  intro w st
  have hNS1 : N1.length = (sv 256 0 L).length := by rw [← hs1, List.length_map]
  have hNS2 : N2.length = (sv 256 0 L2).length := by rw [← hs2, List.length_map]
  have hN1l : N1.length ≤ 1000000 := by have h := sv_len (g := 256) (d := 0) (L := L); omega
  have hN2l : N2.length ≤ 1000000 := by have h := sv_len (g := 256) (d := 0) (L := L2); omega
  have hN21 : 1 ≤ N2.length := by rw [hNS2, sv_eq]; simp
  rw [← hs1, ← hs2] at hcount
  refine wl_val (v_assign' (by conv => (lhs; whnf))) rfl ?_
  refine wl_nil ?_
  refine then_go ?_
  refine wc_seq ?_
  refine wc_region ?_
  refine wl_val (v_assign' (by conv => (lhs; whnf))) rfl ?_
  refine wl_nil ?_
  refine then_go ?_
  refine wc_seq ?_
  refine wc_seq ?_
  refine wc_region ?_
  refine wl_val (v_assign' (by conv => (lhs; whnf))) rfl ?_
  refine wl_nil ?_
  refine then_go ?_
  refine wc_block ?_
  obtain ⟨d0, hd0⟩ : ∃ d0 : List Ent, d0 = [K.blk b13 (bs (sum (pg1 256 0 L2))).toArray 28, K.blk b11 (bs (sum (pg1 256 0 L))).toArray 28, K.blk b7 (arr v).cells 28, K.blk b6 (arr x).cells 28] := ⟨_, rfl⟩
  have st : St m m4 [] wI w d0 := hd0 ▸ st
  refine wc_loop (S := Nat) (fun q r w' => ∃ (i k : Nat), q + i = N2.length ∧ r 12 = .slice na N1.length nc ∧ r 14 = .slice nb N2.length nd ∧ r 15 = .int .i64 k ∧ r 16 = .int .i64 i ∧ k = newIn (N1.map (·.1)) ((N2.take i).map (·.1)) ∧ St m m4 [] wI w' d0) id N2.length ⟨0, 0, by omega, rfl, rfl, rfl, rfl, rfl, st⟩ ?_
  clear st
  rintro q r w2 ⟨i, k, hqi, g12, g14, g15, g16, hki, st⟩
  refine wc_o 12 g12 (wc_o 14 g14 (wc_o 15 g15 (wc_o 16 g16 ?_)))
  refine wc_seq ?_
  refine wc_seq ?_
  refine wc_region ?_
  refine wl_val (v_move' (by conv => (lhs; whnf))) rfl ?_
  refine wl_val (v_move' (by conv => (lhs; whnf))) rfl ?_
  refine wl_val (v_len_s Try.underlying29 rfl) rfl ?_
  refine wl_val (v_lss rfl rfl) rfl ?_
  refine wl_nil ?_
  refine then_go ?_
  refine wc_if rfl (fun h47 => ?_) (fun h47 => ?_)
  ·refine wc_skip ?_
   refine then_go ?_
   refine wc_seq ?_
   refine wc_block ?_
   refine wc_seq ?_
   refine wc_region ?_
   refine wl_val (v_assign' (by conv => (lhs; whnf))) rfl ?_
   refine wl_nil ?_
   refine then_go ?_
   refine wc_seq ?_
   refine wc_seq ?_
   refine wc_region ?_
   refine wl_val (v_assign' (by conv => (lhs; whnf))) rfl ?_
   refine wl_nil ?_
   refine then_go ?_
   refine wc_block ?_
   have hi : i < N2.length := by omega
   obtain ⟨eb, eo, _, hev, hse, hre⟩ := hN2.elem hi
   cases hev
   refine wc_loop (S := Nat) (fun q r w' => ∃ (j : Nat) (th : Bool), q + j = N1.length ∧ r 12 = .slice na N1.length nc ∧ r 14 = .slice (some ⟨eb, eo, none⟩) N2.length nd ∧ r 15 = .int .i64 k ∧ r 16 = .int .i64 i ∧ r 17 = .bool th ∧ r 18 = .int .i64 j ∧ (th = true ↔ N2[i].1 ∈ (N1.take j).map (·.1)) ∧ St m m4 [] wI w' d0) id N1.length ⟨0, false, by omega, rfl, rfl, rfl, rfl, rfl, rfl, by simp, st⟩ ?_
   clear st
   rintro q2 r w3 ⟨j, th, hqj, g12, g14, g15, g16, g17, g18, hth, st⟩
   refine wc_o 12 g12 (wc_o 14 g14 (wc_o 15 g15 (wc_o 16 g16 (wc_o 17 g17 (wc_o 18 g18 ?_)))))
   refine wc_seq ?_
   refine wc_seq ?_
   refine wc_region ?_
   refine wl_val (v_move' (by conv => (lhs; whnf))) rfl ?_
   refine wl_val (v_move' (by conv => (lhs; whnf))) rfl ?_
   refine wl_val (v_len_s Try.underlying29 rfl) rfl ?_
   refine wl_val (v_lss rfl rfl) rfl ?_
   refine wl_nil ?_
   refine then_go ?_
   refine wc_if rfl (fun h53 => ?_) (fun h53 => ?_)
   ·refine wc_skip ?_
    refine then_go ?_
    refine wc_seq ?_
    refine wc_block ?_
    rcases Bool.eq_false_or_eq_true th with htt | htt
    ·have hj : j < N1.length := by omega
     obtain ⟨fb, fo, _, hfv, hsf, hrf⟩ := hN1.elem hj
     cases hfv
     have htk : N1.take (j + 1) = N1.take j ++ [N1[j]] := List.take_succ_eq_append_getElem hj
     subst htt
     refine wc_draw TF.mixed ?_
     have st := st.pure (touch_drew _)
     refine fl_val 0 rfl (fun _ => (v_move' (by conv => (lhs; whnf)))) rfl (by kernel_rfl) ?_
     refine fl_val 1 rfl (fun _ => (v_move' (by conv => (lhs; whnf)))) rfl (by kernel_rfl) ?_
     refine fl_off 2 rfl rfl rfl rfl rfl rfl (by kernel_rfl) ?_
     refine fl_off 3 rfl rfl rfl rfl rfl rfl (by kernel_rfl) ?_
     refine fl_off 4 rfl rfl rfl rfl rfl rfl (by kernel_rfl) ?_
     refine fl_offd 5 rfl rfl rfl rfl rfl rfl (by kernel_rfl) ?_
     refine fl_offd 6 rfl rfl rfl rfl rfl rfl (by kernel_rfl) ?_
     refine fl_off 7 rfl rfl rfl rfl rfl rfl (by kernel_rfl) ?_
     refine fl_off 8 rfl rfl rfl rfl rfl rfl (by kernel_rfl) ?_
     refine fl_off 9 rfl rfl rfl rfl rfl rfl (by kernel_rfl) ?_
     refine fl_offd 10 rfl rfl rfl rfl rfl rfl (by kernel_rfl) ?_
     refine fl_offd 11 rfl rfl rfl rfl rfl rfl (by kernel_rfl) ?_
     refine fl_off 12 rfl rfl rfl rfl rfl rfl (by kernel_rfl) ?_
     refine fl_val 13 rfl (fun _ => (v_pick rfl)) rfl (by kernel_rfl) ?_
     refine fl_eff1 14 [] [] (by kernel_rfl) ⟨obl_off rfl rfl rfl rfl rfl rfl, obl_off rfl rfl rfl rfl rfl rfl, obl_off rfl rfl rfl rfl rfl rfl, obl_off rfl rfl rfl rfl rfl rfl, trivial⟩ rfl ?_
     refine wl_val (v_assign' (by conv => (lhs; whnf))) rfl ?_
     refine wl_nil ⟨rfl, ?_⟩
     refine fl_nil (by kernel_rfl) trivial ?_
     refine block_go (then_go ?_)
     refine wc_region ?_
     refine wl_val (v_move' (by conv => (lhs; whnf))) rfl ?_
     refine wl_val (v_add' (c := ((j + 1 : Nat) : Int)) rfl rfl (by omega) (by omega) (by omega)) rfl ?_
     refine wl_val (v_assign' (by conv => (lhs; whnf))) rfl ?_
     refine wl_nil ?_
     refine then_go ?_
     refine ⟨q2 - 1, by simp; omega, j + 1, _, by omega, rfl, rfl, rfl, rfl, rfl, rfl, ?_, st⟩
     rw [htk, List.map_append, List.mem_append, List.map_singleton, List.mem_singleton]
     first
     | (exact ⟨fun _ => .inl (hth.1 rfl), fun _ => rfl⟩)
     | (rw [decide_eq_true_eq, ← hth]; simp [eq_comm])
    ·have hj : j < N1.length := by omega
     obtain ⟨fb, fo, _, hfv, hsf, hrf⟩ := hN1.elem hj
     cases hfv
     have htk : N1.take (j + 1) = N1.take j ++ [N1[j]] := List.take_succ_eq_append_getElem hj
     subst htt
     refine wc_draw TF.mixed ?_
     have st := st.pure (touch_drew _)
     refine fl_val 0 rfl (fun _ => (v_move' (by conv => (lhs; whnf)))) rfl (by kernel_rfl) ?_
     refine fl_val 1 rfl (fun _ => (v_move' (by conv => (lhs; whnf)))) rfl (by kernel_rfl) ?_
     refine fl_on 2 rfl rfl rfl rfl (fun _ => (v_move' (by conv => (lhs; whnf)))) rfl (by kernel_rfl) ?_
     refine fl_on 3 rfl rfl rfl rfl (fun _ => (v_move' (by conv => (lhs; whnf)))) rfl (by kernel_rfl) ?_
     refine fl_on 4 rfl rfl rfl rfl (fun _ => (v_ias j Try.underlying29 TF.t37 rfl rfl (by first | rfl | omega) (by first | omega | (dsimp only at *; omega)))) rfl (by kernel_rfl) ?_
     refine fl_ond 5 rfl rfl rfl rfl (v_load rfl (hrf st.im)) rfl (by kernel_rfl) ?_
     refine fl_ond 6 rfl rfl rfl rfl (v_b2s Try.underlying37 Try.underlying5 Try.underlying9 st.im hsf rfl) rfl (by kernel_rfl) ?_
     refine fl_on 7 rfl rfl rfl rfl (fun _ => (v_move' (by conv => (lhs; whnf)))) rfl (by kernel_rfl) ?_
     refine fl_on 8 rfl rfl rfl rfl (fun _ => (v_move' (by conv => (lhs; whnf)))) rfl (by kernel_rfl) ?_
     refine fl_on 9 rfl rfl rfl rfl (fun _ => (v_ias i Try.underlying29 TF.t37 rfl rfl (by first | rfl | omega) (by first | omega | (dsimp only at *; omega)))) rfl (by kernel_rfl) ?_
     refine fl_ond 10 rfl rfl rfl rfl (v_load rfl (hre st.im)) rfl (by kernel_rfl) ?_
     refine fl_ond 11 rfl rfl rfl rfl (v_b2s Try.underlying37 Try.underlying5 Try.underlying9 st.im hse rfl) rfl (by kernel_rfl) ?_
     refine fl_on 12 rfl rfl rfl rfl (fun _ => (v_eqs rfl rfl)) rfl (by kernel_rfl) ?_
     refine fl_val 13 rfl (fun _ => (v_pick rfl)) rfl (by kernel_rfl) ?_
     refine fl_eff1 14 [] [] (by kernel_rfl) ⟨obl_on rfl rfl rfl rfl rfl (v_b2s Try.underlying37 Try.underlying5 Try.underlying9 st.im hse rfl), obl_on rfl rfl rfl rfl rfl (v_load rfl (hre st.im)), obl_on rfl rfl rfl rfl rfl (v_b2s Try.underlying37 Try.underlying5 Try.underlying9 st.im hsf rfl), obl_on rfl rfl rfl rfl rfl (v_load rfl (hrf st.im)), trivial⟩ rfl ?_
     refine wl_val (v_assign' (by conv => (lhs; whnf))) rfl ?_
     refine wl_nil ⟨rfl, ?_⟩
     refine fl_nil (by kernel_rfl) trivial ?_
     refine block_go (then_go ?_)
     refine wc_region ?_
     refine wl_val (v_move' (by conv => (lhs; whnf))) rfl ?_
     refine wl_val (v_add' (c := ((j + 1 : Nat) : Int)) rfl rfl (by omega) (by omega) (by omega)) rfl ?_
     refine wl_val (v_assign' (by conv => (lhs; whnf))) rfl ?_
     refine wl_nil ?_
     refine then_go ?_
     refine ⟨q2 - 1, by simp; omega, j + 1, _, by omega, rfl, rfl, rfl, rfl, rfl, rfl, ?_, st⟩
     rw [htk, List.map_append, List.mem_append, List.map_singleton, List.mem_singleton]
     first
     | (exact ⟨fun _ => .inl (hth.1 rfl), fun _ => rfl⟩)
     | (rw [decide_eq_true_eq, ← hth]; simp [eq_comm])
   ·refine wc_exit (then_exit (then_exit (block_hit ?_)))
    refine then_go ?_
    refine wc_seq ?_
    have hjN : j = N1.length := by omega
    subst hjN
    rw [List.take_length] at hth
    have htk2 : N2.take (i + 1) = N2.take i ++ [N2[i]] := List.take_succ_eq_append_getElem hi
    have hkn : newIn (N1.map (·.1)) ((N2.take (i + 1)).map (·.1)) = k + if th then 0 else 1 := by
     rw [htk2, List.map_append, newIn_app, ← hki]
     congr 1
     unfold newIn
     rw [List.map_singleton, List.filter_cons]
     cases th
     ·rw [if_pos (by rw [decide_eq_true_eq]; exact fun h => by simpa using hth.2 h)]; rfl
     ·rw [if_neg (by rw [decide_eq_true_eq]; exact fun h => h (hth.1 rfl))]; rfl
    have hkl : k ≤ i := by
     rw [hki]
     refine Nat.le_trans newIn_le ?_
     rw [List.length_map, List.length_take]
     exact Nat.min_le_left _ _
    refine wc_region ?_
    refine wl_val (v_move' (by conv => (lhs; whnf))) rfl ?_
    refine wl_val (v_not rfl) rfl ?_
    refine wl_nil ?_
    refine then_go ?_
    refine wc_cond rfl (fun h71 => ?_) (fun h71 => ?_)
    ·refine wc_region ?_
     refine wl_val (v_move' (by conv => (lhs; whnf))) rfl ?_
     refine wl_val (v_add' (c := ((k + 1 : Nat) : Int)) rfl rfl (by omega) (by omega) (by omega)) rfl ?_
     refine wl_val (v_assign' (by conv => (lhs; whnf))) rfl ?_
     refine wl_nil ?_
     refine block_go (then_go ?_)
     refine wc_region ?_
     refine wl_val (v_move' (by conv => (lhs; whnf))) rfl ?_
     refine wl_val (v_add' (c := ((i + 1 : Nat) : Int)) rfl rfl (by omega) (by omega) (by omega)) rfl ?_
     refine wl_val (v_assign' (by conv => (lhs; whnf))) rfl ?_
     refine wl_nil ?_
     refine then_go ?_
     refine ⟨q - 1, by simp; omega, i + 1, _, by omega, rfl, rfl, rfl, rfl, ?_, st⟩
     rw [hkn]
     cases th
     ·first | rfl | cases h71
     ·first | rfl | cases h71
    ·refine wc_skip ?_
     refine block_go (then_go ?_)
     refine wc_region ?_
     refine wl_val (v_move' (by conv => (lhs; whnf))) rfl ?_
     refine wl_val (v_add' (c := ((i + 1 : Nat) : Int)) rfl rfl (by omega) (by omega) (by omega)) rfl ?_
     refine wl_val (v_assign' (by conv => (lhs; whnf))) rfl ?_
     refine wl_nil ?_
     refine then_go ?_
     refine ⟨q - 1, by simp; omega, i + 1, _, by omega, rfl, rfl, rfl, rfl, ?_, st⟩
     rw [hkn]
     cases th
     ·first | rfl | cases h71
     ·first | rfl | cases h71
  ·refine wc_exit (then_exit (then_exit (block_hit ?_)))
   refine then_go ?_
   refine wc_seq ?_
   have hiN : i = N2.length := by omega
   subst hiN
   rw [List.take_length] at hki
   refine wc_region ?_
   refine wl_val (v_move' (by conv => (lhs; whnf))) rfl ?_
   refine wl_val (wl_valD (v_leq rfl rfl) (q := true) (decide_eq_true (by omega))) rfl ?_
   refine wl_val (v_move' (by conv => (lhs; whnf))) rfl ?_
   refine wl_on rfl rfl ?_
   refine wl_val (v_move' (by conv => (lhs; whnf))) rfl ?_
   refine wl_on rfl rfl ?_
   refine wl_val (v_len_s Try.underlying29 rfl) rfl ?_
   refine wl_on rfl rfl ?_
   refine wl_val (wl_valD (v_geq rfl rfl) (q := true) (decide_eq_true (by omega))) rfl ?_
   refine wl_val (v_pick rfl) rfl ?_
   refine wl_val (v_move' (by conv => (lhs; whnf))) rfl ?_
   refine wl_on rfl rfl ?_
   refine wl_call rfl (c_works17 st.im) rfl ?_
   rintro v82 w ⟨t82, rfl⟩
   have st := st.pure t82
   refine wl_val (v_pick rfl) rfl ?_
   refine wl_val (v_assign' (by conv => (lhs; whnf))) rfl ?_
   refine wl_nil ?_
   refine then_go ?_
   refine wc_ret ?_
   exact ret1 rfl ⟨(st.keepOnly (l := []) (List.nil_sublist _)).touch, rfl⟩
end
end Go.Proofs.Ytonlmjpenonabaa

namespace Go.Proofs.Ytonlmjpenonabaa
open Go Go.ChangeShapes Go.WideShapes Go.ChangeAt Go.RowKit K SH PT
theorem Try.ownpd : ownKnob Try.prog.godebug = none := by kernel_rfl
theorem Try.laidOutpd : laidOutB Try.prog = true := by kernel_rfl
theorem Try.trodAllpd {H : Type} {enc : TypeId × Value → H} {w : World} {held : Bool} {P : Program} {base : Nat} {spare : Nat → Bool} {t0 t1 t2 t3 : TypeId} {args : Array Value} {ds : List (DataW H)} {ps : List MemPlace} (h : DataW.TrodAll enc P w base spare held [t0, t1, t2, t3] args.toList ds ps) :
  ∃ v0 v1 v2 v3 d0 d1 d2 d3 p0 p1 p2 p3, args = #[v0, v1, v2, v3] ∧ ds = [d0, d1, d2, d3] ∧ ps = p0 ++ p1 ++ p2 ++ p3 ∧ DataW.Trod enc P w base spare held t0 v0 d0 p0 ∧ DataW.Trod enc P w base spare held t1 v1 d1 p1 ∧ DataW.Trod enc P w base spare held t2 v2 d2 p2 ∧ DataW.Trod enc P w base spare held t3 v3 d3 p3 := by
 obtain ⟨v0, vs0, d0, ds0, p0, q0, hargs, rfl, rfl, hd0, h⟩ := trodAll_cons h
 obtain ⟨v1, vs1, d1, ds1, p1, q1, rfl, rfl, rfl, hd1, h⟩ := trodAll_cons h
 obtain ⟨v2, vs2, d2, ds2, p2, q2, rfl, rfl, rfl, hd2, h⟩ := trodAll_cons h
 obtain ⟨v3, vs3, d3, ds3, p3, q3, rfl, rfl, rfl, hd3, h⟩ := trodAll_cons h
 obtain ⟨rfl, rfl, rfl⟩ := trodAll_nil h
 exact ⟨v0, v1, v2, v3, d0, d1, d2, d3, p0, p1, p2, p3, by cases args; simp_all, rfl, by simp, hd0, hd1, hd2, hd3⟩
set_option maxRecDepth 100000 in
theorem pagesShared_lifted (os : Os) (started : os.Started) (H : Type) (enc : TypeId × Value → H) :
  ReturnsInHanded {} Try.checked os 5 .any (Rows.pagesSharedSpec.pre6 enc Try.prog Try.f5 Rows.pagesSharedRow.domain false) (Rows.pagesSharedSpec.post enc Try.prog Try.f5 false true false false) := by
 refine returnsInHanded_of_change (C := Try.checked) Try.ownpd started (by kernel_rfl) Try.func5
  (ChangeSpec.witness6 (enc := enc) (C := Try.checked) false ⟨#[], #[.slice none 0 0, .slice none 0 0, arr z32, arr z32], []⟩ 12 (by kernel_rfl) (by kernel_rfl) (by kernel_rfl) (by kernel_rfl)) ?_
 intro W base args ds gs before hval0 hW hcnd _
 have hval : ∀ (j : Nat) t v, Try.f5.params[j]? = some t → args[j]? = some v → Value.okWide Try.prog W .any base t v := hval0
 have hW' := hW
 obtain ⟨p, q, hA0, hV, rfl, hfz, hnd⟩ := hW
 have hA : DataW.TrodAll enc Try.prog W 0 (fun _ => true) true Try.f5.params.toList args.toList ds p := hA0
 rw [Try.params5] at hA hval
 obtain ⟨v0, v1, v2, v3, d0, d1, d2, d3, p0, p1, p2, p3, rfl, rfl, rfl, h0, h1, h2, h3⟩ := Try.trodAllpd hA
 obtain ⟨fu0, hf0⟩ := h0
 obtain ⟨sa0, sl0, sc0, rfl⟩ := okWide_slice Try.underlying22 (hval 0 22 v0 rfl rfl)
 obtain ⟨l0, hl0, hn0⟩ := open_digs hf0
 obtain ⟨fu1, hf1⟩ := h1
 obtain ⟨sa1, sl1, sc1, rfl⟩ := okWide_slice Try.underlying22 (hval 1 22 v1 rfl rfl)
 obtain ⟨l1, hl1, hn1⟩ := open_digs hf1
 obtain ⟨l2, rfl, hl2⟩ := open_dig (hval 2 28 v2 rfl rfl) h2
 obtain ⟨l3, rfl, hl3⟩ := open_dig (hval 3 28 v3 rfl rfl) h3
 refine Calls.mono (P := Try.prog) (c_pagesShared (im_heapM W) hl0 hl1 hl2 hl3 hn0 hn1).2 fun e W1 ⟨v, he, t, hv⟩ => ?_
 subst hv
 subst he
 exact ⟨_, rfl, post_true Try.laidOutpd (by kernel_rfl) rfl hW' t rfl rfl Try.underlying4⟩
theorem pagesShared_holds : Rows.PagesSharedSaid :=
 OpenClaim.holds_of_wide 5 Try.f5 rfl rfl rfl rfl rfl rfl rfl ⟨rfl, rfl, rfl, rfl, rfl⟩ rfl rfl rfl rfl rfl (by kernel_rfl) Try.func5 (by kernel_rfl)
  (of_decide_eq_true (by kernel_rfl)) (by unfold Func.isWrapper; first | (rw [if_pos (by decide +kernel)]; kernel_rfl) | (rw [if_neg (by decide +kernel)]; exact ⟨rfl, rfl⟩))
  (fun os started H enc _ => pagesShared_lifted os started H enc)
end Go.Proofs.Ytonlmjpenonabaa
