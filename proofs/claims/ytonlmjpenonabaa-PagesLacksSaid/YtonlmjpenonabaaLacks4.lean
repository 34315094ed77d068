/-
  Proved here: for every input the law PagesLacks returns true, and what it was handed reads behind the call as before. No condition.
-/
import Derived.Test.YtonlmjpenonabaaRows
import Derived.Test.YtonlmjpenonabaaLacks3

namespace Go.Proofs.Ytonlmjpenonabaa
open Go Go.RowKit K SH PT
def rdX (M : By → Option By) : Nat → By → By × List (By × By) × Nat
 | 0, _ => ([], [], 0)
 | _ + 1, [] => ([], [], 0)
 | g + 1, k :: b =>
  if k = 1 then (b.drop 64, [(b.take 32, (b.drop 32).take 32)], 1) else
  if k = 2 then ((rdX M g (rdX M g b).1).1, (rdX M g b).2.1 ++ (rdX M g (rdX M g b).1).2.1, (rdX M g b).2.2 + (rdX M g (rdX M g b).1).2.2 + 1) else
  if k = 3 then (b.drop 32, (rdX M g ((M (b.take 32)).getD [])).2.1, (rdX M g ((M (b.take 32)).getD [])).2.2 + 1) else
  (b, [], 1)
def stw : Nat → Nat → List (By × By) → Nat
 | _, _, [] => 1
 | _, _, [_] => 1
 | 0, _, _ :: _ :: _ => 1
 | g + 1, d, x :: y :: l => stw g (d + 1) (halfL (x :: y :: l) d false) + stw g (d + 1) (halfL (x :: y :: l) d true) + 1
def sts (w s : Nat) (h : List (By × By)) : Nat := if h.length < 2 then w else s + 1
def stp : Nat → Nat → List (By × By) → Nat
 | 0, d, L => stw 0 d L
 | g + 1, d, L =>
  if (wh (g + 1) d L).length ≤ 512 then stw (g + 1) d L
  else sts (stw g (d + 1) (halfL L d false)) (stp g (d + 1) (halfL L d false)) (halfL L d false) + sts (stw g (d + 1) (halfL L d true)) (stp g (d + 1) (halfL L d true)) (halfL L d true) + 1
theorem stw_nil {g d : Nat} : stw g d [] = 1 := by cases g <;> rfl
theorem stw_more {g d : Nat} {x y : By × By} {l : List (By × By)} : stw (g + 1) d (x :: y :: l) = stw g (d + 1) (halfL (x :: y :: l) d false) + stw g (d + 1) (halfL (x :: y :: l) d true) + 1 := by rw [stw]
theorem stw_one {g d : Nat} {x : By × By} : stw g d [x] = 1 := by cases g <;> rfl
section
variable {M : By → Option By}
theorem rx_wh : ∀ {g d : Nat} {L : List (By × By)} {t : By} {G : Nat}, g + d = 256 → Dst d L → Up L → D32p L → 2 * (257 - d) + 1 ≤ G → rdX M G (wh g d L ++ t) = (t, L, stw g d L)
 | g, d, [], t, G, hgd, _, _, _, hG => by
  obtain ⟨G, rfl⟩ : ∃ G', G = G' + 1 := ⟨G - 1, by omega⟩
  rw [wh_nil, stw_nil]
  show rdX M (G + 1) (0 :: t) = _
  rw [rdX, if_neg (by decide), if_neg (by decide), if_neg (by decide)]
 | g, d, [x], t, G, hgd, _, _, hL, hG => by
  obtain ⟨G, rfl⟩ : ∃ G', G = G' + 1 := ⟨G - 1, by omega⟩
  obtain ⟨h1, h2⟩ := hL x (by simp)
  rw [wh_one, stw_one]
  show rdX M (G + 1) (1 :: ((x.1 ++ x.2) ++ t)) = _
  rw [rdX, if_pos rfl, List.drop_left' (by simp [h1, h2]), List.append_assoc, List.take_left' h1, List.drop_left' h1, List.take_left' h2]
 | 0, d, x :: y :: L, t, G, hgd, hD, _, _, hG => by
  rw [show d = 256 by omega] at hD
  exact hD.two.elim
 | g + 1, d, x :: y :: L, t, G, hgd, hD, hU, hL, hG => by
  obtain ⟨G, rfl⟩ : ∃ G', G = G' + 1 := ⟨G - 1, by omega⟩
  rw [wh_more (by simp)]
  show rdX M (G + 1) (2 :: ((wh g (d + 1) (halfL (x :: y :: L) d false) ++ wh g (d + 1) (halfL (x :: y :: L) d true)) ++ t)) = _
  rw [rdX, if_neg (by decide), if_pos rfl, List.append_assoc]
  rw [rx_wh (g := g) (d := d + 1) (by omega) (hD.half (by omega) false) (up_half hU) hL.half (by omega)]
  show ((rdX M G (wh g (d + 1) (halfL (x :: y :: L) d true) ++ t)).1, _ ++ (rdX M G (wh g (d + 1) (halfL (x :: y :: L) d true) ++ t)).2.1, _ + (rdX M G (wh g (d + 1) (halfL (x :: y :: L) d true) ++ t)).2.2 + 1) = _
  rw [rx_wh (g := g) (d := d + 1) (by omega) (hD.half (by omega) true) (up_half hU) hL.half (by omega)]
  have e : halfL (x :: y :: L) d false ++ halfL (x :: y :: L) d true = x :: y :: L := (up_part hU hD (by omega)).symm
  simp only [e, stw_more]
def RxP (M : By → Option By) (g : Nat) : Prop := ∀ {d : Nat} {L : List (By × By)} {G : Nat}, g + d = 256 → Dst d L → Up L → D32p L → 2 * (257 - d) + 1 ≤ G → FullL M (sv g d L) → rdX M G (pg1 g d L) = ([], L, stp g d L)
theorem rx_side {g d : Nat} {h : List (By × By)} {t : By} {G : Nat} (ih : RxP M g) (hgd : g + d = 256) (hD : Dst d h) (hU : Up h) (hL : D32p h) (hG : 2 * (257 - d) + 2 ≤ G) (hf : FullL M (restB (sv g d h) h)) :
  rdX M G (sideB (sv g d h) (wh g d h) h ++ t) = (t, h, sts (stw g d h) (stp g d h) h) := by
 by_cases h2 : h.length < 2
 ·rw [sideB, if_pos h2, sts, if_pos h2]
  exact rx_wh hgd hD hU hL (by omega)
 ·rw [restB, if_neg h2] at hf
  rw [sideB, if_neg h2, sts, if_neg h2]
  obtain ⟨G, rfl⟩ : ∃ G', G = G' + 1 := ⟨G - 1, by omega⟩
  show rdX M (G + 1) (3 :: (sum (pg1 g d h) ++ t)) = _
  have hm : pg1 g d h ∈ sv g d h := by rw [sv_eq]; exact List.mem_cons_self
  rw [rdX, if_neg (by decide), if_neg (by decide), if_pos rfl, List.drop_left' (length_sum _), List.take_left' (length_sum _), hf _ hm]
  show (t, (rdX M G (pg1 g d h)).2.1, (rdX M G (pg1 g d h)).2.2 + 1) = _
  rw [ih hgd hD hU hL (by omega) hf]
theorem rx_small {g d : Nat} {L : List (By × By)} {G : Nat} (hs : (wh g d L).length ≤ 512) (hgd : g + d = 256) (hD : Dst d L) (hU : Up L) (hL : D32p L) (hG : 2 * (257 - d) + 1 ≤ G) : rdX M G (pg1 g d L) = ([], L, stp g d L) := by
 have e : pg1 g d L = wh g d L := by unfold pg1; rw [sv_small hs]; rfl
 have e2 : stp g d L = stw g d L := by
  cases g with
  | zero => rfl
  | succ g => rw [stp, if_pos hs]
 have h := rx_wh (M := M) (t := []) hgd hD hU hL hG
 rw [List.append_nil] at h
 rw [e, e2, h]
theorem wh_zero {d : Nat} {L : List (By × By)} (hd : d = 256) (hD : Dst d L) (hL : D32p L) : (wh 0 d L).length ≤ 512 := by
 subst hd
 match L, hD with
 | [], _ => rw [wh_nil]; decide
 | [x], _ => exact Nat.le_trans (wh_lt2 (by simp) hL) (by decide)
 | x :: y :: l, hD => exact hD.two.elim
theorem pg_big {g d : Nat} {L : List (By × By)} (h : ¬ (wh (g + 1) d L).length ≤ 512) : pg1 (g + 1) d L = 2 :: (sideB (sv g (d + 1) (halfL L d false)) (wh g (d + 1) (halfL L d false)) (halfL L d false) ++ sideB (sv g (d + 1) (halfL L d true)) (wh g (d + 1) (halfL L d true)) (halfL L d true)) := by
 unfold pg1; rw [sv_big h]; rfl
theorem full_big {g d : Nat} {L : List (By × By)} (h : ¬ (wh (g + 1) d L).length ≤ 512) (hf : FullL M (sv (g + 1) d L)) (on : Bool) : FullL M (restB (sv g (d + 1) (halfL L d on)) (halfL L d on)) := by
 rw [sv_big h] at hf
 cases on
 ·exact fun q hq => hf q (List.mem_cons_of_mem _ (List.mem_append_left _ hq))
 ·exact fun q hq => hf q (List.mem_cons_of_mem _ (List.mem_append_right _ hq))
theorem rx_page : ∀ {g : Nat}, RxP M g := by
 intro g
 induction g with
 | zero => intro d L G hgd hD hU hL hG _; exact rx_small (wh_zero (by omega) hD hL) hgd hD hU hL hG
 | succ g ih =>
  intro d L G hgd hD hU hL hG hf
  by_cases hs : (wh (g + 1) d L).length ≤ 512
  ·exact rx_small hs hgd hD hU hL hG
  ·obtain ⟨G, rfl⟩ : ∃ G', G = G' + 1 := ⟨G - 1, by omega⟩
   have f0 := full_big hs hf false
   have f1 := full_big hs hf true
   rw [pg_big hs, rdX, if_neg (by decide), if_pos rfl]
   have a0 := rx_side (M := M) (t := sideB (sv g (d + 1) (halfL L d true)) (wh g (d + 1) (halfL L d true)) (halfL L d true)) (G := G) ih (by omega) (hD.half (by omega) false) (up_half hU) hL.half (by omega) f0
   have a1 := rx_side (M := M) (t := []) (G := G) ih (by omega) (hD.half (by omega) true) (up_half hU) hL.half (by omega) f1
   rw [List.append_nil] at a1
   rw [a0]
   show ((rdX M G (sideB (sv g (d + 1) (halfL L d true)) (wh g (d + 1) (halfL L d true)) (halfL L d true))).1, halfL L d false ++ (rdX M G (sideB (sv g (d + 1) (halfL L d true)) (wh g (d + 1) (halfL L d true)) (halfL L d true))).2.1, _ + (rdX M G (sideB (sv g (d + 1) (halfL L d true)) (wh g (d + 1) (halfL L d true)) (halfL L d true))).2.2 + 1) = _
   rw [a1]
   show ([], halfL L d false ++ halfL L d true, _) = _
   rw [← up_part hU hD (by omega), stp, if_neg hs]
def Below (M : By → Option By) (h : List (By × By)) (s : Nat) (Q : By) : Prop := (rdX M 515 Q).2.2 < s ∧ (∀ x ∈ (rdX M 515 Q).2.1, x ∈ h) ∧ (rdX M 515 Q).2.1 ≠ []
def RxB (M : By → Option By) (g : Nat) : Prop := ∀ {d : Nat} {L : List (By × By)}, g + d = 256 → Dst d L → Up L → D32p L → FullL M (sv g d L) → ∀ Q ∈ (sv g d L).tail, Below M L (stp g d L) Q
theorem rx_rest {g d : Nat} {h : List (By × By)} (ih : RxB M g) (hgd : g + d = 256) (hD : Dst d h) (hU : Up h) (hL : D32p h) (hf : FullL M (restB (sv g d h) h)) {Q : By} (hQ : Q ∈ restB (sv g d h) h) : Below M h (sts (stw g d h) (stp g d h) h) Q := by
 unfold restB at hf hQ
 split at hQ
 ·cases hQ
 ·rename_i h2
  rw [if_neg h2] at hf
  rw [sts, if_neg h2]
  rw [sv_eq] at hQ
  rcases List.mem_cons.1 hQ with rfl | hQ
  ·have hr := rx_page (M := M) (G := 515) hgd hD hU hL (by omega) hf
   unfold Below
   rw [hr]
   exact ⟨Nat.lt_succ_self _, fun x hx => hx, fun e => by simp only at e; rw [e] at h2; simp at h2⟩
  ·obtain ⟨b1, b2, b3⟩ := ih hgd hD hU hL hf Q hQ
   exact ⟨by omega, b2, b3⟩
theorem rx_below : ∀ {g : Nat}, RxB M g := by
 intro g
 induction g with
 | zero => intro d L hgd hD hU hL hf Q hQ; simp [sv] at hQ
 | succ g ih =>
  intro d L hgd hD hU hL hf Q hQ
  by_cases hs : (wh (g + 1) d L).length ≤ 512
  ·rw [sv_small hs] at hQ; simp at hQ
  ·have f0 := full_big hs hf false
   have f1 := full_big hs hf true
   rw [sv_big hs, List.tail_cons] at hQ
   rw [stp, if_neg hs]
   rcases List.mem_append.1 hQ with hQ | hQ
   ·obtain ⟨b1, b2, b3⟩ := rx_rest ih (by omega) (hD.half (by omega) false) (up_half hU) hL.half f0 hQ
    exact ⟨by omega, fun x hx => ((mem_half (by omega)).1 (b2 x hx)).1, b3⟩
   ·obtain ⟨b1, b2, b3⟩ := rx_rest ih (by omega) (hD.half (by omega) true) (up_half hU) hL.half f1 hQ
    exact ⟨by omega, fun x hx => ((mem_half (by omega)).1 (b2 x hx)).1, b3⟩
theorem sv_nodup : ∀ {g d : Nat} {L : List (By × By)}, g + d = 256 → Dst d L → Up L → D32p L → FullL M (sv g d L) → (sv g d L).Nodup
 | 0, d, L, _, _, _, _, _ => by simp [sv]
 | g + 1, d, L, hgd, hD, hU, hL, hf => by
  by_cases hs : (wh (g + 1) d L).length ≤ 512
  ·rw [sv_small hs]; simp
  ·have f0 := full_big hs hf false
   have f1 := full_big hs hf true
   have hb := rx_below (M := M) hgd hD hU hL hf
   have hp := rx_page (M := M) (G := 515) hgd hD hU hL (by omega) hf
   have n : ∀ on, (restB (sv g (d + 1) (halfL L d on)) (halfL L d on)).Nodup := fun on => by
    have hf' : FullL M (restB (sv g (d + 1) (halfL L d on)) (halfL L d on)) := full_big hs hf on
    unfold restB at hf' ⊢
    split
    ·simp
    ·rename_i h2
     rw [if_neg h2] at hf'
     exact sv_nodup (by omega) (hD.half (by omega) on) (up_half hU) hL.half hf'
   rw [sv_eq, List.nodup_cons]
   refine ⟨fun hm => ?_, ?_⟩
   ·have := (hb _ hm).1
    rw [hp] at this
    exact Nat.lt_irrefl _ this
   ·rw [sv_big hs, List.tail_cons, List.nodup_append]
    refine ⟨n false, n true, fun a ha b hb' e => ?_⟩
    subst e
    obtain ⟨_, c2, c3⟩ := rx_rest (M := M) rx_below (by omega) (hD.half (by omega) false) (up_half hU) hL.half f0 ha
    obtain ⟨_, e2, _⟩ := rx_rest (M := M) rx_below (by omega) (hD.half (by omega) true) (up_half hU) hL.half f1 hb'
    obtain ⟨x, r, hx⟩ := List.exists_cons_of_ne_nil c3
    have hm : x ∈ (rdX M 515 a).2.1 := by rw [hx]; exact List.mem_cons_self
    have k1 := ((mem_half (by omega)).1 (c2 x hm)).2
    have k2 := ((mem_half (by omega)).1 (e2 x hm)).2
    rw [k1] at k2
    cases k2
end
def NoClash (S : List By) : Prop := ∀ p ∈ S, ∀ q ∈ S, sum p = sum q → p = q
theorem full_of {S : List By} (h : NoClash S) : ∃ M, FullL M S := by
 refine ⟨fun d => S.find? fun p => decide (sum p = d), fun p hp => ?_⟩
 show S.find? (fun q => decide (sum q = sum p)) = some p
 cases hf : S.find? (fun q => decide (sum q = sum p)) with
 | none =>
  have := List.find?_eq_none.1 hf p hp
  simp at this
 | some q =>
  have h1 := List.find?_some hf
  have h2 := List.mem_of_find?_eq_some hf
  exact congrArg some (h q h2 p hp (by simpa using h1))
theorem sv_nd {L : List (By × By)} (hD : Dst 0 L) (hU : Up L) (hL : D32p L) (h : NoClash (sv 256 0 L)) : (sv 256 0 L).Nodup := by
 obtain ⟨M, hM⟩ := full_of h
 exact sv_nodup (M := M) rfl hD hU hL hM
theorem pgM_mem {N : List (By × Value)} {d p : By} (h : pgM (mapOf N) d = some p) : p ∈ N.map (·.1) ∧ sum p = d := by
 unfold pgM at h
 cases hg : getKV d (mapOf N) with
 | none => rw [hg] at h; cases h
 | some x =>
  rw [hg] at h
  obtain ⟨h1, h2⟩ := mapOf_mem (getKV_mem hg)
  simp only [Option.map_some, Option.some.injEq] at h
  subst h
  exact ⟨List.mem_map.2 ⟨_, h2, rfl⟩, h1.symm⟩
theorem lacks_at {S : List By} {N : List (By × Value)} {p : By} (hp : p ∈ S) (hN : ∀ q ∈ N.map (·.1), q ≠ p ∧ ∀ s ∈ S, sum s = sum q → s = q) : HonL (pgM (mapOf N)) S ∧ ¬ FullL (pgM (mapOf N)) S := by
 have key : ∀ s ∈ S, ∀ q, pgM (mapOf N) (sum s) = some q → q = s ∧ q ≠ p := fun s hs q hq => by
  obtain ⟨h1, h2⟩ := pgM_mem hq
  obtain ⟨h3, h4⟩ := hN q h1
  exact ⟨(h4 s hs h2.symm).symm, h3⟩
 refine ⟨fun s hs => ?_, fun hf => ?_⟩
 ·cases hq : pgM (mapOf N) (sum s) with
  | none => exact .inl rfl
  | some q => rw [(key s hs q hq).1]; exact .inr rfl
 ·exact (key p hp p (hf p hp)).2 rfl
end Go.Proofs.Ytonlmjpenonabaa

namespace Go.Proofs.Ytonlmjpenonabaa
open Go Go.RowKit K SH PT
def dg1 (x : UInt8) : By := x :: List.replicate 31 0
def L2 : List (By × By) := [(dg1 1, dg1 7), (dg1 2, dg1 8)]
theorem L2_d32 : D32p L2 := by intro x hx; simp [L2] at hx; rcases hx with rfl | rfl <;> exact ⟨rfl, rfl⟩
theorem L2_of : ofLv L2 = L2 := by decide +kernel
theorem L2_fine : Dst 0 L2 ∧ Up L2 ∧ D32p L2 := by have := ofLv_fine L2_d32; rwa [L2_of] at this
theorem L2_wh : (wh 256 0 L2).length ≤ 512 := by decide +kernel
theorem L2_ne : sum (wh 256 0 L2) ≠ z32 := by decide +kernel
theorem L2_head : ∃ b, wh 256 0 L2 = 2 :: b := ⟨_, wh_more (by decide)⟩
theorem two_ofN {N : List (By × Value)} (h : N.map (·.1) = sv 256 0 L2) : ∃ v, N = [(wh 256 0 L2, v)] := by
 rw [sv_small L2_wh] at h
 cases N with
 | nil => cases h
 | cons x r =>
  rw [List.map_cons, List.cons.injEq, List.map_eq_nil_iff] at h
  exact ⟨x.2, by rw [h.2, ← h.1]⟩
theorem one_map {b : By} {v : Value} {d : By} : pgM (mapOf [(b, v)]) d = if sum b = d then some b else none := by
 simp only [mapOf, List.foldl_cons, List.foldl_nil, insKV, pgM, getKV]
 split <;> rfl
theorem one_ld {b : By} {v : Value} {L : List (By × By)} (hs : sv 256 0 L = [b]) (hD : Dst 0 L) (hU : Up L) (hL : D32p L) : ldF (pgM (mapOf [(b, v)])) (sum b) = (L, 0) := by
 have hM : pgM (mapOf [(b, v)]) (sum b) = some b := by rw [one_map, if_pos rfl]
 have h := (ld_back (M := pgM (mapOf [(b, v)])) hD hU hL (fun q hq => .inr (by rw [hs] at hq; rw [List.mem_singleton.1 hq]; exact hM))).1 (fun q hq => by rw [hs] at hq; rw [List.mem_singleton.1 hq]; exact hM)
 have e : pg1 256 0 L = b := by unfold pg1; rw [hs]; rfl
 rwa [e] at h
theorem one_no {b : By} {v : Value} {d : By} (h : sum b ≠ d) : ldF (pgM (mapOf [(b, v)])) d = ([], 7) := by
 unfold ldF
 rw [pgF_none rfl (by rw [one_map, if_neg h])]
 rfl
section
variable {m : Mem} {wI : World}
theorem c_works17 (him : Im m wI) : Ret Try.prog 13 #[] wI fun v w' => Tch wI w' [] [] ∧ v = .bool true := by
 have st := St.start him
 refine ret_of Try.call13 Try.func13 rfl Try.ntmps13 Try.results13 rfl ?_
 refine wc_seq ?_
 refine wc_region ?_
 refine wl_val (v_assign' (by conv => (lhs; whnf))) rfl ?_
 refine wl_nil ?_
 refine then_go ?_
 refine wc_seq ?_
 refine wc_region ?_
 refine wl_val (v_build_a (c' := (bs (dg1 1)).toArray) [(0, .int .u8 1)] TF.z28 Try.underlying28 TF.t5 rfl ⟨0, 1, rfl, rfl, by decide, rfl⟩) rfl ?_
 refine wl_val (v_build_a (c' := (bs (dg1 2)).toArray) [(0, .int .u8 2)] TF.z28 Try.underlying28 TF.t5 rfl ⟨0, 1, rfl, rfl, by decide, rfl⟩) rfl ?_
 refine wl_lsTwo (bs (dg1 1)) (bs (dg1 2)) Try.underlying22 TF.t28 TF.z28 (by decide) (by decide) rfl rfl rfl rfl st rfl ?_
 intro b10 w st
 have st : St m m [] wI w [digE (.slice (some ⟨b10, 0, none⟩) 2 2) [dg1 1, dg1 2]] := st.rowShut 0 (b := b10) (k := 2) (cap := 2) (size := 32) (xs := digs [dg1 1, dg1 2]) rfl (by decide) rfl (by decide) rfl
 obtain ⟨m1, hg1, hd1, st⟩ := st.keepDig (i := 0) rfl (by intro x hx; simp at hx; rcases hx with rfl | rfl <;> rfl)
 refine wl_val (v_build_a (c' := (bs (dg1 7)).toArray) [(0, .int .u8 7)] TF.z28 Try.underlying28 TF.t5 rfl ⟨0, 1, rfl, rfl, by decide, rfl⟩) rfl ?_
 refine wl_val (v_build_a (c' := (bs (dg1 8)).toArray) [(0, .int .u8 8)] TF.z28 Try.underlying28 TF.t5 rfl ⟨0, 1, rfl, rfl, by decide, rfl⟩) rfl ?_
 refine wl_lsTwo (bs (dg1 7)) (bs (dg1 8)) Try.underlying22 TF.t28 TF.z28 (by decide) (by decide) rfl rfl rfl rfl st rfl ?_
 intro b13 w st
 have st : St m m1 [] wI w [digE (.slice (some ⟨b13, 0, none⟩) 2 2) [dg1 7, dg1 8]] := st.rowShut 0 (b := b13) (k := 2) (cap := 2) (size := 32) (xs := digs [dg1 7, dg1 8]) rfl (by decide) rfl (by decide) rfl
 obtain ⟨m2, hg2, hd2, st⟩ := st.keepDig (i := 0) rfl (by intro x hx; simp at hx; rcases hx with rfl | rfl <;> rfl)
 have hd1 := hd1.mono hg2.le
 refine wl_call rfl (c_tof' st.im hd1 hd2 (by decide)) rfl ?_
 rintro v14 w ⟨t14, m3, hg3, hi3, p, rfl, hp⟩
 have st := st.grown hg3 t14 hi3
 have hp : TreeM m3 p (treeOf L2) := by
  have e : ofLv (([dg1 1, dg1 2] : List By).zip [dg1 7, dg1 8]) = L2 := L2_of
  rw [e] at hp
  exact hp
 refine wl_val (v_assign' (by conv => (lhs; whnf))) rfl ?_
 refine wl_nil ?_
 refine then_go ?_
 refine wc_seq ?_
 refine wc_seq ?_
 refine wc_region ?_
 refine wl_val (v_move' (by conv => (lhs; whnf))) rfl ?_
 refine wl_val (v_eq_nil Try.underlying25 rfl rfl) rfl ?_
 refine wl_nil ?_
 refine then_go ?_
 refine wc_false rfl ?_
 refine wc_skip ?_
 refine then_go ?_
 refine wc_seq ?_
 refine wc_region ?_
 refine wl_val (v_move' (by conv => (lhs; whnf))) rfl ?_
 refine wl_call rfl (c_save st.im hp L2_fine.1 L2_fine.2.1 L2_d32 (by decide)) rfl ?_
 rintro v19 w ⟨t19, m4, hg4, hi4, sv2, N, rfl, hN, hs2⟩
 have st := st.grown hg4 t19 hi4
 have hp := hp.mono hg4.le
 obtain ⟨pv, rfl⟩ := two_ofN hs2
 have e1 : pg1 256 0 L2 = wh 256 0 L2 := by unfold pg1; rw [sv_small L2_wh]; rfl
 have hW1 : sum (wh 256 0 L2) ≠ z32 := L2_ne
 have hW2 : sv 256 0 L2 = [wh 256 0 L2] := sv_small L2_wh
 have hW3 := L2_wh
 have hW4 := L2_head
 rw [e1]
 generalize wh 256 0 L2 = W at *
 obtain ⟨pb, po, _, hpv, hs0, hrp⟩ := hN.elem (i := 0) (by simp)
 obtain ⟨DW, hDW⟩ : ∃ DW, DW = sum W := ⟨_, rfl⟩
 have hDl : DW.length = 32 := by rw [hDW]; exact length_sum _
 rw [← hDW] at hW1 ⊢
 have hW5 : 0 < W.length := by obtain ⟨b, hb⟩ := hW4; rw [hb]; simp
 have hW6 : ((W[0].toNat : Nat) : Int) = 2 := by
  obtain ⟨b, hb⟩ := hW4
  have : W[0]? = some 2 := by rw [hb]; rfl
  rw [List.getElem?_eq_getElem hW5] at this
  rw [Option.some.inj this]; rfl
 obtain ⟨qb, qo, qc, hqv, _⟩ := SlM.ptr1 hs0 hW5 (by decide)
 cases hpv
 have hqv : pv = .slice (some ⟨qb, qo, none⟩) W.length qc := hqv
 subst hqv
 refine wl_val (v_move' (by conv => (lhs; whnf))) rfl ?_
 refine wl_val (v_extract rfl rfl) rfl ?_
 refine wl_val (v_extract rfl rfl) rfl ?_
 refine wl_alloc TF.z28 st rfl ?_
 intro b2 w st
 refine wl_storeW (cs := (bs (DW)).toArray) 0 st rfl TF.t28 rfl rfl (by rw [List.size_toArray, length_bs, hDl]) rfl (one_bs _) ?_
 intro w st
 refine wl_val (v_assign' (by conv => (lhs; whnf))) rfl ?_
 refine wl_nil ?_
 refine then_go ?_
 refine wc_seq ?_
 refine wc_region ?_
 refine wl_val (v_load rfl (st.reads (v := arr (DW)) 0 rfl TF.t28 (getV_all (by rw [List.size_toArray, length_bs, hDl])))) rfl ?_
 refine wl_val (v_move' (by conv => (lhs; whnf))) rfl ?_
 have hNl : ∀ x ∈ [((W : By), Value.slice (some ⟨qb, qo, none⟩) W.length qc)], x.1.length ≤ 1000000000 := fun x hx => by rw [List.mem_singleton.1 hx]; exact Nat.le_trans hW3 (by decide)
 refine wl_call rfl (c_load st.im (hDl) hN hNl (by simp) (by rw [hDW, one_ld hW2 L2_fine.1 L2_fine.2.1 L2_d32]; decide)) rfl ?_
 rintro v25 w ⟨t25, m5, hg5, hi5, hv25⟩
 have st := st.grown hg5 t25 hi5
 unfold LdOut at hv25
 rw [hDW, one_ld hW2 L2_fine.1 L2_fine.2.1 L2_d32, if_neg (by decide), L2_of, e1, if_pos rfl] at hv25
 obtain ⟨p2, rfl, hp2⟩ := hv25
 have hN := hN.mono hg5.le
 have hp := hp.mono hg5.le
 refine wl_val (v_move' (by conv => (lhs; whnf))) rfl ?_
 refine wl_val (v_extract rfl rfl) rfl ?_
 refine wl_val (v_extract rfl rfl) rfl ?_
 refine wl_val (v_assign' (by conv => (lhs; whnf))) rfl ?_
 refine wl_val (v_assign' (by conv => (lhs; whnf))) rfl ?_
 refine wl_nil ?_
 refine then_go ?_
 refine wc_seq ?_
 refine wc_region ?_
 refine wl_val (v_build_a (c' := (bs z32).toArray) [] TF.z28 Try.underlying28 TF.t5 rfl rfl) rfl ?_
 refine wl_val (v_move' (by conv => (lhs; whnf))) rfl ?_
 refine wl_call rfl (c_load (d := z32) st.im rfl hN hNl (by simp) (by rw [one_no (hDW ▸ hW1)]; decide)) rfl ?_
 rintro v31 w ⟨t31, m6, hg6, hi6, hv31⟩
 have st := st.grown hg6 t31 hi6
 unfold LdOut at hv31
 rw [one_no (hDW ▸ hW1), if_pos (by decide)] at hv31
 subst hv31
 have hN := hN.mono hg6.le
 have hp := hp.mono hg6.le
 have hp2 := hp2.mono hg6.le
 obtain ⟨_, _, _, hpv2, hs0, hrp⟩ := hN.elem (i := 0) (by simp)
 cases hpv2
 refine wl_val (v_move' (by conv => (lhs; whnf))) rfl ?_
 refine wl_val (v_extract rfl rfl) rfl ?_
 refine wl_val (v_extract rfl rfl) rfl ?_
 refine wl_val (v_assign' (by conv => (lhs; whnf))) rfl ?_
 refine wl_val (v_assign' (by conv => (lhs; whnf))) rfl ?_
 refine wl_nil ?_
 refine then_go ?_
 refine wc_seq ?_
 refine wc_region ?_
 refine wl_val (v_move' (by conv => (lhs; whnf))) rfl ?_
 refine wl_val (v_len_s Try.underlying29 rfl) rfl ?_
 refine wl_val (v_eqlT (by simp) rfl rfl) rfl ?_
 refine wl_val (v_move' (by conv => (lhs; whnf))) rfl ?_
 refine wl_on rfl rfl ?_
 refine wl_val (v_move' (by conv => (lhs; whnf))) rfl ?_
 refine wl_on rfl rfl ?_
 refine wl_val (v_ias 0 Try.underlying29 TF.t37 rfl rfl (by first | rfl | omega) (by simp)) rfl ?_
 refine wl_on rfl rfl ?_
 refine wl_val (v_load rfl (hrp st.im)) rfl ?_
 refine wl_on rfl rfl ?_
 refine wl_val (v_ias 0 Try.underlying37 TF.t5 rfl rfl (by first | rfl | omega) hW5) rfl ?_
 refine wl_on rfl rfl ?_
 refine wl_val (v_load rfl (SlM.rdB TF.t5 0 hs0 hW5 st.im)) rfl ?_
 refine wl_on rfl rfl ?_
 refine wl_val (v_eqlT hW6 rfl rfl) rfl ?_
 refine wl_val (v_pick rfl) rfl ?_
 refine wl_val (v_move' (by conv => (lhs; whnf))) rfl ?_
 refine wl_on rfl rfl ?_
 refine wl_val (v_move' (by conv => (lhs; whnf))) rfl ?_
 refine wl_on rfl rfl ?_
 refine wl_val (v_eqlT rfl rfl rfl) rfl ?_
 refine wl_val (v_pick rfl) rfl ?_
 refine wl_val (v_move' (by conv => (lhs; whnf))) rfl ?_
 refine wl_on rfl rfl ?_
 refine wl_val (v_move' (by conv => (lhs; whnf))) rfl ?_
 refine wl_on rfl rfl ?_
 refine wl_val (v_ne_nil Try.underlying25 rfl rfl) rfl ?_
 refine wl_val (v_pick rfl) rfl ?_
 refine wl_val (v_move' (by conv => (lhs; whnf))) rfl ?_
 refine wl_on rfl rfl ?_
 refine wl_val (v_move' (by conv => (lhs; whnf))) rfl ?_
 refine wl_on rfl rfl ?_
 refine wl_call rfl (c_troot st.im hp2) rfl ?_
 rintro v55 w ⟨t55, rfl⟩
 have st := st.pure t55
 refine wl_on rfl rfl ?_
 refine wl_val (v_move' (by conv => (lhs; whnf))) rfl ?_
 refine wl_on rfl rfl ?_
 refine wl_call rfl (c_troot st.im hp) rfl ?_
 rintro v57 w ⟨t57, rfl⟩
 have st := st.pure t57
 refine wl_on rfl rfl ?_
 refine wl_val (wl_valD (v_eq_arr Try.underlying28 TF.t5 Try.underlying5 TF.e28 rfl rfl (length_root _) (length_root _)) (decide_eq_true rfl)) rfl ?_
 refine wl_val (v_pick rfl) rfl ?_
 refine wl_val (v_move' (by conv => (lhs; whnf))) rfl ?_
 refine wl_on rfl rfl ?_
 refine wl_val (v_move' (by conv => (lhs; whnf))) rfl ?_
 refine wl_on rfl rfl ?_
 refine wl_val (v_eqlT rfl rfl rfl) rfl ?_
 refine wl_val (v_pick rfl) rfl ?_
 refine wl_val (v_assign' (by conv => (lhs; whnf))) rfl ?_
 refine wl_nil ?_
 refine then_go ?_
 refine wc_ret ?_
 exact ret1 rfl ⟨(st.keepOnly (l := []) (List.nil_sublist _)).touch, rfl⟩
end
end Go.Proofs.Ytonlmjpenonabaa

namespace Go.Proofs.Ytonlmjpenonabaa
open Go Go.RowKit K SH PT
theorem v_nesE {P : Program} {r : Fr} {w : World} {ty T U : TypeId} {x y : Operand} {a b : By} (hx : ev r x = .string (strB a)) (hy : ev r y = .string (strB b)) : Val P (.binOp .neq T x y U) ty r w (.bool (decide (¬ a = b))) w := by
 intro _ _ _ _
 simp only [execOp, eqGuard, hx, hy, binOp, Op.stringOp, strB_toList, Sem.run_bind, Sem.run_pure, Result.andThen_ok]
 by_cases h : a = b
 ·subst h; simp
 ·simp [h]
theorem nc_snoc {S : List By} {q : By} (h : NoClash S) (hq : ∀ p ∈ S, sum p = sum q → p = q) : NoClash (S ++ [q]) := by
 intro a ha b hb e
 rcases List.mem_append.1 ha with ha | ha
 ·rcases List.mem_append.1 hb with hb | hb
  ·exact h a ha b hb e
  ·rw [List.mem_singleton.1 hb] at e ⊢; exact hq a ha e
 ·rw [List.mem_singleton.1 ha] at e ⊢
  rcases List.mem_append.1 hb with hb | hb
  ·exact (hq b hb e.symm).symm
  ·exact (List.mem_singleton.1 hb).symm
section
variable {m : Mem} {wI : World}
theorem c_any17 {lv : Value} {N : List (By × Value)} (him : Im m wI) (hN : PcsM m lv N) (hNl : ∀ x ∈ N, x.1.length ≤ 1000000000) (hNn : N.length ≤ 1000000) :
  Ret Try.prog 19 #[lv] wI fun v w' => Tch wI w' [] [] ∧ ∃ c : Bool, v = .bool c ∧ (c = false → NoClash (N.map (·.1))) := by
 have st := St.start him
 obtain ⟨na, nc, hlv⟩ : ∃ a c, lv = .slice a N.length c := by obtain ⟨⟨_, a, c, h, _⟩, _⟩ := hN; exact ⟨a, c, h⟩
 subst hlv
 have hD32 : ∀ i, D32 ((N.take i).map fun x => sum x.1) := fun i x hx => by
  obtain ⟨y, _, rfl⟩ := List.mem_map.1 hx
  exact length_sum _
 refine ret_of Try.call19 Try.func19 rfl Try.ntmps19 Try.results19 rfl ?_
 refine wc_seq ?_
 refine wc_region ?_
 refine wl_val (v_assign' (by conv => (lhs; whnf))) rfl ?_
 refine wl_nil ?_
 refine then_go ?_
 refine wc_seq ?_
 refine wc_region ?_
 refine wl_val (v_assign' (by conv => (lhs; whnf))) rfl ?_
 refine wl_nil ?_
 refine then_go ?_
 refine wc_seq ?_
 refine wc_seq ?_
 refine wc_region ?_
 refine wl_val (v_assign' (by conv => (lhs; whnf))) rfl ?_
 refine wl_nil ?_
 refine then_go ?_
 refine wc_block ?_
 have st := st.nilDig
 refine wc_loop (S := Nat) (fun q r w' => ∃ (i : Nat) (v : Value), q + i = N.length ∧ r 0 = .slice na N.length nc ∧ r 3 = v ∧ r 4 = .int .i64 i ∧ NoClash ((N.take i).map (·.1)) ∧ St m m [] wI w' [digE v ((N.take i).map fun x => sum x.1)]) id N.length ⟨0, _, by omega, rfl, rfl, rfl, by intro a ha; simp at ha, st⟩ ?_
 clear st
 rintro q r w2 ⟨i, v, hqi, g0, g3, g4, hnc, st⟩
 refine wc_o 0 g0 (wc_o 3 g3 (wc_o 4 g4 ?_))
 refine wc_seq ?_
 refine wc_seq ?_
 refine wc_region ?_
 refine wl_val (v_move' (by conv => (lhs; whnf))) rfl ?_
 refine wl_val (v_move' (by conv => (lhs; whnf))) rfl ?_
 refine wl_val (v_len_s Try.underlying29 rfl) rfl ?_
 refine wl_val (v_lss rfl rfl) rfl ?_
 refine wl_nil ?_
 refine then_go ?_
 refine wc_if rfl (fun h9 => ?_) (fun h9 => ?_)
 ·refine wc_skip ?_
  refine then_go ?_
  refine wc_seq ?_
  refine wc_block ?_
  refine wc_seq ?_
  have hi : i < N.length := by omega
  obtain ⟨nb, no, _, hnv, hs0, hrp⟩ := hN.elem hi
  cases hnv
  have hsl := hNl _ (List.getElem_mem hi)
  refine wc_region ?_
  refine wl_val (v_move' (by conv => (lhs; whnf))) rfl ?_
  refine wl_val (v_move' (by conv => (lhs; whnf))) rfl ?_
  refine wl_val (v_move' (by conv => (lhs; whnf))) rfl ?_
  refine wl_val (v_ias i Try.underlying29 TF.t37 rfl rfl (by first | rfl | omega) (by first | omega | (dsimp only at *; omega))) rfl ?_
  refine wl_val (v_load rfl (hrp st.im)) rfl ?_
  refine wl_call rfl (c_ref3of st.im hs0 (by omega)) rfl ?_
  rintro v17 w ⟨t17, rfl⟩
  have st := st.pure t17
  refine wl_digOne _ (length_sum N[i].1) rfl st rfl ?_
  intro b18 w st
  refine wl_digApp 0 st rfl (length_sum N[i].1) rfl rfl (by simp; omega) rfl ?_
  intro v19 w st hv19
  have e1 : ((N.take i).map fun x => sum x.1) ++ [sum N[i].1] = (N.take (i + 1)).map fun x => sum x.1 := by rw [List.take_succ_eq_append_getElem hi, List.map_append]; rfl
  change St _ _ _ _ _ [digE v19 (((N.take i).map fun x => sum x.1) ++ [sum N[i].1])] at st
  rw [e1] at st
  obtain ⟨va, vc, hvv⟩ := row_sl (st.at (i := 0) rfl)
  subst hvv
  have hDl : ((N.take (i + 1)).map fun x => sum x.1).length = i + 1 := by simp; omega
  have hDM : ∀ {w' : World}, St m m [] wI w' [digE (.slice va ((N.take (i + 1)).map fun x => sum x.1).length vc) ((N.take (i + 1)).map fun x => sum x.1)] → DigM (heapM w') (.slice va ((N.take (i + 1)).map fun x => sum x.1).length vc) ((N.take (i + 1)).map fun x => sum x.1) := fun st => ⟨hD32 _, row_SlM (m := heapM _) (st.at (i := 0) rfl) (fun _ _ _ h => h)⟩
  obtain ⟨vb, vo, hva⟩ := (hDM st).ptr (by omega)
  subst hva
  obtain ⟨DL, hDL⟩ : ∃ DL, DL = (N.take (i + 1)).map fun x => sum x.1 := ⟨_, rfl⟩
  have hDk : ∀ k (hk : k < DL.length) (hkN : k < N.length), DL[k] = sum N[k].1 := fun k hk hkN => by subst hDL; simp
  rw [← hDL] at st hDM hDl ⊢
  refine wl_val (v_assign' (by conv => (lhs; whnf))) rfl ?_
  refine wl_nil ?_
  refine then_go ?_
  refine wc_seq ?_
  refine wc_region ?_
  refine wl_val (v_assign' (by conv => (lhs; whnf))) rfl ?_
  refine wl_nil ?_
  refine then_go ?_
  refine wc_block ?_
  refine wc_loop (S := Nat) (fun q r w' => ∃ (k : Nat), q + k = i ∧ r 0 = .slice (some ⟨nb, no, none⟩) N.length nc ∧ r 3 = .slice (some ⟨vb, vo, none⟩) DL.length vc ∧ r 4 = .int .i64 i ∧ r 5 = .int .i64 k ∧ (∀ p ∈ (N.take k).map (·.1), sum p = sum N[i].1 → p = N[i].1) ∧ St m m [] wI w' [digE (.slice (some ⟨vb, vo, none⟩) DL.length vc) DL]) id i ⟨0, by omega, rfl, rfl, rfl, rfl, by intro p hp; simp at hp, st⟩ ?_
  clear st
  rintro q2 r w3 ⟨k, hqk, g0, g3, g4, g5, hin, st⟩
  refine wc_o 0 g0 (wc_o 3 g3 (wc_o 4 g4 (wc_o 5 g5 ?_)))
  refine wc_seq ?_
  refine wc_seq ?_
  refine wc_region ?_
  refine wl_val (v_move' (by conv => (lhs; whnf))) rfl ?_
  refine wl_val (v_move' (by conv => (lhs; whnf))) rfl ?_
  refine wl_val (v_lss rfl rfl) rfl ?_
  refine wl_nil ?_
  refine then_go ?_
  refine wc_if rfl (fun h22 => ?_) (fun h22 => ?_)
  ·refine wc_skip ?_
   refine then_go ?_
   refine wc_seq ?_
   refine wc_block ?_
   refine wc_seq ?_
   by_cases hsum : sum N[k].1 = sum N[i].1
   ·have hk : k < i := by omega
    have hkN : k < N.length := by omega
    obtain ⟨_, _, _, hnv2, hs1, hrk⟩ := hN.elem hkN
    cases hnv2
    refine wc_draw TF.mixed ?_
    have st := st.pure (touch_drew _)
    refine fl_val 0 rfl (fun _ => (v_move' (by conv => (lhs; whnf)))) rfl (by kernel_rfl) ?_
    refine fl_val 1 rfl (fun _ => (v_move' (by conv => (lhs; whnf)))) rfl (by kernel_rfl) ?_
    refine fl_val 2 rfl (fun _ => (v_ias k Try.underlying22 TF.t28 rfl rfl (by first | rfl | omega) (by first | omega | (dsimp only at *; omega)))) rfl (by kernel_rfl) ?_
    refine fl_ld 3 rfl (v_load rfl ((hDM st).rd rfl (by omega) (hDk k (by omega) hkN) (im_heapM _))) (by kernel_rfl) ?_
    refine fl_val 4 rfl (fun _ => (v_move' (by conv => (lhs; whnf)))) rfl (by kernel_rfl) ?_
    refine fl_val 5 rfl (fun _ => (v_move' (by conv => (lhs; whnf)))) rfl (by kernel_rfl) ?_
    refine fl_val 6 rfl (fun _ => (v_ias i Try.underlying22 TF.t28 rfl rfl (by first | rfl | omega) (by first | omega | (dsimp only at *; omega)))) rfl (by kernel_rfl) ?_
    refine fl_ld 7 rfl (v_load rfl ((hDM st).rd rfl (by omega) (hDk i (by omega) hi) (im_heapM _))) (by kernel_rfl) ?_
    refine fl_val 8 rfl (fun _ => (wl_valD (v_eq_arr Try.underlying28 TF.t5 Try.underlying5 TF.e28 rfl rfl (length_sum _) (length_sum _)) (decide_eq_true hsum))) rfl (by kernel_rfl) ?_
    refine fl_val 9 rfl (fun _ => (v_move' (by conv => (lhs; whnf)))) rfl (by kernel_rfl) ?_
    refine fl_on 10 rfl rfl rfl rfl (fun _ => (v_move' (by conv => (lhs; whnf)))) rfl (by kernel_rfl) ?_
    refine fl_on 11 rfl rfl rfl rfl (fun _ => (v_move' (by conv => (lhs; whnf)))) rfl (by kernel_rfl) ?_
    refine fl_on 12 rfl rfl rfl rfl (fun _ => (v_ias k Try.underlying29 TF.t37 rfl rfl (by first | rfl | omega) (by first | omega | (dsimp only at *; omega)))) rfl (by kernel_rfl) ?_
    refine fl_ond 13 rfl rfl rfl rfl (v_load rfl (hrk st.im)) rfl (by kernel_rfl) ?_
    refine fl_ond 14 rfl rfl rfl rfl (v_b2s Try.underlying37 Try.underlying5 Try.underlying9 st.im hs1 rfl) rfl (by kernel_rfl) ?_
    refine fl_on 15 rfl rfl rfl rfl (fun _ => (v_move' (by conv => (lhs; whnf)))) rfl (by kernel_rfl) ?_
    refine fl_on 16 rfl rfl rfl rfl (fun _ => (v_move' (by conv => (lhs; whnf)))) rfl (by kernel_rfl) ?_
    refine fl_on 17 rfl rfl rfl rfl (fun _ => (v_ias i Try.underlying29 TF.t37 rfl rfl (by first | rfl | omega) (by first | omega | (dsimp only at *; omega)))) rfl (by kernel_rfl) ?_
    refine fl_ond 18 rfl rfl rfl rfl (v_load rfl (hrp st.im)) rfl (by kernel_rfl) ?_
    refine fl_ond 19 rfl rfl rfl rfl (v_b2s Try.underlying37 Try.underlying5 Try.underlying9 st.im hs0 rfl) rfl (by kernel_rfl) ?_
    refine fl_on 20 rfl rfl rfl rfl (fun _ => (v_nesE rfl rfl)) rfl (by kernel_rfl) ?_
    refine fl_val 21 rfl (fun _ => (v_pick rfl)) rfl (by kernel_rfl) ?_
    refine fl_nil (by kernel_rfl) ⟨obl_on rfl rfl rfl rfl rfl (v_b2s Try.underlying37 Try.underlying5 Try.underlying9 st.im hs0 rfl), obl_on rfl rfl rfl rfl rfl (v_load rfl (hrp st.im)), obl_on rfl rfl rfl rfl rfl (v_b2s Try.underlying37 Try.underlying5 Try.underlying9 st.im hs1 rfl), obl_on rfl rfl rfl rfl rfl (v_load rfl (hrk st.im)), obl_ld rfl rfl rfl (v_load rfl ((hDM st).rd rfl (by omega) (hDk i (by omega) hi) (im_heapM _))), obl_ld rfl rfl rfl (v_load rfl ((hDM st).rd rfl (by omega) (hDk k (by omega) hkN) (im_heapM _))), trivial⟩ ?_
    refine then_go ?_
    refine wc_cond rfl (fun h46 => ?_) (fun h46 => ?_)
    ·refine wc_seq ?_
     refine wc_region ?_
     refine wl_val (v_assign' (by conv => (lhs; whnf))) rfl ?_
     refine wl_nil ?_
     refine then_go ?_
     refine wc_ret (block_ret (then_ret (then_ret (block_ret (block_ret (then_ret (then_ret (block_ret (then_ret ?_)))))))))
     exact ret1 rfl ⟨(st.keepOnly (l := []) (List.nil_sublist _)).touch, true, rfl, fun h => by cases h⟩
    ·refine wc_skip ?_
     refine block_go (then_go ?_)
     refine wc_region ?_
     refine wl_val (v_move' (by conv => (lhs; whnf))) rfl ?_
     refine wl_val (v_add' (c := ((k + 1 : Nat) : Int)) rfl rfl (by omega) (by omega) (by omega)) rfl ?_
     refine wl_val (v_assign' (by conv => (lhs; whnf))) rfl ?_
     refine wl_nil ?_
     refine then_go ?_
     refine ⟨q2 - 1, by simp; omega, k + 1, by omega, rfl, rfl, rfl, rfl, ?_, st⟩
     intro p hp hps
     rw [List.take_succ_eq_append_getElem hkN, List.map_append] at hp
     rcases List.mem_append.1 hp with hp | hp
     ·exact hin p hp hps
     ·rw [List.map_singleton, List.mem_singleton] at hp
      subst hp
      first
      | (exact (hsum hps).elim)
      | (simpa using h46)
   ·have hk : k < i := by omega
    have hkN : k < N.length := by omega
    obtain ⟨_, _, _, hnv2, hs1, hrk⟩ := hN.elem hkN
    cases hnv2
    refine wc_draw TF.mixed ?_
    have st := st.pure (touch_drew _)
    refine fl_val 0 rfl (fun _ => (v_move' (by conv => (lhs; whnf)))) rfl (by kernel_rfl) ?_
    refine fl_val 1 rfl (fun _ => (v_move' (by conv => (lhs; whnf)))) rfl (by kernel_rfl) ?_
    refine fl_val 2 rfl (fun _ => (v_ias k Try.underlying22 TF.t28 rfl rfl (by first | rfl | omega) (by first | omega | (dsimp only at *; omega)))) rfl (by kernel_rfl) ?_
    refine fl_ld 3 rfl (v_load rfl ((hDM st).rd rfl (by omega) (hDk k (by omega) hkN) (im_heapM _))) (by kernel_rfl) ?_
    refine fl_val 4 rfl (fun _ => (v_move' (by conv => (lhs; whnf)))) rfl (by kernel_rfl) ?_
    refine fl_val 5 rfl (fun _ => (v_move' (by conv => (lhs; whnf)))) rfl (by kernel_rfl) ?_
    refine fl_val 6 rfl (fun _ => (v_ias i Try.underlying22 TF.t28 rfl rfl (by first | rfl | omega) (by first | omega | (dsimp only at *; omega)))) rfl (by kernel_rfl) ?_
    refine fl_ld 7 rfl (v_load rfl ((hDM st).rd rfl (by omega) (hDk i (by omega) hi) (im_heapM _))) (by kernel_rfl) ?_
    refine fl_val 8 rfl (fun _ => (wl_valD (v_eq_arr Try.underlying28 TF.t5 Try.underlying5 TF.e28 rfl rfl (length_sum _) (length_sum _)) (decide_eq_false hsum))) rfl (by kernel_rfl) ?_
    refine fl_val 9 rfl (fun _ => (v_move' (by conv => (lhs; whnf)))) rfl (by kernel_rfl) ?_
    refine fl_off 10 rfl rfl rfl rfl rfl rfl (by kernel_rfl) ?_
    refine fl_off 11 rfl rfl rfl rfl rfl rfl (by kernel_rfl) ?_
    refine fl_off 12 rfl rfl rfl rfl rfl rfl (by kernel_rfl) ?_
    refine fl_offd 13 rfl rfl rfl rfl rfl rfl (by kernel_rfl) ?_
    refine fl_offd 14 rfl rfl rfl rfl rfl rfl (by kernel_rfl) ?_
    refine fl_off 15 rfl rfl rfl rfl rfl rfl (by kernel_rfl) ?_
    refine fl_off 16 rfl rfl rfl rfl rfl rfl (by kernel_rfl) ?_
    refine fl_off 17 rfl rfl rfl rfl rfl rfl (by kernel_rfl) ?_
    refine fl_offd 18 rfl rfl rfl rfl rfl rfl (by kernel_rfl) ?_
    refine fl_offd 19 rfl rfl rfl rfl rfl rfl (by kernel_rfl) ?_
    refine fl_off 20 rfl rfl rfl rfl rfl rfl (by kernel_rfl) ?_
    refine fl_val 21 rfl (fun _ => (v_pick rfl)) rfl (by kernel_rfl) ?_
    refine fl_nil (by kernel_rfl) ⟨obl_off rfl rfl rfl rfl rfl rfl, obl_off rfl rfl rfl rfl rfl rfl, obl_off rfl rfl rfl rfl rfl rfl, obl_off rfl rfl rfl rfl rfl rfl, obl_ld rfl rfl rfl (v_load rfl ((hDM st).rd rfl (by omega) (hDk i (by omega) hi) (im_heapM _))), obl_ld rfl rfl rfl (v_load rfl ((hDM st).rd rfl (by omega) (hDk k (by omega) hkN) (im_heapM _))), trivial⟩ ?_
    refine then_go ?_
    refine wc_false rfl ?_
    refine wc_skip ?_
    refine block_go (then_go ?_)
    refine wc_region ?_
    refine wl_val (v_move' (by conv => (lhs; whnf))) rfl ?_
    refine wl_val (v_add' (c := ((k + 1 : Nat) : Int)) rfl rfl (by omega) (by omega) (by omega)) rfl ?_
    refine wl_val (v_assign' (by conv => (lhs; whnf))) rfl ?_
    refine wl_nil ?_
    refine then_go ?_
    refine ⟨q2 - 1, by simp; omega, k + 1, by omega, rfl, rfl, rfl, rfl, ?_, st⟩
    intro p hp hps
    rw [List.take_succ_eq_append_getElem hkN, List.map_append] at hp
    rcases List.mem_append.1 hp with hp | hp
    ·exact hin p hp hps
    ·rw [List.map_singleton, List.mem_singleton] at hp
     subst hp
     first
     | (exact (hsum hps).elim)
     | (simpa using h46)
  ·refine wc_exit (then_exit (then_exit (block_hit ?_)))
   refine block_go (then_go ?_)
   refine wc_region ?_
   refine wl_val (v_move' (by conv => (lhs; whnf))) rfl ?_
   refine wl_val (v_add' (c := ((i + 1 : Nat) : Int)) rfl rfl (by omega) (by omega) (by omega)) rfl ?_
   refine wl_val (v_assign' (by conv => (lhs; whnf))) rfl ?_
   refine wl_nil ?_
   refine then_go ?_
   have hki : k = i := by omega
   rw [hki] at hin
   refine ⟨q - 1, by simp; omega, i + 1, _, by omega, rfl, rfl, rfl, ?_, by rw [← hDL]; exact st⟩
   rw [List.take_succ_eq_append_getElem hi, List.map_append]
   exact nc_snoc hnc hin
 ·refine wc_exit (then_exit (then_exit (block_hit ?_)))
  refine then_go ?_
  refine wc_seq ?_
  refine wc_region ?_
  refine wl_val (v_assign' (by conv => (lhs; whnf))) rfl ?_
  refine wl_nil ?_
  refine then_go ?_
  refine wc_ret ?_
  have hiN : i = N.length := by omega
  subst hiN
  rw [List.take_length] at hnc
  exact ret1 rfl ⟨(st.keepOnly (l := []) (List.nil_sublist _)).touch, false, rfl, fun _ => hnc⟩
theorem c_clash {lv bv : Value} {N : List (By × Value)} {b : By} (him : Im m wI) (hN : PcsM m lv N) (hb : SlM m bv 1 b.length (bs b)) (hNl : ∀ x ∈ N, x.1.length ≤ 1000000000) (hbl : b.length ≤ 1000000000) (hNn : N.length ≤ 1000000) :
  Ret Try.prog 21 #[bv, lv] wI fun v w' => Tch wI w' [] [] ∧ ∃ c : Bool, v = .bool c ∧ (c = false → ∀ x ∈ N, x.1 ≠ b → sum x.1 ≠ sum b) := by
 have st := St.start him
 obtain ⟨na, nc, hlv⟩ : ∃ a c, lv = .slice a N.length c := by obtain ⟨⟨_, a, c, h, _⟩, _⟩ := hN; exact ⟨a, c, h⟩
 subst hlv
 refine ret_of Try.call21 Try.func21 rfl Try.ntmps21 Try.results21 rfl ?_
 refine wc_seq ?_
 refine wc_region ?_
 refine wl_val (v_assign' (by conv => (lhs; whnf))) rfl ?_
 refine wl_nil ?_
 refine then_go ?_
 refine wc_seq ?_
 refine wc_seq ?_
 refine wc_region ?_
 refine wl_val (v_assign' (by conv => (lhs; whnf))) rfl ?_
 refine wl_nil ?_
 refine then_go ?_
 refine wc_block ?_
 refine wc_loop (S := Nat) (fun q r w' => ∃ (i : Nat), q + i = N.length ∧ r 0 = bv ∧ r 1 = .slice na N.length nc ∧ r 5 = .int .i64 i ∧ (∀ x ∈ N.take i, x.1 ≠ b → sum x.1 ≠ sum b) ∧ St m m [] wI w' []) id N.length ⟨0, by omega, rfl, rfl, rfl, by simp, st⟩ ?_
 clear st
 rintro q r w2 ⟨i, hqi, g0, g1, g5, hno, st⟩
 refine wc_o 0 g0 (wc_o 1 g1 (wc_o 5 g5 ?_))
 refine wc_seq ?_
 refine wc_seq ?_
 refine wc_region ?_
 refine wl_val (v_move' (by conv => (lhs; whnf))) rfl ?_
 refine wl_val (v_move' (by conv => (lhs; whnf))) rfl ?_
 refine wl_val (v_len_s Try.underlying29 rfl) rfl ?_
 refine wl_val (v_lss rfl rfl) rfl ?_
 refine wl_nil ?_
 refine then_go ?_
 refine wc_if rfl (fun h9 => ?_) (fun h9 => ?_)
 ·refine wc_skip ?_
  refine then_go ?_
  refine wc_seq ?_
  refine wc_block ?_
  refine wc_seq ?_
  by_cases htx : N[i].1 = b
  ·have hi : i < N.length := by omega
   obtain ⟨nb, no, _, hnv, hs0, hrp⟩ := hN.elem hi
   cases hnv
   have hsl := hNl _ (List.getElem_mem hi)
   refine wc_draw TF.mixed ?_
   have st := st.pure (touch_drew _)
   refine fl_val 0 rfl (fun _ => (v_move' (by conv => (lhs; whnf)))) rfl (by kernel_rfl) ?_
   refine fl_val 1 rfl (fun _ => (v_move' (by conv => (lhs; whnf)))) rfl (by kernel_rfl) ?_
   refine fl_val 2 rfl (fun _ => (v_ias i Try.underlying29 TF.t37 rfl rfl (by first | rfl | omega) (by first | omega | (dsimp only at *; omega)))) rfl (by kernel_rfl) ?_
   refine fl_ld 3 rfl (v_load rfl (hrp st.im)) (by kernel_rfl) ?_
   refine fl_ld 4 rfl (v_b2s Try.underlying37 Try.underlying5 Try.underlying9 st.im hs0 rfl) (by kernel_rfl) ?_
   refine fl_val 5 rfl (fun _ => (v_move' (by conv => (lhs; whnf)))) rfl (by kernel_rfl) ?_
   refine fl_ld 6 rfl (v_b2s Try.underlying37 Try.underlying5 Try.underlying9 st.im hb rfl) (by kernel_rfl) ?_
   refine fl_val 7 rfl (fun _ => (wl_valD (v_nesE rfl rfl) (decide_eq_false (by simpa using htx)))) rfl (by kernel_rfl) ?_
   refine fl_val 8 rfl (fun _ => (v_move' (by conv => (lhs; whnf)))) rfl (by kernel_rfl) ?_
   refine fl_off 9 rfl rfl rfl rfl rfl rfl (by kernel_rfl) ?_
   refine fl_off 10 rfl rfl rfl rfl rfl rfl (by kernel_rfl) ?_
   refine fl_off 11 rfl rfl rfl rfl rfl rfl (by kernel_rfl) ?_
   refine fl_offd 12 rfl rfl rfl rfl rfl rfl (by kernel_rfl) ?_
   refine fl_off 14 rfl rfl rfl rfl rfl rfl (by kernel_rfl) ?_
   refine fl_eff1 13 [14, 11, 10, 9, 7, 5, 2, 1, 0] [6, 4, 3] (by kernel_rfl) ⟨obl_off rfl rfl rfl rfl rfl rfl, obl_ld rfl rfl rfl (v_b2s Try.underlying37 Try.underlying5 Try.underlying9 st.im hb rfl), obl_ld rfl rfl rfl (v_b2s Try.underlying37 Try.underlying5 Try.underlying9 st.im hs0 rfl), obl_ld rfl rfl rfl (v_load rfl (hrp st.im)), trivial⟩ rfl ?_
   refine wl_off rfl rfl rfl rfl ?_
   refine wl_nil ⟨rfl, ?_⟩
   refine fl_eff1 15 [11, 10, 9, 7, 5, 2, 1, 0] [6, 4, 3] (by kernel_rfl) ⟨obl_ld rfl rfl rfl (v_b2s Try.underlying37 Try.underlying5 Try.underlying9 st.im hb rfl), obl_ld rfl rfl rfl (v_b2s Try.underlying37 Try.underlying5 Try.underlying9 st.im hs0 rfl), obl_ld rfl rfl rfl (v_load rfl (hrp st.im)), trivial⟩ rfl ?_
   refine wl_off rfl rfl rfl rfl ?_
   refine wl_nil ⟨rfl, ?_⟩
   refine fl_off 16 rfl rfl rfl rfl rfl rfl (by kernel_rfl) ?_
   refine fl_val 17 rfl (fun _ => (v_pick rfl)) rfl (by kernel_rfl) ?_
   refine fl_nil (by kernel_rfl) ⟨obl_ld rfl rfl rfl (v_b2s Try.underlying37 Try.underlying5 Try.underlying9 st.im hb rfl), obl_ld rfl rfl rfl (v_b2s Try.underlying37 Try.underlying5 Try.underlying9 st.im hs0 rfl), obl_ld rfl rfl rfl (v_load rfl (hrp st.im)), trivial⟩ ?_
   refine then_go ?_
   refine wc_false rfl ?_
   refine wc_skip ?_
   refine block_go (then_go ?_)
   refine wc_region ?_
   refine wl_val (v_move' (by conv => (lhs; whnf))) rfl ?_
   refine wl_val (v_add' (c := ((i + 1 : Nat) : Int)) rfl rfl (by omega) (by omega) (by omega)) rfl ?_
   refine wl_val (v_assign' (by conv => (lhs; whnf))) rfl ?_
   refine wl_nil ?_
   refine then_go ?_
   refine ⟨q - 1, by simp; omega, i + 1, by omega, rfl, rfl, rfl, ?_, st⟩
   intro x hx hxb
   rw [List.take_succ_eq_append_getElem hi] at hx
   rcases List.mem_append.1 hx with hx | hx
   ·exact hno x hx hxb
   ·rw [List.mem_singleton] at hx
    subst hx
    first
    | (exact (hxb htx).elim)
    | (simpa using h29)
  ·have hi : i < N.length := by omega
   obtain ⟨nb, no, _, hnv, hs0, hrp⟩ := hN.elem hi
   cases hnv
   have hsl := hNl _ (List.getElem_mem hi)
   refine wc_draw TF.mixed ?_
   have st := st.pure (touch_drew _)
   refine fl_val 0 rfl (fun _ => (v_move' (by conv => (lhs; whnf)))) rfl (by kernel_rfl) ?_
   refine fl_val 1 rfl (fun _ => (v_move' (by conv => (lhs; whnf)))) rfl (by kernel_rfl) ?_
   refine fl_val 2 rfl (fun _ => (v_ias i Try.underlying29 TF.t37 rfl rfl (by first | rfl | omega) (by first | omega | (dsimp only at *; omega)))) rfl (by kernel_rfl) ?_
   refine fl_ld 3 rfl (v_load rfl (hrp st.im)) (by kernel_rfl) ?_
   refine fl_ld 4 rfl (v_b2s Try.underlying37 Try.underlying5 Try.underlying9 st.im hs0 rfl) (by kernel_rfl) ?_
   refine fl_val 5 rfl (fun _ => (v_move' (by conv => (lhs; whnf)))) rfl (by kernel_rfl) ?_
   refine fl_ld 6 rfl (v_b2s Try.underlying37 Try.underlying5 Try.underlying9 st.im hb rfl) (by kernel_rfl) ?_
   refine fl_val 7 rfl (fun _ => (wl_valD (v_nesE rfl rfl) (decide_eq_true (by simpa using htx)))) rfl (by kernel_rfl) ?_
   refine fl_val 8 rfl (fun _ => (v_move' (by conv => (lhs; whnf)))) rfl (by kernel_rfl) ?_
   refine fl_on 9 rfl rfl rfl rfl (fun _ => (v_move' (by conv => (lhs; whnf)))) rfl (by kernel_rfl) ?_
   refine fl_on 10 rfl rfl rfl rfl (fun _ => (v_move' (by conv => (lhs; whnf)))) rfl (by kernel_rfl) ?_
   refine fl_on 11 rfl rfl rfl rfl (fun _ => (v_ias i Try.underlying29 TF.t37 rfl rfl (by first | rfl | omega) (by first | omega | (dsimp only at *; omega)))) rfl (by kernel_rfl) ?_
   refine fl_ond 12 rfl rfl rfl rfl (v_load rfl (hrp st.im)) rfl (by kernel_rfl) ?_
   refine fl_on 14 rfl rfl rfl rfl (fun _ => (v_move' (by conv => (lhs; whnf)))) rfl (by kernel_rfl) ?_
   refine fl_eff1 13 [14, 11, 10, 9, 7, 5, 2, 1, 0] [6, 4, 3] (by kernel_rfl) ⟨obl_on rfl rfl rfl rfl rfl (v_load rfl (hrp st.im)), obl_ld rfl rfl rfl (v_b2s Try.underlying37 Try.underlying5 Try.underlying9 st.im hb rfl), obl_ld rfl rfl rfl (v_b2s Try.underlying37 Try.underlying5 Try.underlying9 st.im hs0 rfl), obl_ld rfl rfl rfl (v_load rfl (hrp st.im)), trivial⟩ rfl ?_
   refine wl_on rfl rfl ?_
   refine wl_call rfl (c_ref3of st.im hs0 (by omega)) rfl ?_
   rintro v25 w ⟨t25, rfl⟩
   have st := st.pure t25
   refine wl_nil ⟨rfl, ?_⟩
   refine fl_eff1 15 [11, 10, 9, 7, 5, 2, 1, 0] [6, 4, 3] (by kernel_rfl) ⟨obl_ld rfl rfl rfl (v_b2s Try.underlying37 Try.underlying5 Try.underlying9 st.im hb rfl), obl_ld rfl rfl rfl (v_b2s Try.underlying37 Try.underlying5 Try.underlying9 st.im hs0 rfl), obl_ld rfl rfl rfl (v_load rfl (hrp st.im)), trivial⟩ rfl ?_
   refine wl_on rfl rfl ?_
   refine wl_call rfl (c_ref3of st.im hb (by omega)) rfl ?_
   rintro v27 w ⟨t27, rfl⟩
   have st := st.pure t27
   refine wl_nil ⟨rfl, ?_⟩
   refine fl_on 16 rfl rfl rfl rfl (fun _ => (v_eq_arr Try.underlying28 TF.t5 Try.underlying5 TF.e28 rfl rfl (length_sum _) (length_sum _))) rfl (by kernel_rfl) ?_
   refine fl_val 17 rfl (fun _ => (v_pick rfl)) rfl (by kernel_rfl) ?_
   refine fl_nil (by kernel_rfl) ⟨obl_ld rfl rfl rfl (v_b2s Try.underlying37 Try.underlying5 Try.underlying9 st.im hb rfl), obl_ld rfl rfl rfl (v_b2s Try.underlying37 Try.underlying5 Try.underlying9 st.im hs0 rfl), obl_ld rfl rfl rfl (v_load rfl (hrp st.im)), trivial⟩ ?_
   refine then_go ?_
   refine wc_cond rfl (fun h29 => ?_) (fun h29 => ?_)
   ·refine wc_seq ?_
    refine wc_region ?_
    refine wl_val (v_assign' (by conv => (lhs; whnf))) rfl ?_
    refine wl_nil ?_
    refine then_go ?_
    refine wc_ret (block_ret (then_ret (then_ret (block_ret (then_ret ?_)))))
    exact ret1 rfl ⟨st.touch, true, rfl, fun h => by cases h⟩
   ·refine wc_skip ?_
    refine block_go (then_go ?_)
    refine wc_region ?_
    refine wl_val (v_move' (by conv => (lhs; whnf))) rfl ?_
    refine wl_val (v_add' (c := ((i + 1 : Nat) : Int)) rfl rfl (by omega) (by omega) (by omega)) rfl ?_
    refine wl_val (v_assign' (by conv => (lhs; whnf))) rfl ?_
    refine wl_nil ?_
    refine then_go ?_
    refine ⟨q - 1, by simp; omega, i + 1, by omega, rfl, rfl, rfl, ?_, st⟩
    intro x hx hxb
    rw [List.take_succ_eq_append_getElem hi] at hx
    rcases List.mem_append.1 hx with hx | hx
    ·exact hno x hx hxb
    ·rw [List.mem_singleton] at hx
     subst hx
     first
     | (exact (hxb htx).elim)
     | (simpa using h29)
 ·refine wc_exit (then_exit (then_exit (block_hit ?_)))
  refine then_go ?_
  refine wc_seq ?_
  refine wc_region ?_
  refine wl_val (v_assign' (by conv => (lhs; whnf))) rfl ?_
  refine wl_nil ?_
  refine then_go ?_
  refine wc_ret ?_
  have hiN : i = N.length := by omega
  subst hiN
  rw [List.take_length] at hno
  exact ret1 rfl ⟨st.touch, false, rfl, fun _ => hno⟩
end
end Go.Proofs.Ytonlmjpenonabaa

namespace Go.Proofs.Ytonlmjpenonabaa
open Go Go.RowKit K SH
section
variable {m : Mem} {wI : World}
structure Rt where
 epoch : UInt64
 prev : List UInt8
 tree : List UInt8
 next : List UInt8
deriving DecidableEq
def Rt.ok (t : Rt) : Prop := t.prev.length = 32 ∧ t.tree.length = 32 ∧ t.next.length = 32
end
end Go.Proofs.Ytonlmjpenonabaa

namespace Go.Proofs.Ytonlmjpenonabaa
open Go Go.RowKit K SH PT
theorem DigM.sl1 {m : Mem} {b o k cap i : Nat} {L : List By} (h : DigM m (.slice (some ⟨b, o, none⟩) k cap) L) (hi : i < L.length) : SlM m (.slice (some ⟨b, o + i * 32 + 0 * 1, none⟩) (32 - 0) (32 - 0)) 1 L[i].length (bs L[i]) := by
 have hl : L[i].length = 32 := h.1 _ (List.getElem_mem hi)
 obtain ⟨_, a', c', he, _, _, hc⟩ := h.2
 cases he
 rw [hl]
 refine ⟨by rw [length_bs, hl], _, _, rfl, Nat.le_refl _, by simp, fun j u hj => ?_⟩
 have hj32 : j < 32 := by
  rcases Nat.lt_or_ge j 32 with h' | h'
  ·exact h'
  ·rw [List.getElem?_eq_none (by rw [length_bs, hl]; exact h')] at hj; cases hj
 have e := cells_digs h.1 hi
 have e2 : (digs L)[i * 32 + j]? = some u := by
  rw [← e] at hj
  simp only [cellsAt] at hj
  rw [List.getElem?_take_of_lt hj32, List.getElem?_drop] at hj
  exact hj
 obtain ⟨b', o', c, t, fr, e3, e4, e5⟩ := hc _ _ e2
 cases e3
 exact ⟨b, _, c, t, fr, rfl, e4, by rw [show o + i * 32 + 0 * 1 + j = o + (i * 32 + j) by omega]; exact e5⟩
end Go.Proofs.Ytonlmjpenonabaa

namespace Go.Proofs.Ytonlmjpenonabaa
open Go Go.RowKit K SH PT
end Go.Proofs.Ytonlmjpenonabaa

namespace Go.Proofs.Ytonlmjpenonabaa
open Go Go.RowKit K SH PT
theorem sv_ok : ∀ {g d : Nat} {L : List (By × By)}, D32p L → Dst d L → g + d = 256 → ∀ b ∈ sv g d L, 1 ≤ b.length ∧ b.length ≤ 512
 | 0, d, L, hL, hD, hgd, b, hb => by
  simp only [sv, List.mem_singleton] at hb
  subst hb
  refine ⟨wh_pos, ?_⟩
  match L, hD with
  | [], _ => rw [wh_nil]; decide
  | [x], _ => exact Nat.le_trans (wh_lt2 (by simp) hL) (by decide)
  | x :: y :: l, hD => rw [show d = 256 by omega] at hD; exact hD.two.elim
 | g + 1, d, L, hL, hD, hgd, b, hb => by
  by_cases hs : (wh (g + 1) d L).length ≤ 512
  ·rw [sv_small hs, List.mem_singleton] at hb
   subst hb
   exact ⟨wh_pos, hs⟩
  ·rw [sv_big hs] at hb
   have h1 := sideB_len (g := g) (d := d + 1) (hL.half (d := d) (b := false))
   have h2 := sideB_len (g := g) (d := d + 1) (hL.half (d := d) (b := true))
   have hr : ∀ {on : Bool} {b : By}, b ∈ restB (sv g (d + 1) (halfL L d on)) (halfL L d on) → 1 ≤ b.length ∧ b.length ≤ 512 := fun {on b} hb => by
    unfold restB at hb
    split at hb
    ·cases hb
    ·exact sv_ok hL.half (hD.half (by omega) on) (by omega) b hb
   rcases List.mem_cons.1 hb with hb | hb
   ·subst hb
    simp only [List.length_cons, List.length_append]
    omega
   ·rcases List.mem_append.1 hb with hb | hb
    ·exact hr hb
    ·exact hr hb
end Go.Proofs.Ytonlmjpenonabaa

namespace Go.Proofs.Ytonlmjpenonabaa
open Go Go.RowKit K SH PT
theorem PcsM.sub {m : Mem} {a : Option Addr} {cap : Nat} {N : List (By × Value)} (h : PcsM m (.slice a N.length cap) N) (i j : Nat) (hij : i ≤ j) (hj : j ≤ N.length) : PcsM m (.slice (sliceOff a cap i 1) (j - i) (cap - i)) ((N.drop i).take (j - i)) := by
 have h1 := h.1.sub rfl hij hj (by decide)
 refine ⟨?_, fun x hx => h.2 x (List.mem_of_mem_drop (List.mem_of_mem_take hx))⟩
 have e : ((N.drop i).take (j - i)).length = j - i := by rw [List.length_take, List.length_drop]; omega
 rw [e, List.map_take, List.map_drop]
 simpa using h1
theorem PcsM.src {P : Program} {m : Mem} {w : World} {v : Value} {N : List (By × Value)} (h : PcsM m v N) (him : Im m w) : Src P w v 1 N.length (N.map (·.2)) :=
 h.1.src him fun u hu => by obtain ⟨y, hy, rfl⟩ := List.mem_map.1 hu; exact SlM.one1 (h.2 y hy)
theorem nodup_out {α : Type} {S : List α} (h : S.Nodup) {k : Nat} (hk : k < S.length) : ∀ q ∈ S.take k ++ S.drop (k + 1), q ≠ S[k] ∧ q ∈ S := by
 intro q hq
 refine ⟨?_, (List.mem_append.1 hq).elim List.mem_of_mem_take List.mem_of_mem_drop⟩
 rintro rfl
 have e : S = S.take k ++ (S[k] :: S.drop (k + 1)) := by rw [← List.drop_eq_getElem_cons hk, List.take_append_drop]
 rw [e, List.nodup_append, List.nodup_cons] at h
 rcases List.mem_append.1 hq with hq | hq
 ·exact h.2.2 _ hq _ List.mem_cons_self rfl
 ·exact h.2.1.1 hq
theorem xor_ne {a b : UInt8} (h : b ≠ 0) : a ^^^ b ≠ a := by
 intro e
 apply h
 have : a ^^^ (a ^^^ b) = a ^^^ a := by rw [e]
 rwa [← UInt8.xor_assoc, UInt8.xor_self, UInt8.zero_xor] at this
theorem set_ne {l : By} {i : Nat} (hi : i < l.length) {c : UInt8} (hc : c ≠ l[i]) : l.set i c ≠ l := by
 intro e
 have : (l.set i c)[i]? = l[i]? := by rw [e]
 rw [List.getElem?_set_self hi, List.getElem?_eq_getElem hi] at this
 exact hc (Option.some.inj this)
section
variable {m : Mem} {wI : World}
theorem c_pagesLacks {va vv : Value} {A V : List By} {z1 z2 : Int} {by' : UInt8} (him : Im m wI) (ha : DigM m va A) (hv : DigM m vv V) (hA9 : A.length ≤ 9223372036854775807) (hV9 : V.length ≤ 9223372036854775807) :
  Ret Try.prog 4 #[va, vv, .int .i64 z1, .int .i64 z2, u8 by'] wI fun v w' => Tch wI w' [] [] ∧ v = .bool true := by
 have st := St.start him
 obtain ⟨a1, c1, rfl⟩ := ha.sl
 obtain ⟨a2, c2, rfl⟩ := hv.sl
 refine ret_of Try.call4 Try.func4 rfl Try.ntmps4 Try.results4 rfl ?_
 refine wc_seq ?_
 refine wc_region ?_
 refine wl_val (v_assign' (by conv => (lhs; whnf))) rfl ?_
 refine wl_nil ?_
 refine then_go ?_
 refine wc_seq ?_
 refine wc_seq ?_
 refine wc_region ?_
 refine wl_val (v_move' (by conv => (lhs; whnf))) rfl ?_
 refine wl_call rfl (c_few17 st.im) rfl ?_
 rintro v21 w ⟨t21, rfl⟩
 have st := st.pure t21
 refine wl_val (v_not rfl) rfl ?_
 refine wl_nil ?_
 refine then_go ?_
 refine wc_cond rfl (fun h22 => ?_) (fun h22 => ?_)
 ·refine wc_seq ?_
  refine wc_region ?_
  refine wl_call rfl (c_works17 st.im) rfl ?_
  rintro v23 w ⟨t23, rfl⟩
  have st := st.pure t23
  refine wl_val (v_assign' (by conv => (lhs; whnf))) rfl ?_
  refine wl_nil ?_
  refine then_go ?_
  refine wc_ret (then_ret ?_)
  exact ret1 rfl ⟨(st.keepOnly (l := []) (List.nil_sublist _)).touch, rfl⟩
 ·refine wc_skip ?_
  refine then_go ?_
  refine wc_seq ?_
  refine wc_region ?_
  refine wl_val (v_move' (by conv => (lhs; whnf))) rfl ?_
  refine wl_val (v_move' (by conv => (lhs; whnf))) rfl ?_
  have hA : A.length ≤ 40 := by simp at h22; omega
  have hz : (A.zip V).length ≤ 40 := by simp; omega
  have hol := length_ofLv (A.zip V)
  obtain ⟨hfD, hfU, hfd⟩ := ofLv_fine (d32_zip ha.1 hv.1)
  refine wl_call rfl (c_tof' st.im ha hv (by omega)) rfl ?_
  rintro v26 w ⟨t26, m1, hg1, hi1, p, rfl, hp⟩
  have st := st.grown hg1 t26 hi1
  obtain ⟨L, hL⟩ : ∃ L, L = ofLv (A.zip V) := ⟨_, rfl⟩
  rw [← hL] at hp hol hfD hfU hfd
  refine wl_val (v_assign' (by conv => (lhs; whnf))) rfl ?_
  refine wl_nil ?_
  refine then_go ?_
  refine wc_seq ?_
  refine wc_seq ?_
  refine wc_region ?_
  refine wl_val (v_move' (by conv => (lhs; whnf))) rfl ?_
  refine wl_val (v_eq_nil Try.underlying25 rfl rfl) rfl ?_
  refine wl_nil ?_
  refine then_go ?_
  refine wc_false rfl ?_
  refine wc_skip ?_
  refine then_go ?_
  refine wc_seq ?_
  refine wc_region ?_
  refine wl_val (v_move' (by conv => (lhs; whnf))) rfl ?_
  refine wl_call rfl (c_save st.im hp hfD hfU hfd (by omega)) rfl ?_
  rintro v31 w ⟨t31, m2, hg2, hi2, lv1, N, rfl, hN, hs1⟩
  have st := st.grown hg2 t31 hi2
  obtain ⟨na, nc, hlv1⟩ : ∃ a c, lv1 = .slice a N.length c := by obtain ⟨⟨_, a, c, h, _⟩, _⟩ := hN; exact ⟨a, c, h⟩
  subst hlv1
  have hNS : N.length = (sv 256 0 L).length := by rw [← hs1, List.length_map]
  have hN1 : 1 ≤ N.length := by rw [hNS, sv_eq]; simp
  have hNl : N.length ≤ 1000000 := by have h := sv_len (g := 256) (d := 0) (L := L); omega
  have hok := sv_ok hfd hfD (g := 256) rfl
  have hNx : ∀ x ∈ N, 1 ≤ x.1.length ∧ x.1.length ≤ 512 := fun x hx => hok _ (by rw [← hs1]; exact List.mem_map.2 ⟨x, hx, rfl⟩)
  have hNx2 : ∀ x ∈ N, x.1.length ≤ 1000000000 := fun x hx => by have := (hNx x hx).2; omega
  have hcap : N.length ≤ nc := by obtain ⟨⟨_, _, _, he, hk, _⟩, _⟩ := hN; cases he; exact hk
  refine wl_val (v_move' (by conv => (lhs; whnf))) rfl ?_
  refine wl_val (v_extract rfl rfl) rfl ?_
  refine wl_val (v_extract rfl rfl) rfl ?_
  refine wl_alloc TF.z28 st rfl ?_
  intro b12 w st
  refine wl_storeW (cs := (bs (sum (pg1 256 0 L))).toArray) 0 st rfl TF.t28 rfl rfl (by rw [List.size_toArray, length_bs, length_sum]) rfl (one_bs _) ?_
  intro w st
  refine wl_val (v_assign' (by conv => (lhs; whnf))) rfl ?_
  refine wl_nil ?_
  refine then_go ?_
  refine wc_seq ?_
  refine wc_seq ?_
  refine wc_region ?_
  refine wl_val (v_move' (by conv => (lhs; whnf))) rfl ?_
  refine wl_val (v_len_s Try.underlying29 rfl) rfl ?_
  refine wl_val (v_eql rfl rfl) rfl ?_
  refine wl_nil ?_
  refine then_go ?_
  refine wc_false (congrArg Value.bool (decide_eq_false (by omega))) ?_
  refine wc_skip ?_
  refine then_go ?_
  refine wc_seq ?_
  obtain ⟨u, hu⟩ : ∃ u, u = IntKind.u64.wrap z1 := ⟨_, rfl⟩
  have hu0 : 0 ≤ u := by rw [hu, IntKind.wrap_u64]; omega
  obtain ⟨k, hk⟩ : ∃ k : Nat, u % (N.length : Int) = k := ⟨(u % (N.length : Int)).toNat, (Int.toNat_of_nonneg (Int.emod_nonneg _ (by omega))).symm⟩
  have hkl : k < N.length := by have := Int.emod_lt_of_pos u (show (0 : Int) < N.length by omega); omega
  refine wc_region ?_
  refine wl_val (v_move' (by conv => (lhs; whnf))) rfl ?_
  refine wl_val (v_to (v' := .int .u64 u) (v_conv Try.underlying3 Try.underlying39 rfl) (by rw [hu])) rfl ?_
  refine wl_val (v_move' (by conv => (lhs; whnf))) rfl ?_
  refine wl_val (v_len_s Try.underlying29 rfl) rfl ?_
  refine wl_val (v_to (v' := .int .u64 (N.length : Nat)) (v_conv Try.underlying3 Try.underlying39 rfl) (by rw [wrap_u64_small (by omega)])) rfl ?_
  refine wl_val (v_rem' rfl rfl hu0 (by omega) hk) rfl ?_
  refine wl_val (v_to (v' := .int .i64 (k : Nat)) (v_conv Try.underlying39 Try.underlying3 rfl) (by rw [wrap_i64 (by omega) (by omega)])) rfl ?_
  refine wl_val (v_assign' (by conv => (lhs; whnf))) rfl ?_
  refine wl_nil ?_
  refine then_go ?_
  refine wc_seq ?_
  refine wc_seq ?_
  refine wc_region ?_
  refine wl_val (v_move' (by conv => (lhs; whnf))) rfl ?_
  refine wl_call rfl (c_any17 st.im hN hNx2 hNl) rfl ?_
  rintro v45 w ⟨t45, ⟨c45, rfl, hany⟩⟩
  have st := st.pure t45
  refine wl_nil ?_
  refine then_go ?_
  refine wc_cond rfl (fun h45 => ?_) (fun h45 => ?_)
  ·refine wc_seq ?_
   refine wc_region ?_
   refine wl_call rfl (c_works17 st.im) rfl ?_
   rintro v46 w ⟨t46, rfl⟩
   have st := st.pure t46
   refine wl_val (v_assign' (by conv => (lhs; whnf))) rfl ?_
   refine wl_nil ?_
   refine then_go ?_
   refine wc_ret (then_ret ?_)
   exact ret1 rfl ⟨(st.keepOnly (l := []) (List.nil_sublist _)).touch, rfl⟩
  ·refine wc_skip ?_
   refine then_go ?_
   refine wc_seq ?_
   have hnc := hany h45
   have hnd : (N.map (·.1)).Nodup := by
    have := sv_nd hfD hfU hfd (by rw [← hs1]; exact hnc)
    rwa [← hs1] at this
   have hNk : (N.map (·.1))[k]'(by simpa using hkl) = N[k].1 := by simp
   have hout := nodup_out hnd (k := k) (by simpa using hkl)
   rw [hNk, ← List.map_take, ← List.map_drop, ← List.map_append] at hout
   have hpS : N[k].1 ∈ sv 256 0 L := by rw [← hs1]; exact List.mem_map.2 ⟨_, List.getElem_mem hkl, rfl⟩
   have st := nilRow st 37 1
   refine wc_region ?_
   refine wl_val (v_assign' (by conv => (lhs; whnf))) rfl ?_
   refine wl_nil ?_
   refine then_go ?_
   refine wc_seq ?_
   refine wc_region ?_
   refine wl_val (v_move' (by conv => (lhs; whnf))) rfl ?_
   refine wl_val (v_move' (by conv => (lhs; whnf))) rfl ?_
   refine wl_val (v_move' (by conv => (lhs; whnf))) rfl ?_
   refine wl_val (v_to (v' := .slice (sliceOff na nc 0 1) k nc) (v_sls 0 k Try.underlying29 TF.t37 rfl rfl ⟨_, _, rfl, rfl⟩ (Nat.zero_le _) (by omega)) (by rw [Nat.sub_zero, Nat.sub_zero])) rfl ?_
   have hq := hN.sub 0 k (Nat.zero_le _) (by omega)
   rw [List.drop_zero, Nat.sub_zero, Nat.sub_zero] at hq
   have hsr := hq.src (P := Try.prog) st.im
   have hkt : (N.take k).length = k := by rw [List.length_take]; omega
   rw [hkt] at hsr
   refine wl_append (news := (N.take k).map (fun x : By × Value => x.2)) 0 st rfl Try.underlying29 Try.underlying29 (.inr ⟨_, rfl⟩) TF.t37 TF.z37 rfl rfl rfl hsr (by omega) (by omega) rfl ?_
   clear st
   intro v51 w _ st
   refine wl_val (v_assign' (by conv => (lhs; whnf))) rfl ?_
   refine wl_nil ?_
   refine then_go ?_
   refine wc_seq ?_
   refine wc_region ?_
   refine wl_val (v_move' (by conv => (lhs; whnf))) rfl ?_
   refine wl_val (v_move' (by conv => (lhs; whnf))) rfl ?_
   refine wl_val (v_move' (by conv => (lhs; whnf))) rfl ?_
   refine wl_val (v_add' rfl rfl rfl (by first | omega | (dsimp only at *; omega)) (by first | omega | (dsimp only at *; omega))) rfl ?_
   refine wl_val (v_sls (k + 1) N.length Try.underlying29 TF.t37 rfl ⟨_, _, rfl, rfl⟩ rfl hkl hcap) rfl ?_
   have hq2 := hN.sub (k + 1) N.length hkl (Nat.le_refl _)
   have hdt : ((N.drop (k + 1)).take (N.length - (k + 1))) = N.drop (k + 1) := List.take_of_length_le (by simp)
   rw [hdt] at hq2
   have hsr2 := hq2.src (P := Try.prog) st.im
   have hdl : (N.drop (k + 1)).length = N.length - (k + 1) := by simp
   rw [hdl] at hsr2
   refine wl_append (news := (N.drop (k + 1)).map (fun x : By × Value => x.2)) 0 st rfl Try.underlying29 Try.underlying29 (.inr ⟨_, rfl⟩) TF.t37 TF.z37 rfl rfl rfl hsr2 (by omega) (by omega) rfl ?_
   clear st
   intro v57 w _ st
   obtain ⟨N1, hN1e⟩ : ∃ N1, N1 = N.take k ++ N.drop (k + 1) := ⟨_, rfl⟩
   have hN1l : N1.length = 0 + k + (N.length - (k + 1)) := by rw [hN1e, List.length_append, hkt, hdl, Nat.zero_add]
   have hN1m : [] ++ (N.take k).map (·.2) ++ (N.drop (k + 1)).map (·.2) = N1.map (·.2) := by rw [hN1e, List.nil_append, List.map_append]
   have st : St m m2 [] wI w [rowE v57 37 1 N1.length (N1.map (·.2)), K.blk b12 (bs (sum (pg1 256 0 L))).toArray 28] := by rw [hN1l, ← hN1m]; exact st
   rw [← hN1e] at hout
   have hN1M : ∀ x ∈ N1, x ∈ N := fun x hx => by rw [hN1e] at hx; exact (List.mem_append.1 hx).elim List.mem_of_mem_take List.mem_of_mem_drop
   have hlk := lacks_at (S := sv 256 0 L) (N := N1) hpS fun q hq => ⟨(hout q hq).1, fun s hs hss => hnc s (by rw [hs1]; exact hs) q (hout q hq).2 hss⟩
   obtain ⟨hl1, hl2⟩ := (ld_back hfD hfU hfd hlk.1).2 hlk.2
   refine wl_val (v_assign' (by conv => (lhs; whnf))) rfl ?_
   refine wl_nil ?_
   refine then_go ?_
   refine wc_seq ?_
   refine wc_region ?_
   refine wl_val (v_load rfl (st.reads (v := arr (sum (pg1 256 0 L))) 1 rfl TF.t28 (getV_all (by rw [List.size_toArray, length_bs, length_sum])))) rfl ?_
   refine wl_val (v_move' (by conv => (lhs; whnf))) rfl ?_
   have hP1 : PcsM (heapM w) v57 N1 := ⟨row_SlM (m := heapM w) (st.at (i := 0) rfl) (fun _ _ _ h => h), fun x hx => (hN.2 x (hN1M x hx)).mono fun q o h => st.im q o h⟩
   refine wl_call rfl (c_load (d := sum (pg1 256 0 L)) (im_heapM _) (length_sum _) hP1 (fun x hx => hNx2 x (hN1M x hx)) (by omega) (by omega)) rfl ?_
   rintro v61 w ⟨t61, _, _, _, hv61⟩
   have st := st.pure t61
   unfold LdOut at hv61
   rw [hl2, if_pos (by decide)] at hv61
   subst hv61
   refine wl_val (v_move' (by conv => (lhs; whnf))) rfl ?_
   refine wl_val (v_extract rfl rfl) rfl ?_
   refine wl_val (v_extract rfl rfl) rfl ?_
   refine wl_val (v_assign' (by conv => (lhs; whnf))) rfl ?_
   refine wl_val (v_assign' (by conv => (lhs; whnf))) rfl ?_
   refine wl_nil ?_
   refine then_go ?_
   refine wc_seq ?_
   refine wc_seq ?_
   refine wc_region ?_
   refine wl_val (v_move' (by conv => (lhs; whnf))) rfl ?_
   refine wl_val (wl_valD (v_neq rfl rfl) (q := false) (by decide)) rfl ?_
   refine wl_val (v_move' (by conv => (lhs; whnf))) rfl ?_
   refine wl_on rfl rfl ?_
   refine wl_val (v_move' (by conv => (lhs; whnf))) rfl ?_
   refine wl_on rfl rfl ?_
   refine wl_val (v_ne_nil Try.underlying25 rfl rfl) rfl ?_
   refine wl_val (v_pick rfl) rfl ?_
   refine wl_nil ?_
   refine then_go ?_
   refine wc_false rfl ?_
   refine wc_skip ?_
   refine then_go ?_
   refine wc_seq ?_
   refine wc_seq ?_
   obtain ⟨nb, no, _, hnv, hsk, hrk⟩ := hN.elem hkl
   cases hnv
   obtain ⟨q1, q2⟩ := hNx _ (List.getElem_mem hkl)
   obtain ⟨_, qa, qc, hqv, _⟩ := id hsk
   rw [hqv] at hsk hrk
   refine wc_region ?_
   refine wl_val (v_move' (by conv => (lhs; whnf))) rfl ?_
   refine wl_val (v_eql rfl rfl) rfl ?_
   refine wl_val (v_move' (by conv => (lhs; whnf))) rfl ?_
   rcases Bool.eq_false_or_eq_true (decide ((by'.toNat : Int) = 0)) with hg2 | hg2
   ·rw [hg2]
    refine wl_off rfl rfl rfl rfl ?_
    refine wl_off rfl rfl rfl rfl ?_
    refine wl_off rfl rfl rfl rfl ?_
    refine wl_off rfl rfl rfl rfl ?_
    refine wl_off rfl rfl rfl rfl ?_
    refine wl_off rfl rfl rfl rfl ?_
    refine wl_val (v_pick rfl) rfl ?_
    refine wl_nil ?_
    refine then_go ?_
    refine wc_true rfl ?_
    refine wc_seq ?_
    refine wc_region ?_
    refine wl_call rfl (c_works17 st.im) rfl ?_
    rintro v80 w ⟨t80, rfl⟩
    have st := st.pure t80
    refine wl_val (v_assign' (by conv => (lhs; whnf))) rfl ?_
    refine wl_nil ?_
    refine then_go ?_
    refine wc_ret (then_ret ?_)
    exact ret1 rfl ⟨(st.keepOnly (l := []) (List.nil_sublist _)).touch, rfl⟩
   ·rw [hg2]
    refine wl_on rfl rfl ?_
    refine wl_val (v_move' (by conv => (lhs; whnf))) rfl ?_
    refine wl_on rfl rfl ?_
    refine wl_val (v_move' (by conv => (lhs; whnf))) rfl ?_
    refine wl_on rfl rfl ?_
    refine wl_val (v_ias k Try.underlying29 TF.t37 rfl rfl (by first | rfl | omega) (by first | omega | (dsimp only at *; omega))) rfl ?_
    refine wl_on rfl rfl ?_
    refine wl_val (v_load rfl (hrk st.im)) rfl ?_
    refine wl_on rfl rfl ?_
    refine wl_val (v_len_s Try.underlying37 rfl) rfl ?_
    refine wl_on rfl rfl ?_
    refine wl_val (v_eql rfl rfl) rfl ?_
    refine wl_val (v_pick rfl) rfl ?_
    refine wl_nil ?_
    refine then_go ?_
    refine wc_false (congrArg Value.bool (decide_eq_false (by omega))) ?_
    refine wc_skip ?_
    refine then_go ?_
    refine wc_seq ?_
    refine wc_region ?_
    refine wl_buildSlice0 Try.underlying37 TF.t5 st rfl ?_
    intro v81 w st
    have st : St m m2 [] wI w [rowE v81 5 1 ([] : By).length (bs []), rowE v57 37 1 N1.length (N1.map (·.2)), K.blk b12 (bs (sum (pg1 256 0 L))).toArray 28] := st
    refine wl_val (v_move' (by conv => (lhs; whnf))) rfl ?_
    refine wl_val (v_move' (by conv => (lhs; whnf))) rfl ?_
    refine wl_val (v_ias k Try.underlying29 TF.t37 rfl rfl (by first | rfl | omega) (by first | omega | (dsimp only at *; omega))) rfl ?_
    refine wl_val (v_load rfl (hrk st.im)) rfl ?_
    refine wl_appB st Try.underlying37 Try.underlying37 (.inr ⟨_, rfl⟩) TF.t5 TF.z5 rfl rfl (hsk.src st.im (one_bs _)) (by simp; omega) (by simp; omega) rfl ?_
    intro v86 w st _
    refine wl_val (v_assign' (by conv => (lhs; whnf))) rfl ?_
    refine wl_nil ?_
    refine then_go ?_
    refine wc_seq ?_
    obtain ⟨g86, cap86, sp, hv86, hc86, hsz86, hc63, st86⟩ := st.rowOpen 0 rfl (by simpa using (show 0 < N[k].1.length from q1))
    subst hv86
    obtain ⟨B, hB⟩ : ∃ B, B = N[k].1 := ⟨_, rfl⟩
    rw [List.nil_append, ← hB] at hc86 hsz86
    have st : St m m2 [] wI w [K.blk g86 (bs B ++ sp).toArray 5, rowE v57 37 1 N1.length (N1.map (·.2)), K.blk b12 (bs (sum (pg1 256 0 L))).toArray 28] := by
     have := st86
     rwa [List.nil_append, ← hB] at this
    rw [← hB] at q1 q2
    rw [List.nil_append, ← hB]
    obtain ⟨u2, hu2⟩ : ∃ u, u = IntKind.u64.wrap z2 := ⟨_, rfl⟩
    have hu20 : 0 ≤ u2 := by rw [hu2, IntKind.wrap_u64]; omega
    obtain ⟨j, hj⟩ : ∃ j : Nat, u2 % (B.length : Int) = j := ⟨(u2 % (B.length : Int)).toNat, (Int.toNat_of_nonneg (Int.emod_nonneg _ (by omega))).symm⟩
    have hjl : j < B.length := by have := Int.emod_lt_of_pos u2 (show (0 : Int) < B.length by omega); omega
    have hBj : bs B ++ sp = bs (B.take j) ++ u8 B[j] :: (bs (B.drop (j + 1)) ++ sp) := by
     have e : bs B = bs (B.take j ++ B[j] :: B.drop (j + 1)) := by rw [← List.drop_eq_getElem_cons hjl, List.take_append_drop]
     rw [e]
     simp only [bs, List.map_append, List.map_cons, List.append_assoc, List.cons_append]
    refine wc_region ?_
    refine wl_val (v_move' (by conv => (lhs; whnf))) rfl ?_
    refine wl_val (v_to (v' := .int .u64 u2) (v_conv Try.underlying3 Try.underlying39 rfl) (by rw [hu2])) rfl ?_
    refine wl_val (v_move' (by conv => (lhs; whnf))) rfl ?_
    refine wl_val (v_len_s Try.underlying37 rfl) rfl ?_
    refine wl_val (v_to (v' := .int .u64 (B.length : Nat)) (v_conv Try.underlying3 Try.underlying39 rfl) (by rw [wrap_u64_small (by omega)])) rfl ?_
    refine wl_val (v_rem' rfl rfl hu20 (by omega) hj) rfl ?_
    refine wl_val (v_to (v' := .int .i64 (j : Nat)) (v_conv Try.underlying39 Try.underlying3 rfl) (by rw [wrap_i64 (by omega) (by omega)])) rfl ?_
    refine wl_val (v_assign' (by conv => (lhs; whnf))) rfl ?_
    refine wl_nil ?_
    refine then_go ?_
    refine wc_seq ?_
    refine wc_region ?_
    refine wl_val (v_move' (by conv => (lhs; whnf))) rfl ?_
    refine wl_val (v_move' (by conv => (lhs; whnf))) rfl ?_
    refine wl_val (v_move' (by conv => (lhs; whnf))) rfl ?_
    refine wl_val (v_move' (by conv => (lhs; whnf))) rfl ?_
    refine wl_val (v_ias j Try.underlying37 TF.t5 rfl rfl (by first | rfl | omega) (by first | omega | (dsimp only at *; omega))) rfl ?_
    refine wl_val (v_load rfl (st.reads (v := u8 B[j]) 0 rfl TF.t5 (getV_lst (b := []) (a := bs (B.take j)) (c := bs (B.drop (j + 1)) ++ sp) hBj (by rw [length_bs, List.length_take]; omega)))) rfl ?_
    refine wl_val (v_move' (by conv => (lhs; whnf))) rfl ?_
    refine wl_val (v_xor8 by' rfl rfl rfl) rfl ?_
    refine wl_val (v_ias j Try.underlying37 TF.t5 rfl rfl (by first | rfl | omega) (by first | omega | (dsimp only at *; omega))) rfl ?_
    refine wl_store1 (v := u8 (B[j] ^^^ by')) 0 st rfl TF.t5 rfl rfl rfl (by simp [length_bs]; omega) ?_
    intro w st
    obtain ⟨B2, hB2⟩ : ∃ B2, B2 = B.set j (B[j] ^^^ by') := ⟨_, rfl⟩
    have hBl : B2.length = B.length := by rw [hB2, List.length_set]
    have hby : by' ≠ 0 := by intro e; subst e; simp at hg2
    have hne : B2 ≠ B := by rw [hB2]; exact set_ne hjl (xor_ne hby)
    have e22 : (bs B ++ sp).toArray.setIfInBounds (0 + j * 1) (u8 (B[j] ^^^ by')) = (bs B2 ++ sp).toArray := by
     apply Array.ext'
     simp only [Array.toList_setIfInBounds, Nat.zero_add, Nat.mul_one]
     rw [List.set_append_left _ _ (by rw [length_bs]; exact hjl), hB2]
     simp [bs, List.map_set]
    have st : St m m2 [] wI w [K.blk g86 (bs B2 ++ sp).toArray 5, rowE v57 37 1 N1.length (N1.map (·.2)), K.blk b12 (bs (sum (pg1 256 0 L))).toArray 28] := by rw [← e22]; exact st
    have st := st.rowShut 0 (k := B2.length) (cap := cap86) (size := 1) (xs := bs B2) rfl (by omega) (by simpa [hBl, bs] using hsz86) hc63 (by simp [← length_bs B2])
    rw [hBl] at st
    refine wl_nil ?_
    refine then_go ?_
    refine wc_seq ?_
    refine wc_seq ?_
    refine wc_region ?_
    refine wl_val (v_move' (by conv => (lhs; whnf))) rfl ?_
    refine wl_val (v_move' (by conv => (lhs; whnf))) rfl ?_
    have hPb : SlM (heapM w) (.slice (some ⟨g86, 0, none⟩) B.length cap86) 1 B2.length (bs B2) := by rw [hBl]; exact row_SlM (m := heapM w) (st.at (i := 0) rfl) (fun _ _ _ h => h)
    have hNw : PcsM (heapM w) _ N := hN.mono fun q o h => st.im q o h
    refine wl_call rfl (c_clash (im_heapM _) hNw hPb hNx2 (by omega) hNl) rfl ?_
    rintro v105 w ⟨t105, c105, rfl, hcl⟩
    have st := st.pure t105
    refine wl_nil ?_
    refine then_go ?_
    refine wc_cond rfl (fun h105 => ?_) (fun h105 => ?_)
    ·refine wc_seq ?_
     refine wc_region ?_
     refine wl_call rfl (c_works17 st.im) rfl ?_
     rintro v106 w ⟨t106, rfl⟩
     have st := st.pure t106
     refine wl_val (v_assign' (by conv => (lhs; whnf))) rfl ?_
     refine wl_nil ?_
     refine then_go ?_
     refine wc_ret (then_ret ?_)
     exact ret1 rfl ⟨(st.keepOnly (l := []) (List.nil_sublist _)).touch, rfl⟩
    ·refine wc_skip ?_
     refine then_go ?_
     refine wc_seq ?_
     refine wc_region ?_
     refine wl_val (v_move' (by conv => (lhs; whnf))) rfl ?_
     refine wl_val (v_move' (by conv => (lhs; whnf))) rfl ?_
     refine wl_svOne (v := .slice (some ⟨g86, 0, none⟩) B.length cap86) Try.underlying29 TF.t37 TF.z37 rfl rfl st rfl ?_
     intro b109 w st
     refine wl_append (news := [Value.slice (some ⟨g86, 0, none⟩) B.length cap86]) 2 st rfl Try.underlying29 Try.underlying29 (.inr ⟨_, rfl⟩) TF.t37 TF.z37 rfl rfl rfl (st.srcArr (off := 0) 0 rfl rfl (fun j u hj => by simpa using hj) (by simp [Value.oneCell'])) (by omega) (by omega) rfl ?_
     clear st
     intro v110 w _ st
     obtain ⟨N2, hN2⟩ : ∃ N2, N2 = N1 ++ [(B2, Value.slice (some ⟨g86, 0, none⟩) B.length cap86)] := ⟨_, rfl⟩
     have hN2l : N2.length = N1.length + 1 := by rw [hN2, List.length_append]; rfl
     have hN2m : N1.map (·.2) ++ [Value.slice (some ⟨g86, 0, none⟩) B.length cap86] = N2.map (·.2) := by rw [hN2, List.map_append]; rfl
     rw [hN2m, ← hN2l] at st
     have hlk2 := lacks_at (S := sv 256 0 L) (N := N2) hpS fun q hq => by
      rw [hN2, List.map_append, List.mem_append] at hq
      rcases hq with hq | hq
      ·exact ⟨(hout q hq).1, fun s hs hss => hnc s (by rw [hs1]; exact hs) q (hout q hq).2 hss⟩
      ·rw [List.map_singleton, List.mem_singleton] at hq
       rw [hq]
       refine ⟨by rw [← hB]; exact hne, fun s hs hss => ?_⟩
       rw [← hs1] at hs
       obtain ⟨x, hx, rfl⟩ := List.mem_map.1 hs
       by_cases hxb : x.1 = B2
       ·exact hxb
       ·exact (hcl h105 x hx hxb hss).elim
     obtain ⟨hl3, hl4⟩ := (ld_back hfD hfU hfd hlk2.1).2 hlk2.2
     refine wl_val (v_assign' (by conv => (lhs; whnf))) rfl ?_
     refine wl_nil ?_
     refine then_go ?_
     refine wc_seq ?_
     refine wc_region ?_
     refine wl_val (v_load rfl (st.reads (v := arr (sum (pg1 256 0 L))) 3 rfl TF.t28 (getV_all (by rw [List.size_toArray, length_bs, length_sum])))) rfl ?_
     refine wl_val (v_move' (by conv => (lhs; whnf))) rfl ?_
     have hP2 : PcsM (heapM w) v110 N2 := by
      refine ⟨row_SlM (m := heapM w) (st.at (i := 2) rfl) (fun _ _ _ h => h), fun x hx => ?_⟩
      rw [hN2] at hx
      rcases List.mem_append.1 hx with hx | hx
      ·exact (hN.2 x (hN1M x hx)).mono fun q o h => st.im q o h
      ·rw [List.mem_singleton.1 hx]
       show SlM (heapM w) (.slice (some ⟨g86, 0, none⟩) B.length cap86) 1 B2.length (bs B2)
       rw [hBl]
       exact row_SlM (m := heapM w) (st.at (i := 1) rfl) (fun _ _ _ h => h)
     have hN2x : ∀ x ∈ N2, x.1.length ≤ 1000000000 := fun x hx => by
      rw [hN2] at hx
      rcases List.mem_append.1 hx with hx | hx
      ·exact hNx2 x (hN1M x hx)
      ·rw [List.mem_singleton.1 hx]; show B2.length ≤ _; omega
     refine wl_call rfl (c_load (d := sum (pg1 256 0 L)) (im_heapM _) (length_sum _) hP2 hN2x (by omega) (by omega)) rfl ?_
     rintro v114 w ⟨t114, _, _, _, hv114⟩
     have st := st.pure t114
     unfold LdOut at hv114
     rw [hl4, if_pos (by decide)] at hv114
     subst hv114
     refine wl_val (v_move' (by conv => (lhs; whnf))) rfl ?_
     refine wl_val (v_extract rfl rfl) rfl ?_
     refine wl_val (v_extract rfl rfl) rfl ?_
     refine wl_val (v_assign' (by conv => (lhs; whnf))) rfl ?_
     refine wl_val (v_assign' (by conv => (lhs; whnf))) rfl ?_
     refine wl_nil ?_
     refine then_go ?_
     refine wc_seq ?_
     refine wc_region ?_
     refine wl_val (v_move' (by conv => (lhs; whnf))) rfl ?_
     refine wl_val (v_eqlT rfl rfl rfl) rfl ?_
     refine wl_val (v_move' (by conv => (lhs; whnf))) rfl ?_
     refine wl_on rfl rfl ?_
     refine wl_val (v_move' (by conv => (lhs; whnf))) rfl ?_
     refine wl_on rfl rfl ?_
     refine wl_val (v_eq_nil Try.underlying25 rfl rfl) rfl ?_
     refine wl_val (v_pick rfl) rfl ?_
     refine wl_val (v_move' (by conv => (lhs; whnf))) rfl ?_
     refine wl_on rfl rfl ?_
     refine wl_call rfl (c_works17 st.im) rfl ?_
     rintro v124 w ⟨t124, rfl⟩
     have st := st.pure t124
     refine wl_val (v_pick rfl) rfl ?_
     refine wl_val (v_assign' (by conv => (lhs; whnf))) rfl ?_
     refine wl_nil ?_
     refine then_go ?_
     refine wc_ret ?_
     exact ret1 rfl ⟨(st.keepOnly (l := []) (List.nil_sublist _)).touch, rfl⟩
end
end Go.Proofs.Ytonlmjpenonabaa

namespace Go.Proofs.Ytonlmjpenonabaa
open Go Go.ChangeShapes Go.WideShapes Go.ChangeAt Go.RowKit K SH PT
theorem Try.ownpc : ownKnob Try.prog.godebug = none := by kernel_rfl
theorem Try.laidOutpc : laidOutB Try.prog = true := by kernel_rfl
theorem Try.trodAllpc {H : Type} {enc : TypeId × Value → H} {w : World} {held : Bool} {P : Program} {base : Nat} {spare : Nat → Bool} {t0 t1 t2 t3 t4 : TypeId} {args : Array Value} {ds : List (DataW H)} {ps : List MemPlace} (h : DataW.TrodAll enc P w base spare held [t0, t1, t2, t3, t4] args.toList ds ps) :
  ∃ v0 v1 v2 v3 v4 d0 d1 d2 d3 d4 p0 p1 p2 p3 p4, args = #[v0, v1, v2, v3, v4] ∧ ds = [d0, d1, d2, d3, d4] ∧ ps = p0 ++ p1 ++ p2 ++ p3 ++ p4 ∧ DataW.Trod enc P w base spare held t0 v0 d0 p0 ∧ DataW.Trod enc P w base spare held t1 v1 d1 p1 ∧ DataW.Trod enc P w base spare held t2 v2 d2 p2 ∧ DataW.Trod enc P w base spare held t3 v3 d3 p3 ∧ DataW.Trod enc P w base spare held t4 v4 d4 p4 := by
 obtain ⟨v0, vs0, d0, ds0, p0, q0, hargs, rfl, rfl, hd0, h⟩ := trodAll_cons h
 obtain ⟨v1, vs1, d1, ds1, p1, q1, rfl, rfl, rfl, hd1, h⟩ := trodAll_cons h
 obtain ⟨v2, vs2, d2, ds2, p2, q2, rfl, rfl, rfl, hd2, h⟩ := trodAll_cons h
 obtain ⟨v3, vs3, d3, ds3, p3, q3, rfl, rfl, rfl, hd3, h⟩ := trodAll_cons h
 obtain ⟨v4, vs4, d4, ds4, p4, q4, rfl, rfl, rfl, hd4, h⟩ := trodAll_cons h
 obtain ⟨rfl, rfl, rfl⟩ := trodAll_nil h
 exact ⟨v0, v1, v2, v3, v4, d0, d1, d2, d3, d4, p0, p1, p2, p3, p4, by cases args; simp_all, rfl, by simp, hd0, hd1, hd2, hd3, hd4⟩
set_option maxRecDepth 100000 in
theorem pagesLacks_lifted (os : Os) (started : os.Started) (H : Type) (enc : TypeId × Value → H) :
  ReturnsInHanded {} Try.checked os 4 .any (Rows.pagesLacksSpec.pre6 enc Try.prog Try.f4 Rows.pagesLacksRow.domain false) (Rows.pagesLacksSpec.post enc Try.prog Try.f4 false true false false) := by
 refine returnsInHanded_of_change (C := Try.checked) Try.ownpc started (by kernel_rfl) Try.func4
  (ChangeSpec.witness6 (enc := enc) (C := Try.checked) false ⟨#[], #[.slice none 0 0, .slice none 0 0, .int .i64 0, .int .i64 0, u8 0], []⟩ 12 (by kernel_rfl) (by kernel_rfl) (by kernel_rfl) (by kernel_rfl)) ?_
 intro W base args ds gs before hval0 hW hcnd _
 have hval : ∀ (j : Nat) t v, Try.f4.params[j]? = some t → args[j]? = some v → Value.okWide Try.prog W .any base t v := hval0
 have hW' := hW
 obtain ⟨p, q, hA0, hV, rfl, hfz, hnd⟩ := hW
 have hA : DataW.TrodAll enc Try.prog W 0 (fun _ => true) true Try.f4.params.toList args.toList ds p := hA0
 rw [Try.params4] at hA hval
 obtain ⟨v0, v1, v2, v3, v4, d0, d1, d2, d3, d4, p0, p1, p2, p3, p4, rfl, rfl, rfl, h0, h1, h2, h3, h4⟩ := Try.trodAllpc hA
 obtain ⟨fu0, hf0⟩ := h0
 obtain ⟨sa0, sl0, sc0, rfl⟩ := okWide_slice Try.underlying22 (hval 0 22 v0 rfl rfl)
 obtain ⟨l0, hl0, hn0⟩ := open_digs hf0
 obtain ⟨fu1, hf1⟩ := h1
 obtain ⟨sa1, sl1, sc1, rfl⟩ := okWide_slice Try.underlying22 (hval 1 22 v1 rfl rfl)
 obtain ⟨l1, hl1, hn1⟩ := open_digs hf1
 obtain ⟨a2, rfl, rfl, rfl, wa2⟩ := open_int Try.underlying3 (hval 2 3 v2 rfl rfl) h2
 obtain ⟨a3, rfl, rfl, rfl, wa3⟩ := open_int Try.underlying3 (hval 3 3 v3 rfl rfl) h3
 obtain ⟨a4, rfl⟩ := open_u8 (hval 4 5 v4 rfl rfl) h4
 refine Calls.mono (P := Try.prog) (c_pagesLacks (im_heapM W) hl0 hl1 hn0 hn1).2 fun e W1 ⟨v, he, t, hv⟩ => ?_
 subst hv
 subst he
 exact ⟨_, rfl, post_true Try.laidOutpc (by kernel_rfl) rfl hW' t rfl rfl Try.underlying4⟩
theorem pagesLacks_holds : Rows.PagesLacksSaid :=
 OpenClaim.holds_of_wide 4 Try.f4 rfl rfl rfl rfl rfl rfl rfl ⟨rfl, rfl, rfl, rfl, rfl⟩ rfl rfl rfl rfl rfl (by kernel_rfl) Try.func4 (by kernel_rfl)
  (of_decide_eq_true (by kernel_rfl)) (by unfold Func.isWrapper; first | (rw [if_pos (by decide +kernel)]; kernel_rfl) | (rw [if_neg (by decide +kernel)]; exact ⟨rfl, rfl⟩))
  (fun os started H enc _ => pagesLacks_lifted os started H enc)
end Go.Proofs.Ytonlmjpenonabaa
