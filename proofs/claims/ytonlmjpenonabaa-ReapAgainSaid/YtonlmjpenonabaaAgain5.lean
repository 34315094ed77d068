/-
  Proved here: for every input the law ReapAgain returns true, and what it was handed reads behind the call as before. No condition.
-/
import Derived.Test.YtonlmjpenonabaaRows
import Derived.Test.YtonlmjpenonabaaAgain4

namespace Go.Proofs.Ytonlmjpenonabaa
open Go Go.RowKit K SH PT
structure Fine (L : List (By × By)) : Prop where
 D : Dst 0 L
 U : Up L
 d : D32p L
theorem Fine.of {Z : List (By × By)} (h : D32p Z) : Fine (ofLv Z) := by
 obtain ⟨h1, h2, h3⟩ := ofLv_fine h
 exact ⟨h1, h2, h3⟩
theorem full_hon {M : By → Option By} {S : List By} (h : FullL M S) : HonL M S := fun p hp => .inr (h p hp)
theorem tree_ld {M : By → Option By} {L : List (By × By)} (hL : Fine L) (hf : FullL M (sv 256 0 L)) : ldF M (sum (pg1 256 0 L)) = (L, 0) ∧ ldE M (sum (pg1 256 0 L)) = 0 := by
 have h := (ld_back hL.D hL.U hL.d (full_hon hf)).1 hf
 refine ⟨h, ?_⟩
 unfold ldE
 rw [h, if_neg (by simp), ofLv_self hL.D hL.U hL.d, if_pos rfl]
theorem trees_mark {M : By → Option By} : ∀ {Ts : List (List (By × By))}, (∀ L ∈ Ts, Fine L) → (∀ L ∈ Ts, FullL M (sv 256 0 L)) → errF M (linkF Ts) = 0 ∧ markF M (linkF Ts) = Ts.flatMap (sv 256 0)
 | [], _, _ => ⟨rfl, rfl⟩
 | L :: Ts, h1, h2 => by
  obtain ⟨q1, q2⟩ := tree_ld (h1 L (by simp)) (h2 L (by simp))
  obtain ⟨q3, q4⟩ := trees_mark (Ts := Ts) (fun x hx => h1 x (by simp [hx])) (fun x hx => h2 x (by simp [hx]))
  refine ⟨?_, ?_⟩
  ·show errF M (sum (pg1 256 0 L) :: linkF Ts) = 0
   rw [errF, if_neg (by simp [q2]), q3]
  ·have hL := h1 L (by simp)
   show markF M (sum (pg1 256 0 L) :: linkF Ts) = _
   unfold markF at q4 ⊢
   rw [List.flatMap_cons, List.flatMap_cons, q4, q1, ofLv_self hL.D hL.U hL.d]
theorem e0_fine : Fine [] := ⟨(ofLv_fine (Z := []) (by intro x hx; cases hx)).1, (ofLv_fine (Z := []) (by intro x hx; cases hx)).2.1, by intro x hx; cases hx⟩
theorem e0_sv : sv 256 0 [] = [[0]] := by rw [sv_small (by rw [wh_nil]; decide), wh_nil]
theorem e0_pg : pg1 256 0 [] = [0] := by unfold pg1; rw [e0_sv]; rfl
theorem e0_ne : sum [0] ≠ z32 := by decide +kernel
theorem e07 : sum [7] ≠ sum [0] := by decide +kernel
theorem e0_full {N : List (By × Value)} (h : pgM (mapOf N) (sum [0]) = some [0]) : errF (pgM (mapOf N)) [sum [0]] = 0 ∧ markF (pgM (mapOf N)) [sum [0]] = [[0]] ∧ ldF (pgM (mapOf N)) (sum [0]) = ([], 0) := by
 have hf : FullL (pgM (mapOf N)) (sv 256 0 []) := fun p hp => by rw [e0_sv] at hp; rw [List.mem_singleton.1 hp]; exact h
 have h1 := trees_mark (M := pgM (mapOf N)) (Ts := [[]]) (fun L hL => by rw [List.mem_singleton.1 hL]; exact e0_fine) (fun L hL => by rw [List.mem_singleton.1 hL]; exact hf)
 have h2 := tree_ld e0_fine hf
 rw [show linkF [[]] = [sum [0]] by unfold linkF; rw [List.map_cons, e0_pg]; rfl, List.flatMap_cons, e0_sv] at h1
 rw [e0_pg] at h2
 exact ⟨h1.1, h1.2, h2.1⟩
theorem e0_one {v : Value} : pgM (mapOf [([0], v)]) (sum [0]) = some [0] := by rw [one_map, if_pos rfl]
theorem e0_two {v v7 : Value} : pgM (mapOf [([0], v), ([7], v7)]) (sum [0]) = some [0] := by
 have e : mapOf [(([0] : By), v), ([7], v7)] = [(sum [0], ([0], v)), (sum [7], ([7], v7))] := by
  unfold mapOf
  rw [List.foldl_cons, List.foldl_cons, List.foldl_nil]
  rw [insKV, insKV, if_neg (Ne.symm e07)]
  rfl
 rw [e]
 unfold pgM
 rw [getKV, if_pos rfl]
 rfl
theorem e0_none {v : Value} : errF (pgM (mapOf [([0], v)])) [z32] = 7 ∧ ldF (pgM (mapOf [([0], v)])) z32 = ([], 7) := by
 have h := one_no (v := v) e0_ne
 refine ⟨?_, h⟩
 have : ldE (pgM (mapOf [([0], v)])) z32 = 7 := by unfold ldE; rw [h, if_pos (by decide)]
 rw [errF, if_pos (by rw [this]; decide), this]
section
variable {P : Program} {n : Nat} {ops : Array Oper} {Q : Po} {rest : List Oper} {r : Fr} {w : World} {d : Nat} {ty : TypeId} {pos : String} {after : Array Edge} {m0 m : Mem} {F : List Nat} {w0 : World} {Es : List Ent}
theorem wl_svTwo {T E : TypeId} {bytes : Nat} {v u : Value} {x y : Operand} (hT : P.underlying T = some (.slice E)) (tf : TyF P E false 1 bytes) (hz : TyZ P E (.slice none 0 0)) (ho : v.oneCell' = true) (ho2 : u.oneCell' = true) (hx : ev r x = v) (hy : ev r y = u) (st : St m0 m F w0 w Es) (hd : Nat.blt d n = true)
  (k : ∀ b w', St m0 m F w0 w' (K.blk b #[v, u] E :: Es) → WL P n ops Q rest (upd d (.slice (some ⟨b, 0, none⟩) 2 2) r) w') :
  WL P n ops Q (⟨some d, .buildSlice T 2 #[(0, x), (1, y)], ty, pos, after, none⟩ :: rest) r w := by
 have hm : (madeCells (Value.slice none 0 0).cells (2 * 1)).size = 2 * 1 := size_madeCells ..
 have hc : ∀ c : Array Value, (setSeg c 0 [v]).toList = [v] ++ c.toList.drop 1 := fun c => by simp [setSeg]
 have hc2 : ∀ c : Array Value, (setSeg c 1 [u]).toList = c.toList.take 1 ++ [u] ++ c.toList.drop (1 + 1) := fun c => by simp [setSeg]
 refine wl_buildSlice (c' := #[v, u]) [(0, v), (1, u)] hT tf hz (by decide) (by decide) (by simp [hx, hy]) ⟨0, 1, rfl, by rw [cells_one ho]; rfl, by simp [size_madeCells], 1, 1, rfl, by rw [cells_one ho2]; rfl, ?_, ?_⟩ st hd k
 ·rw [cells_one ho]
  show 1 + 1 ≤ (setSeg _ 0 [v]).size
  rw [size_setSeg (by rw [hm]; show 0 + 1 ≤ 2 * 1; omega), hm]; omega
 ·rw [cells_one ho, cells_one ho2]
  show setSeg (setSeg _ 0 [v]) 1 [u] = _
  apply Array.ext'
  rw [hc2, hc]
  have hd2 : List.drop (1 + 1) ([v] ++ List.drop 1 (madeCells (Value.slice none 0 0).cells (2 * 1)).toList) = [] := List.drop_eq_nil_of_le (by rw [List.length_append, List.length_drop, show (madeCells (Value.slice none 0 0).cells (2 * 1)).toList.length = 2 by rw [Array.length_toList, hm]]; exact Nat.le_refl 2)
  rw [hd2]
  simp
end
section
variable {m : Mem} {wI : World}
theorem one_of {N : List (By × Value)} {b : By} (h : N.map (·.1) = [b]) : ∃ v, N = [(b, v)] := by
 cases N with
 | nil => cases h
 | cons x r =>
  rw [List.map_cons, List.cons.injEq, List.map_eq_nil_iff] at h
  exact ⟨x.2, by rw [h.2, ← h.1]⟩
theorem c_works18 (him : Im m wI) : Ret Try.prog 25 #[] wI fun v w' => Tch wI w' [] [] ∧ v = .bool true := by
 have st := St.start him
 refine ret_of Try.call25 Try.func25 rfl Try.ntmps25 Try.results25 rfl ?_
 refine wc_seq ?_
 refine wc_region ?_
 refine wl_val (v_assign' (by conv => (lhs; whnf))) rfl ?_
 refine wl_nil ?_
 refine then_go ?_
 refine wc_seq ?_
 refine wc_region ?_
 refine wl_val (v_build (c' := #[.slice none 0 0, .slice none 0 0]) [] TF.z34 TF.p34 rfl rfl) rfl ?_
 refine wl_call rfl (c_rsave (g := 256) st.im LvM.nil0 e0_fine.d e0_fine.D rfl (by decide)) rfl ?_
 rintro v12 w ⟨t12, m1, hg1, hi1, lv1, N, rfl, hN, hs1⟩
 have st := st.grown hg1 t12 hi1
 rw [e0_sv] at hs1
 obtain ⟨pv, rfl⟩ := one_of hs1
 rw [e0_pg]
 obtain ⟨b0, hb0⟩ : ∃ b0 : By, b0 = [0] := ⟨_, rfl⟩
 obtain ⟨b7, hb7⟩ : ∃ b7 : By, b7 = [7] := ⟨_, rfl⟩
 have f1 : pgM (mapOf [(b0, pv)]) (sum b0) = some b0 := by rw [hb0]; exact e0_one
 have f2 := e0_full e0_one (N := [([0], pv)])
 have f3 := e0_none (v := pv)
 have f4 : ∀ v7, errF (pgM (mapOf [([0], pv), ([7], v7)])) [sum [0]] = 0 ∧ markF (pgM (mapOf [([0], pv), ([7], v7)])) [sum [0]] = [[0]] ∧ ldF (pgM (mapOf [([0], pv), ([7], v7)])) (sum [0]) = ([], 0) := fun v7 => e0_full e0_two
 have f5 := e07
 rw [← hb0] at f2 f3 f5 hN ⊢
 simp only [← hb0, ← hb7] at f4
 rw [← hb7] at f5
 have l0 : b0.length = 1 := by rw [hb0]; rfl
 have l7 : b7.length = 1 := by rw [hb7]; rfl
 obtain ⟨D, hD⟩ : ∃ D, D = sum b0 := ⟨_, rfl⟩
 have hD32 : D.length = 32 := by rw [hD]; exact length_sum _
 rw [← hD] at f2 f5 ⊢
 simp only [← hD] at f4
 obtain ⟨pb, po, _, hpv, hs0, hrp⟩ := hN.elem (i := 0) (by simp)
 cases hpv
 have hNl : ∀ x ∈ [(b0, pv)], x.1.length ≤ 1000000000 := fun x hx => by rw [List.mem_singleton.1 hx]; show b0.length ≤ _; omega
 refine wl_val (v_move' (by conv => (lhs; whnf))) rfl ?_
 refine wl_val (v_extract rfl rfl) rfl ?_
 refine wl_val (v_extract rfl rfl) rfl ?_
 refine wl_alloc TF.z28 st rfl ?_
 intro b1 w st
 refine wl_storeW (cs := (bs D).toArray) 0 st rfl TF.t28 rfl rfl (by rw [List.size_toArray, length_bs, hD32]) rfl (one_bs _) ?_
 intro w st
 refine wl_val (v_assign' (by conv => (lhs; whnf))) rfl ?_
 refine wl_nil ?_
 refine then_go ?_
 refine wc_seq ?_
 refine wc_region ?_
 refine wl_val (v_load rfl (st.reads (v := arr D) 0 rfl TF.t28 (getV_all (by rw [List.size_toArray, length_bs, hD32])))) rfl ?_
 refine wl_digOne _ hD32 rfl st rfl ?_
 intro b17 w st
 have st : St m m1 [] wI w (digE (.slice (some ⟨b17, 0, none⟩) 1 1) [D] :: [K.blk b1 (bs D).toArray 28]) := st.rowShut 0 (b := b17) (k := 1) (cap := 1) (size := 32) (xs := digs [D]) rfl (by decide) (by simp [digs, length_bs, hD32]) (by decide) (by simp [digs, List.take_of_length_le, length_bs, hD32])
 obtain ⟨m2, hg2, hd1, st⟩ := st.keepDig (i := 0) rfl (by intro x hx; rw [List.mem_singleton.1 hx]; exact hD32)
 have hN := hN.mono hg2.le
 refine wl_val (v_move' (by conv => (lhs; whnf))) rfl ?_
 refine wl_call rfl (c_live st.im hd1 hN hNl (by simp) (by simp) (fun d hd => by rw [List.mem_singleton.1 hd, f2.2.2]; simp) (fun _ => Nat.le_trans (by rw [f2.2.1]; exact markL_len) (by decide : 1 ≤ 1000000000))) rfl ?_
 rintro v19 w ⟨t19, m3, hg3, hi3, hv19⟩
 have st := st.grown hg3 t19 hi3
 unfold LiveOut at hv19
 rw [f2.1, if_neg (by simp), f2.2.1] at hv19
 obtain ⟨ov, Lv, rfl, hov, hperm, _⟩ := hv19
 have hLv : Lv = [D] := by
  have e : (markL [b0]).map (·.1) = [D] := by rw [hD]; rfl
  rw [e] at hperm
  exact List.perm_singleton.1 hperm
 subst hLv
 obtain ⟨oa, oc, rfl⟩ := hov.sl
 obtain ⟨ob, oo, hoa, hro⟩ := hov.at (i := 0) (by simp)
 subst hoa
 have hN := hN.mono hg3.le
 refine wl_val (v_move' (by conv => (lhs; whnf))) rfl ?_
 refine wl_val (v_extract rfl rfl) rfl ?_
 refine wl_val (v_extract rfl rfl) rfl ?_
 refine wl_val (v_assign' (by conv => (lhs; whnf))) rfl ?_
 refine wl_val (v_assign' (by conv => (lhs; whnf))) rfl ?_
 refine wl_nil ?_
 refine then_go ?_
 refine wc_seq ?_
 refine wc_region ?_
 refine wl_val (v_build_a (c' := (bs z32).toArray) [] TF.z28 Try.underlying28 TF.t5 rfl rfl) rfl ?_
 refine wl_digOne z32 rfl rfl st rfl ?_
 intro b24 w st
 have st : St m m3 [] wI w (digE (.slice (some ⟨b24, 0, none⟩) 1 1) [z32] :: [K.blk b1 (bs D).toArray 28]) := st.rowShut 0 (b := b24) (k := 1) (cap := 1) (size := 32) (xs := digs [z32]) rfl (by decide) rfl (by decide) rfl
 obtain ⟨m4, hg4, hd2, st⟩ := st.keepDig (i := 0) rfl (by intro x hx; rw [List.mem_singleton.1 hx]; rfl)
 have hN := hN.mono hg4.le
 have hov := hov.mono hg4.le
 refine wl_val (v_move' (by conv => (lhs; whnf))) rfl ?_
 refine wl_call rfl (c_live st.im hd2 hN hNl (by simp) (by simp) (fun d hd => by rw [List.mem_singleton.1 hd, f3.2]; simp) (fun h => by rw [f3.1] at h; cases h)) rfl ?_
 rintro v26 w ⟨t26, m5, hg5, hi5, hv26⟩
 have st := st.grown hg5 t26 hi5
 unfold LiveOut at hv26
 rw [f3.1, if_pos (by decide)] at hv26
 subst hv26
 have hN := hN.mono hg5.le
 have hov := hov.mono hg5.le
 have st : St m m5 [] wI w [K.blk b1 (bs D).toArray 28] := st
 refine wl_val (v_move' (by conv => (lhs; whnf))) rfl ?_
 refine wl_val (v_extract rfl rfl) rfl ?_
 refine wl_val (v_extract rfl rfl) rfl ?_
 refine wl_val (v_assign' (by conv => (lhs; whnf))) rfl ?_
 refine wl_val (v_assign' (by conv => (lhs; whnf))) rfl ?_
 refine wl_nil ?_
 refine then_go ?_
 refine wc_seq ?_
 refine wc_draw TF.mixed ?_
 have st := st.pure (touch_drew _)
 refine fl_ld 0 rfl (v_load rfl (st.reads (v := arr D) 0 rfl TF.t28 (getV_all (by rw [List.size_toArray, length_bs, hD32])))) (by kernel_rfl) ?_
 refine fl_val 2 rfl (fun _ => (v_move' (by conv => (lhs; whnf)))) rfl (by kernel_rfl) ?_
 refine fl_val 3 rfl (fun _ => (v_ias 0 Try.underlying29 TF.t37 rfl rfl (by first | rfl | omega) (by simp))) rfl (by kernel_rfl) ?_
 refine fl_ld 4 rfl (v_load rfl (by obtain ⟨_, _, _, e, _, h⟩ := hN.elem (i := 0) (by simp); cases e; exact h st.im)) (by kernel_rfl) ?_
 refine fl_effs [1, 5] (by kernel_rfl) ⟨obl_ld rfl rfl rfl (v_load rfl (by obtain ⟨_, _, _, e, _, h⟩ := hN.elem (i := 0) (by simp); cases e; exact h st.im)), obl_ld rfl rfl rfl (v_load rfl (st.reads (v := arr D) 0 rfl TF.t28 (getV_all (by rw [List.size_toArray, length_bs, hD32])))), trivial⟩ (all2 ?_ ?_)
 ·refine stepE 1 (pure' := [3, 2]) (lds' := [4]) rfl (by kernel_rfl) (by kernel_rfl) ?_
  refine wl_digOne _ hD32 rfl st rfl ?_
  intro b31 w st
  have st : St m _ [] wI w (digE (.slice (some ⟨b31, 0, none⟩) 1 1) [D] :: [K.blk b1 (bs D).toArray 28]) := st.rowShut 0 (b := b31) (k := 1) (cap := 1) (size := 32) (xs := digs [D]) rfl (by decide) (by simp [digs, length_bs, hD32]) (by decide) (by simp [digs, List.take_of_length_le, length_bs, hD32])
  obtain ⟨m6, hg6, hd3, st⟩ := st.keepDig (i := 0) rfl (by intro x hx; rw [List.mem_singleton.1 hx]; exact hD32)
  have hN := hN.mono hg6.le
  have hov := hov.mono hg6.le
  try (have hs7 := hs7.mono hg6.le)
  try (have hN2 := hN2.mono hg6.le)
  have st : St m m6 [] wI w [K.blk b1 (bs D).toArray 28] := st
  refine wl_nil ⟨rfl, ?_⟩
  refine fl_eff1 5 [3, 2] [4] (by kernel_rfl) ⟨obl_ld rfl rfl rfl (v_load rfl (by obtain ⟨_, _, _, e, _, h⟩ := hN.elem (i := 0) (by simp); cases e; exact h st.im)), trivial⟩ rfl ?_
  refine wl_byteR 7 Try.underlying37 TF.t5 TF.z5 rfl st rfl ?_
  intro b35 w st
  have st0 := st
  obtain ⟨m7, hg7, hm7, st⟩ := st.freezeR (i := 0) rfl (by simp)
  have hs7 : SlM m7 (.slice (some ⟨b35, 0, none⟩) 1 1) 1 b7.length (bs b7) := by rw [hb7]; exact row_SlM (m := m7) (st0.at (i := 0) rfl) hm7
  have hN := hN.mono hg7.le
  have hov := hov.mono hg7.le
  try (have hd3 := hd3.mono hg7.le)
  have st : St m m7 [] wI w [K.blk b1 (bs D).toArray 28] := st
  refine wl_nil ⟨rfl, ?_⟩
  refine fl_eff1 6 [3, 2] [] (by kernel_rfl) ⟨obl_ld rfl rfl rfl (v_load rfl (by obtain ⟨_, _, _, e, _, h⟩ := hN.elem (i := 0) (by simp); cases e; exact h st.im)), trivial⟩ rfl ?_
  obtain ⟨_, _, _, hpv, hs0, _⟩ := hN.elem (i := 0) (by simp)
  refine wl_svTwo Try.underlying29 TF.t37 TF.z37 (SlM.one1 hs0) (SlM.one1 hs7) rfl rfl st rfl ?_
  intro b36 w st
  obtain ⟨m8, hg8, hm8, st⟩ := st.freeze (i := 0) rfl (by simp)
  have hN2 : PcsM m8 (.slice (some ⟨b36, 0, none⟩) 2 2) [(b0, pv), (b7, .slice (some ⟨b35, 0, none⟩) 1 1)] := ⟨SlM.of (k := 2) hm8 rfl (by decide) (fun j u hj => by simpa using hj), fun x hx => by
   simp at hx
   rcases hx with rfl | rfl
   ·exact hs0.mono hg8.le
   ·exact hs7.mono hg8.le⟩
  have hN := hN.mono hg8.le
  have hov := hov.mono hg8.le
  try (have hd3 := hd3.mono hg8.le)
  have st : St m m8 [] wI w [K.blk b1 (bs D).toArray 28] := st
  refine wl_nil ⟨rfl, ?_⟩
  refine fl_eff1 7 [3, 2] [] (by kernel_rfl) trivial rfl ?_
  have g4 := f4 (.slice (some ⟨b35, 0, none⟩) 1 1)
  refine wl_call rfl (c_split st.im hd3 hN2 (fun x hx => by simp at hx; rcases hx with rfl | rfl; (show b0.length ≤ _; omega); (show b7.length ≤ _; omega)) (by simp) (by simp) (fun d hd => by rw [List.mem_singleton.1 hd, g4.2.2]; simp)) rfl ?_
  rintro v37 w ⟨t37, m9, hg9, hi9, hv37⟩
  have st := st.grown hg9 t37 hi9
  unfold SplitOut at hv37
  rw [g4.1, if_neg (by simp), g4.2.1] at hv37
  obtain ⟨nv, iv, NA, NB, rfl, hNA, hNB, hAe, hBe⟩ := hv37
  have e1 : (List.map sum [b0]) = [D] := by rw [hD]; rfl
  rw [e1] at hAe hBe
  have c0 : decide (sum b0 ∈ [D]) = true := by rw [← hD]; simp
  have c7 : decide (sum b7 ∈ [D]) = false := by simpa using f5
  have hAl : NA.length = 1 := by
   have h := congrArg List.length hAe
   rw [List.length_map] at h
   rw [h]
   show (List.filter _ [b0, b7]).length = 1
   rw [List.filter_cons, c0, List.filter_cons, c7]
   rfl
  have hBl : NB.length = 1 := by
   have h := congrArg List.length hBe
   rw [List.length_map] at h
   rw [h]
   show (List.filter _ [b0, b7]).length = 1
   rw [List.filter_cons, c0, List.filter_cons, c7]
   rfl
  obtain ⟨wa, wc, hnv⟩ : ∃ a c, nv = .slice a 1 c := by obtain ⟨⟨_, a, c, h, _⟩, _⟩ := hNA; exact ⟨a, c, by rw [h, hAl]⟩
  obtain ⟨wa2, wc2, hiv⟩ : ∃ a c, iv = .slice a 1 c := by obtain ⟨⟨_, a, c, h, _⟩, _⟩ := hNB; exact ⟨a, c, by rw [h, hBl]⟩
  subst hnv
  subst hiv
  have hov := hov.mono hg9.le
  refine wl_nil ⟨rfl, ?_⟩
  refine fl_val 8 rfl (fun _ => (v_move' (by conv => (lhs; whnf)))) rfl (by kernel_rfl) ?_
  refine fl_val 9 rfl (fun _ => (v_extract rfl rfl)) rfl (by kernel_rfl) ?_
  refine fl_val 10 rfl (fun _ => (v_extract rfl rfl)) rfl (by kernel_rfl) ?_
  refine fl_val 11 rfl (fun _ => (v_extract rfl rfl)) rfl (by kernel_rfl) ?_
  refine fl_eff1 12 [11, 10] [] (by kernel_rfl) trivial rfl ?_
  refine wl_val (v_assign' (by conv => (lhs; whnf))) rfl ?_
  refine wl_nil ⟨rfl, ?_⟩
  refine fl_eff1 13 [11] [] (by kernel_rfl) trivial rfl ?_
  refine wl_val (v_assign' (by conv => (lhs; whnf))) rfl ?_
  refine wl_nil ⟨rfl, ?_⟩
  refine fl_eff1 14 [] [] (by kernel_rfl) trivial rfl ?_
  refine wl_val (v_assign' (by conv => (lhs; whnf))) rfl ?_
  refine wl_nil ⟨rfl, ?_⟩
  refine fl_nil (by kernel_rfl) trivial ?_
  refine then_go ?_
  refine wc_seq ?_
  refine wc_draw TF.mixed ?_
  have st := st.pure (touch_drew _)
  refine fl_val 0 rfl (fun _ => (v_move' (by conv => (lhs; whnf)))) rfl (by kernel_rfl) ?_
  refine fl_val 1 rfl (fun _ => (v_eqlT rfl rfl rfl)) rfl (by kernel_rfl) ?_
  refine fl_val 2 rfl (fun _ => (v_move' (by conv => (lhs; whnf)))) rfl (by kernel_rfl) ?_
  refine fl_valg 3 rfl rfl rfl rfl (fun hg _ => (v_move' (by conv => (lhs; whnf)))) rfl (by kernel_rfl) ?_
  refine fl_valg 4 rfl rfl rfl rfl (fun hg _ => (v_len_s Try.underlying22 rfl)) rfl (by kernel_rfl) ?_
  refine fl_valg 5 rfl rfl rfl rfl (fun hg _ => (v_eqlT rfl rfl rfl)) rfl (by kernel_rfl) ?_
  refine fl_val 6 rfl (fun _ => (v_pick rfl)) rfl (by kernel_rfl) ?_
  refine fl_val 7 rfl (fun _ => (v_move' (by conv => (lhs; whnf)))) rfl (by kernel_rfl) ?_
  refine fl_valg 8 rfl rfl rfl rfl (fun hg _ => (v_move' (by conv => (lhs; whnf)))) rfl (by kernel_rfl) ?_
  refine fl_valg 9 rfl rfl rfl rfl (fun hg _ => (v_ias 0 Try.underlying22 TF.t28 rfl rfl (by first | rfl | omega) (by simp))) rfl (by kernel_rfl) ?_
  refine fl_ldg 10 rfl rfl rfl (fun hg => (v_load rfl (hov.rd (i := 0) rfl (by simp) rfl st.im))) (by kernel_rfl) ?_
  refine fl_ldg 11 rfl rfl rfl (fun hg => (v_load rfl (st.reads (v := arr D) 0 rfl TF.t28 (getV_all (by rw [List.size_toArray, length_bs, hD32]))))) (by kernel_rfl) ?_
  refine fl_valg 12 rfl rfl rfl rfl (fun hg _ => (wl_valD (v_eq_arr Try.underlying28 TF.t5 Try.underlying5 TF.e28 rfl rfl hD32 hD32) (decide_eq_true rfl))) rfl (by kernel_rfl) ?_
  refine fl_val 13 rfl (fun _ => (v_pick rfl)) rfl (by kernel_rfl) ?_
  refine fl_val 14 rfl (fun _ => (v_move' (by conv => (lhs; whnf)))) rfl (by kernel_rfl) ?_
  refine fl_valg 15 rfl rfl rfl rfl (fun hg _ => (v_move' (by conv => (lhs; whnf)))) rfl (by kernel_rfl) ?_
  refine fl_valg 16 rfl rfl rfl rfl (fun hg _ => (v_eqlT rfl rfl rfl)) rfl (by kernel_rfl) ?_
  refine fl_val 17 rfl (fun _ => (v_pick rfl)) rfl (by kernel_rfl) ?_
  refine fl_val 18 rfl (fun _ => (v_move' (by conv => (lhs; whnf)))) rfl (by kernel_rfl) ?_
  refine fl_valg 19 rfl rfl rfl rfl (fun hg _ => (v_move' (by conv => (lhs; whnf)))) rfl (by kernel_rfl) ?_
  refine fl_valg 20 rfl rfl rfl rfl (fun hg _ => (v_eqlT rfl rfl rfl)) rfl (by kernel_rfl) ?_
  refine fl_val 21 rfl (fun _ => (v_pick rfl)) rfl (by kernel_rfl) ?_
  refine fl_val 22 rfl (fun _ => (v_move' (by conv => (lhs; whnf)))) rfl (by kernel_rfl) ?_
  refine fl_valg 23 rfl rfl rfl rfl (fun hg _ => (v_move' (by conv => (lhs; whnf)))) rfl (by kernel_rfl) ?_
  refine fl_valg 24 rfl rfl rfl rfl (fun hg _ => (v_len_s Try.underlying29 rfl)) rfl (by kernel_rfl) ?_
  refine fl_valg 25 rfl rfl rfl rfl (fun hg _ => (v_eqlT rfl rfl rfl)) rfl (by kernel_rfl) ?_
  refine fl_val 26 rfl (fun _ => (v_pick rfl)) rfl (by kernel_rfl) ?_
  refine fl_val 27 rfl (fun _ => (v_move' (by conv => (lhs; whnf)))) rfl (by kernel_rfl) ?_
  refine fl_valg 28 rfl rfl rfl rfl (fun hg _ => (v_move' (by conv => (lhs; whnf)))) rfl (by kernel_rfl) ?_
  refine fl_valg 29 rfl rfl rfl rfl (fun hg _ => (v_len_s Try.underlying29 rfl)) rfl (by kernel_rfl) ?_
  refine fl_valg 30 rfl rfl rfl rfl (fun hg _ => (v_eqlT rfl rfl rfl)) rfl (by kernel_rfl) ?_
  refine fl_val 31 rfl (fun _ => (v_pick rfl)) rfl (by kernel_rfl) ?_
  refine fl_eff1 32 [] [] (by kernel_rfl) ⟨obl_ldg (v' := undef) rfl rfl rfl rfl rfl rfl (fun _ => (v_load rfl (st.reads (v := arr D) 0 rfl TF.t28 (getV_all (by rw [List.size_toArray, length_bs, hD32]))))), obl_ldg (v' := undef) rfl rfl rfl rfl rfl rfl (fun _ => (v_load rfl (hov.rd (i := 0) rfl (by simp) rfl st.im))), trivial⟩ rfl ?_
  refine wl_val (v_assign' (by conv => (lhs; whnf))) rfl ?_
  refine wl_nil ⟨rfl, ?_⟩
  refine fl_nil (by kernel_rfl) trivial ?_
  refine then_go ?_
  refine wc_ret ?_
  exact ret1 rfl ⟨(st.keepOnly (l := []) (List.nil_sublist _)).touch, rfl⟩
 ·refine stepE 5 (pure' := [3, 2]) (lds' := [4, 0]) rfl (by kernel_rfl) (by kernel_rfl) ?_
  refine wl_byteR 7 Try.underlying37 TF.t5 TF.z5 rfl st rfl ?_
  intro b35 w st
  have st0 := st
  obtain ⟨m7, hg7, hm7, st⟩ := st.freezeR (i := 0) rfl (by simp)
  have hs7 : SlM m7 (.slice (some ⟨b35, 0, none⟩) 1 1) 1 b7.length (bs b7) := by rw [hb7]; exact row_SlM (m := m7) (st0.at (i := 0) rfl) hm7
  have hN := hN.mono hg7.le
  have hov := hov.mono hg7.le
  try (have hd3 := hd3.mono hg7.le)
  have st : St m m7 [] wI w [K.blk b1 (bs D).toArray 28] := st
  refine wl_nil ⟨rfl, ?_⟩
  refine fl_effs [1, 6] (by kernel_rfl) ⟨obl_ld rfl rfl rfl (v_load rfl (by obtain ⟨_, _, _, e, _, h⟩ := hN.elem (i := 0) (by simp); cases e; exact h st.im)), obl_ld rfl rfl rfl (v_load rfl (st.reads (v := arr D) 0 rfl TF.t28 (getV_all (by rw [List.size_toArray, length_bs, hD32])))), trivial⟩ (all2 ?_ ?_)
  ·refine stepE 1 (pure' := [3, 2]) (lds' := [4]) rfl (by kernel_rfl) (by kernel_rfl) ?_
   refine wl_digOne _ hD32 rfl st rfl ?_
   intro b31 w st
   have st : St m _ [] wI w (digE (.slice (some ⟨b31, 0, none⟩) 1 1) [D] :: [K.blk b1 (bs D).toArray 28]) := st.rowShut 0 (b := b31) (k := 1) (cap := 1) (size := 32) (xs := digs [D]) rfl (by decide) (by simp [digs, length_bs, hD32]) (by decide) (by simp [digs, List.take_of_length_le, length_bs, hD32])
   obtain ⟨m6, hg6, hd3, st⟩ := st.keepDig (i := 0) rfl (by intro x hx; rw [List.mem_singleton.1 hx]; exact hD32)
   have hN := hN.mono hg6.le
   have hov := hov.mono hg6.le
   try (have hs7 := hs7.mono hg6.le)
   try (have hN2 := hN2.mono hg6.le)
   have st : St m m6 [] wI w [K.blk b1 (bs D).toArray 28] := st
   refine wl_nil ⟨rfl, ?_⟩
   refine fl_eff1 6 [3, 2] [] (by kernel_rfl) ⟨obl_ld rfl rfl rfl (v_load rfl (by obtain ⟨_, _, _, e, _, h⟩ := hN.elem (i := 0) (by simp); cases e; exact h st.im)), trivial⟩ rfl ?_
   obtain ⟨_, _, _, hpv, hs0, _⟩ := hN.elem (i := 0) (by simp)
   refine wl_svTwo Try.underlying29 TF.t37 TF.z37 (SlM.one1 hs0) (SlM.one1 hs7) rfl rfl st rfl ?_
   intro b36 w st
   obtain ⟨m8, hg8, hm8, st⟩ := st.freeze (i := 0) rfl (by simp)
   have hN2 : PcsM m8 (.slice (some ⟨b36, 0, none⟩) 2 2) [(b0, pv), (b7, .slice (some ⟨b35, 0, none⟩) 1 1)] := ⟨SlM.of (k := 2) hm8 rfl (by decide) (fun j u hj => by simpa using hj), fun x hx => by
    simp at hx
    rcases hx with rfl | rfl
    ·exact hs0.mono hg8.le
    ·exact hs7.mono hg8.le⟩
   have hN := hN.mono hg8.le
   have hov := hov.mono hg8.le
   try (have hd3 := hd3.mono hg8.le)
   have st : St m m8 [] wI w [K.blk b1 (bs D).toArray 28] := st
   refine wl_nil ⟨rfl, ?_⟩
   refine fl_eff1 7 [3, 2] [] (by kernel_rfl) trivial rfl ?_
   have g4 := f4 (.slice (some ⟨b35, 0, none⟩) 1 1)
   refine wl_call rfl (c_split st.im hd3 hN2 (fun x hx => by simp at hx; rcases hx with rfl | rfl; (show b0.length ≤ _; omega); (show b7.length ≤ _; omega)) (by simp) (by simp) (fun d hd => by rw [List.mem_singleton.1 hd, g4.2.2]; simp)) rfl ?_
   rintro v37 w ⟨t37, m9, hg9, hi9, hv37⟩
   have st := st.grown hg9 t37 hi9
   unfold SplitOut at hv37
   rw [g4.1, if_neg (by simp), g4.2.1] at hv37
   obtain ⟨nv, iv, NA, NB, rfl, hNA, hNB, hAe, hBe⟩ := hv37
   have e1 : (List.map sum [b0]) = [D] := by rw [hD]; rfl
   rw [e1] at hAe hBe
   have c0 : decide (sum b0 ∈ [D]) = true := by rw [← hD]; simp
   have c7 : decide (sum b7 ∈ [D]) = false := by simpa using f5
   have hAl : NA.length = 1 := by
    have h := congrArg List.length hAe
    rw [List.length_map] at h
    rw [h]
    show (List.filter _ [b0, b7]).length = 1
    rw [List.filter_cons, c0, List.filter_cons, c7]
    rfl
   have hBl : NB.length = 1 := by
    have h := congrArg List.length hBe
    rw [List.length_map] at h
    rw [h]
    show (List.filter _ [b0, b7]).length = 1
    rw [List.filter_cons, c0, List.filter_cons, c7]
    rfl
   obtain ⟨wa, wc, hnv⟩ : ∃ a c, nv = .slice a 1 c := by obtain ⟨⟨_, a, c, h, _⟩, _⟩ := hNA; exact ⟨a, c, by rw [h, hAl]⟩
   obtain ⟨wa2, wc2, hiv⟩ : ∃ a c, iv = .slice a 1 c := by obtain ⟨⟨_, a, c, h, _⟩, _⟩ := hNB; exact ⟨a, c, by rw [h, hBl]⟩
   subst hnv
   subst hiv
   have hov := hov.mono hg9.le
   refine wl_nil ⟨rfl, ?_⟩
   refine fl_val 8 rfl (fun _ => (v_move' (by conv => (lhs; whnf)))) rfl (by kernel_rfl) ?_
   refine fl_val 9 rfl (fun _ => (v_extract rfl rfl)) rfl (by kernel_rfl) ?_
   refine fl_val 10 rfl (fun _ => (v_extract rfl rfl)) rfl (by kernel_rfl) ?_
   refine fl_val 11 rfl (fun _ => (v_extract rfl rfl)) rfl (by kernel_rfl) ?_
   refine fl_eff1 12 [11, 10] [] (by kernel_rfl) trivial rfl ?_
   refine wl_val (v_assign' (by conv => (lhs; whnf))) rfl ?_
   refine wl_nil ⟨rfl, ?_⟩
   refine fl_eff1 13 [11] [] (by kernel_rfl) trivial rfl ?_
   refine wl_val (v_assign' (by conv => (lhs; whnf))) rfl ?_
   refine wl_nil ⟨rfl, ?_⟩
   refine fl_eff1 14 [] [] (by kernel_rfl) trivial rfl ?_
   refine wl_val (v_assign' (by conv => (lhs; whnf))) rfl ?_
   refine wl_nil ⟨rfl, ?_⟩
   refine fl_nil (by kernel_rfl) trivial ?_
   refine then_go ?_
   refine wc_seq ?_
   refine wc_draw TF.mixed ?_
   have st := st.pure (touch_drew _)
   refine fl_val 0 rfl (fun _ => (v_move' (by conv => (lhs; whnf)))) rfl (by kernel_rfl) ?_
   refine fl_val 1 rfl (fun _ => (v_eqlT rfl rfl rfl)) rfl (by kernel_rfl) ?_
   refine fl_val 2 rfl (fun _ => (v_move' (by conv => (lhs; whnf)))) rfl (by kernel_rfl) ?_
   refine fl_valg 3 rfl rfl rfl rfl (fun hg _ => (v_move' (by conv => (lhs; whnf)))) rfl (by kernel_rfl) ?_
   refine fl_valg 4 rfl rfl rfl rfl (fun hg _ => (v_len_s Try.underlying22 rfl)) rfl (by kernel_rfl) ?_
   refine fl_valg 5 rfl rfl rfl rfl (fun hg _ => (v_eqlT rfl rfl rfl)) rfl (by kernel_rfl) ?_
   refine fl_val 6 rfl (fun _ => (v_pick rfl)) rfl (by kernel_rfl) ?_
   refine fl_val 7 rfl (fun _ => (v_move' (by conv => (lhs; whnf)))) rfl (by kernel_rfl) ?_
   refine fl_valg 8 rfl rfl rfl rfl (fun hg _ => (v_move' (by conv => (lhs; whnf)))) rfl (by kernel_rfl) ?_
   refine fl_valg 9 rfl rfl rfl rfl (fun hg _ => (v_ias 0 Try.underlying22 TF.t28 rfl rfl (by first | rfl | omega) (by simp))) rfl (by kernel_rfl) ?_
   refine fl_ldg 10 rfl rfl rfl (fun hg => (v_load rfl (hov.rd (i := 0) rfl (by simp) rfl st.im))) (by kernel_rfl) ?_
   refine fl_ldg 11 rfl rfl rfl (fun hg => (v_load rfl (st.reads (v := arr D) 0 rfl TF.t28 (getV_all (by rw [List.size_toArray, length_bs, hD32]))))) (by kernel_rfl) ?_
   refine fl_valg 12 rfl rfl rfl rfl (fun hg _ => (wl_valD (v_eq_arr Try.underlying28 TF.t5 Try.underlying5 TF.e28 rfl rfl hD32 hD32) (decide_eq_true rfl))) rfl (by kernel_rfl) ?_
   refine fl_val 13 rfl (fun _ => (v_pick rfl)) rfl (by kernel_rfl) ?_
   refine fl_val 14 rfl (fun _ => (v_move' (by conv => (lhs; whnf)))) rfl (by kernel_rfl) ?_
   refine fl_valg 15 rfl rfl rfl rfl (fun hg _ => (v_move' (by conv => (lhs; whnf)))) rfl (by kernel_rfl) ?_
   refine fl_valg 16 rfl rfl rfl rfl (fun hg _ => (v_eqlT rfl rfl rfl)) rfl (by kernel_rfl) ?_
   refine fl_val 17 rfl (fun _ => (v_pick rfl)) rfl (by kernel_rfl) ?_
   refine fl_val 18 rfl (fun _ => (v_move' (by conv => (lhs; whnf)))) rfl (by kernel_rfl) ?_
   refine fl_valg 19 rfl rfl rfl rfl (fun hg _ => (v_move' (by conv => (lhs; whnf)))) rfl (by kernel_rfl) ?_
   refine fl_valg 20 rfl rfl rfl rfl (fun hg _ => (v_eqlT rfl rfl rfl)) rfl (by kernel_rfl) ?_
   refine fl_val 21 rfl (fun _ => (v_pick rfl)) rfl (by kernel_rfl) ?_
   refine fl_val 22 rfl (fun _ => (v_move' (by conv => (lhs; whnf)))) rfl (by kernel_rfl) ?_
   refine fl_valg 23 rfl rfl rfl rfl (fun hg _ => (v_move' (by conv => (lhs; whnf)))) rfl (by kernel_rfl) ?_
   refine fl_valg 24 rfl rfl rfl rfl (fun hg _ => (v_len_s Try.underlying29 rfl)) rfl (by kernel_rfl) ?_
   refine fl_valg 25 rfl rfl rfl rfl (fun hg _ => (v_eqlT rfl rfl rfl)) rfl (by kernel_rfl) ?_
   refine fl_val 26 rfl (fun _ => (v_pick rfl)) rfl (by kernel_rfl) ?_
   refine fl_val 27 rfl (fun _ => (v_move' (by conv => (lhs; whnf)))) rfl (by kernel_rfl) ?_
   refine fl_valg 28 rfl rfl rfl rfl (fun hg _ => (v_move' (by conv => (lhs; whnf)))) rfl (by kernel_rfl) ?_
   refine fl_valg 29 rfl rfl rfl rfl (fun hg _ => (v_len_s Try.underlying29 rfl)) rfl (by kernel_rfl) ?_
   refine fl_valg 30 rfl rfl rfl rfl (fun hg _ => (v_eqlT rfl rfl rfl)) rfl (by kernel_rfl) ?_
   refine fl_val 31 rfl (fun _ => (v_pick rfl)) rfl (by kernel_rfl) ?_
   refine fl_eff1 32 [] [] (by kernel_rfl) ⟨obl_ldg (v' := undef) rfl rfl rfl rfl rfl rfl (fun _ => (v_load rfl (st.reads (v := arr D) 0 rfl TF.t28 (getV_all (by rw [List.size_toArray, length_bs, hD32]))))), obl_ldg (v' := undef) rfl rfl rfl rfl rfl rfl (fun _ => (v_load rfl (hov.rd (i := 0) rfl (by simp) rfl st.im))), trivial⟩ rfl ?_
   refine wl_val (v_assign' (by conv => (lhs; whnf))) rfl ?_
   refine wl_nil ⟨rfl, ?_⟩
   refine fl_nil (by kernel_rfl) trivial ?_
   refine then_go ?_
   refine wc_ret ?_
   exact ret1 rfl ⟨(st.keepOnly (l := []) (List.nil_sublist _)).touch, rfl⟩
  ·refine stepE 6 (pure' := [3, 2]) (lds' := [0]) rfl (by kernel_rfl) (by kernel_rfl) ?_
   obtain ⟨_, _, _, hpv, hs0, _⟩ := hN.elem (i := 0) (by simp)
   refine wl_svTwo Try.underlying29 TF.t37 TF.z37 (SlM.one1 hs0) (SlM.one1 hs7) rfl rfl st rfl ?_
   intro b36 w st
   obtain ⟨m8, hg8, hm8, st⟩ := st.freeze (i := 0) rfl (by simp)
   have hN2 : PcsM m8 (.slice (some ⟨b36, 0, none⟩) 2 2) [(b0, pv), (b7, .slice (some ⟨b35, 0, none⟩) 1 1)] := ⟨SlM.of (k := 2) hm8 rfl (by decide) (fun j u hj => by simpa using hj), fun x hx => by
    simp at hx
    rcases hx with rfl | rfl
    ·exact hs0.mono hg8.le
    ·exact hs7.mono hg8.le⟩
   have hN := hN.mono hg8.le
   have hov := hov.mono hg8.le
   try (have hd3 := hd3.mono hg8.le)
   have st : St m m8 [] wI w [K.blk b1 (bs D).toArray 28] := st
   refine wl_nil ⟨rfl, ?_⟩
   refine fl_eff1 1 [3, 2] [] (by kernel_rfl) ⟨obl_ld rfl rfl rfl (v_load rfl (st.reads (v := arr D) 0 rfl TF.t28 (getV_all (by rw [List.size_toArray, length_bs, hD32])))), trivial⟩ rfl ?_
   refine wl_digOne _ hD32 rfl st rfl ?_
   intro b31 w st
   have st : St m _ [] wI w (digE (.slice (some ⟨b31, 0, none⟩) 1 1) [D] :: [K.blk b1 (bs D).toArray 28]) := st.rowShut 0 (b := b31) (k := 1) (cap := 1) (size := 32) (xs := digs [D]) rfl (by decide) (by simp [digs, length_bs, hD32]) (by decide) (by simp [digs, List.take_of_length_le, length_bs, hD32])
   obtain ⟨m6, hg6, hd3, st⟩ := st.keepDig (i := 0) rfl (by intro x hx; rw [List.mem_singleton.1 hx]; exact hD32)
   have hN := hN.mono hg6.le
   have hov := hov.mono hg6.le
   try (have hs7 := hs7.mono hg6.le)
   try (have hN2 := hN2.mono hg6.le)
   have st : St m m6 [] wI w [K.blk b1 (bs D).toArray 28] := st
   refine wl_nil ⟨rfl, ?_⟩
   refine fl_eff1 7 [3, 2] [] (by kernel_rfl) trivial rfl ?_
   have g4 := f4 (.slice (some ⟨b35, 0, none⟩) 1 1)
   refine wl_call rfl (c_split st.im hd3 hN2 (fun x hx => by simp at hx; rcases hx with rfl | rfl; (show b0.length ≤ _; omega); (show b7.length ≤ _; omega)) (by simp) (by simp) (fun d hd => by rw [List.mem_singleton.1 hd, g4.2.2]; simp)) rfl ?_
   rintro v37 w ⟨t37, m9, hg9, hi9, hv37⟩
   have st := st.grown hg9 t37 hi9
   unfold SplitOut at hv37
   rw [g4.1, if_neg (by simp), g4.2.1] at hv37
   obtain ⟨nv, iv, NA, NB, rfl, hNA, hNB, hAe, hBe⟩ := hv37
   have e1 : (List.map sum [b0]) = [D] := by rw [hD]; rfl
   rw [e1] at hAe hBe
   have c0 : decide (sum b0 ∈ [D]) = true := by rw [← hD]; simp
   have c7 : decide (sum b7 ∈ [D]) = false := by simpa using f5
   have hAl : NA.length = 1 := by
    have h := congrArg List.length hAe
    rw [List.length_map] at h
    rw [h]
    show (List.filter _ [b0, b7]).length = 1
    rw [List.filter_cons, c0, List.filter_cons, c7]
    rfl
   have hBl : NB.length = 1 := by
    have h := congrArg List.length hBe
    rw [List.length_map] at h
    rw [h]
    show (List.filter _ [b0, b7]).length = 1
    rw [List.filter_cons, c0, List.filter_cons, c7]
    rfl
   obtain ⟨wa, wc, hnv⟩ : ∃ a c, nv = .slice a 1 c := by obtain ⟨⟨_, a, c, h, _⟩, _⟩ := hNA; exact ⟨a, c, by rw [h, hAl]⟩
   obtain ⟨wa2, wc2, hiv⟩ : ∃ a c, iv = .slice a 1 c := by obtain ⟨⟨_, a, c, h, _⟩, _⟩ := hNB; exact ⟨a, c, by rw [h, hBl]⟩
   subst hnv
   subst hiv
   have hov := hov.mono hg9.le
   refine wl_nil ⟨rfl, ?_⟩
   refine fl_val 8 rfl (fun _ => (v_move' (by conv => (lhs; whnf)))) rfl (by kernel_rfl) ?_
   refine fl_val 9 rfl (fun _ => (v_extract rfl rfl)) rfl (by kernel_rfl) ?_
   refine fl_val 10 rfl (fun _ => (v_extract rfl rfl)) rfl (by kernel_rfl) ?_
   refine fl_val 11 rfl (fun _ => (v_extract rfl rfl)) rfl (by kernel_rfl) ?_
   refine fl_eff1 12 [11, 10] [] (by kernel_rfl) trivial rfl ?_
   refine wl_val (v_assign' (by conv => (lhs; whnf))) rfl ?_
   refine wl_nil ⟨rfl, ?_⟩
   refine fl_eff1 13 [11] [] (by kernel_rfl) trivial rfl ?_
   refine wl_val (v_assign' (by conv => (lhs; whnf))) rfl ?_
   refine wl_nil ⟨rfl, ?_⟩
   refine fl_eff1 14 [] [] (by kernel_rfl) trivial rfl ?_
   refine wl_val (v_assign' (by conv => (lhs; whnf))) rfl ?_
   refine wl_nil ⟨rfl, ?_⟩
   refine fl_nil (by kernel_rfl) trivial ?_
   refine then_go ?_
   refine wc_seq ?_
   refine wc_draw TF.mixed ?_
   have st := st.pure (touch_drew _)
   refine fl_val 0 rfl (fun _ => (v_move' (by conv => (lhs; whnf)))) rfl (by kernel_rfl) ?_
   refine fl_val 1 rfl (fun _ => (v_eqlT rfl rfl rfl)) rfl (by kernel_rfl) ?_
   refine fl_val 2 rfl (fun _ => (v_move' (by conv => (lhs; whnf)))) rfl (by kernel_rfl) ?_
   refine fl_valg 3 rfl rfl rfl rfl (fun hg _ => (v_move' (by conv => (lhs; whnf)))) rfl (by kernel_rfl) ?_
   refine fl_valg 4 rfl rfl rfl rfl (fun hg _ => (v_len_s Try.underlying22 rfl)) rfl (by kernel_rfl) ?_
   refine fl_valg 5 rfl rfl rfl rfl (fun hg _ => (v_eqlT rfl rfl rfl)) rfl (by kernel_rfl) ?_
   refine fl_val 6 rfl (fun _ => (v_pick rfl)) rfl (by kernel_rfl) ?_
   refine fl_val 7 rfl (fun _ => (v_move' (by conv => (lhs; whnf)))) rfl (by kernel_rfl) ?_
   refine fl_valg 8 rfl rfl rfl rfl (fun hg _ => (v_move' (by conv => (lhs; whnf)))) rfl (by kernel_rfl) ?_
   refine fl_valg 9 rfl rfl rfl rfl (fun hg _ => (v_ias 0 Try.underlying22 TF.t28 rfl rfl (by first | rfl | omega) (by simp))) rfl (by kernel_rfl) ?_
   refine fl_ldg 10 rfl rfl rfl (fun hg => (v_load rfl (hov.rd (i := 0) rfl (by simp) rfl st.im))) (by kernel_rfl) ?_
   refine fl_ldg 11 rfl rfl rfl (fun hg => (v_load rfl (st.reads (v := arr D) 0 rfl TF.t28 (getV_all (by rw [List.size_toArray, length_bs, hD32]))))) (by kernel_rfl) ?_
   refine fl_valg 12 rfl rfl rfl rfl (fun hg _ => (wl_valD (v_eq_arr Try.underlying28 TF.t5 Try.underlying5 TF.e28 rfl rfl hD32 hD32) (decide_eq_true rfl))) rfl (by kernel_rfl) ?_
   refine fl_val 13 rfl (fun _ => (v_pick rfl)) rfl (by kernel_rfl) ?_
   refine fl_val 14 rfl (fun _ => (v_move' (by conv => (lhs; whnf)))) rfl (by kernel_rfl) ?_
   refine fl_valg 15 rfl rfl rfl rfl (fun hg _ => (v_move' (by conv => (lhs; whnf)))) rfl (by kernel_rfl) ?_
   refine fl_valg 16 rfl rfl rfl rfl (fun hg _ => (v_eqlT rfl rfl rfl)) rfl (by kernel_rfl) ?_
   refine fl_val 17 rfl (fun _ => (v_pick rfl)) rfl (by kernel_rfl) ?_
   refine fl_val 18 rfl (fun _ => (v_move' (by conv => (lhs; whnf)))) rfl (by kernel_rfl) ?_
   refine fl_valg 19 rfl rfl rfl rfl (fun hg _ => (v_move' (by conv => (lhs; whnf)))) rfl (by kernel_rfl) ?_
   refine fl_valg 20 rfl rfl rfl rfl (fun hg _ => (v_eqlT rfl rfl rfl)) rfl (by kernel_rfl) ?_
   refine fl_val 21 rfl (fun _ => (v_pick rfl)) rfl (by kernel_rfl) ?_
   refine fl_val 22 rfl (fun _ => (v_move' (by conv => (lhs; whnf)))) rfl (by kernel_rfl) ?_
   refine fl_valg 23 rfl rfl rfl rfl (fun hg _ => (v_move' (by conv => (lhs; whnf)))) rfl (by kernel_rfl) ?_
   refine fl_valg 24 rfl rfl rfl rfl (fun hg _ => (v_len_s Try.underlying29 rfl)) rfl (by kernel_rfl) ?_
   refine fl_valg 25 rfl rfl rfl rfl (fun hg _ => (v_eqlT rfl rfl rfl)) rfl (by kernel_rfl) ?_
   refine fl_val 26 rfl (fun _ => (v_pick rfl)) rfl (by kernel_rfl) ?_
   refine fl_val 27 rfl (fun _ => (v_move' (by conv => (lhs; whnf)))) rfl (by kernel_rfl) ?_
   refine fl_valg 28 rfl rfl rfl rfl (fun hg _ => (v_move' (by conv => (lhs; whnf)))) rfl (by kernel_rfl) ?_
   refine fl_valg 29 rfl rfl rfl rfl (fun hg _ => (v_len_s Try.underlying29 rfl)) rfl (by kernel_rfl) ?_
   refine fl_valg 30 rfl rfl rfl rfl (fun hg _ => (v_eqlT rfl rfl rfl)) rfl (by kernel_rfl) ?_
   refine fl_val 31 rfl (fun _ => (v_pick rfl)) rfl (by kernel_rfl) ?_
   refine fl_eff1 32 [] [] (by kernel_rfl) ⟨obl_ldg (v' := undef) rfl rfl rfl rfl rfl rfl (fun _ => (v_load rfl (st.reads (v := arr D) 0 rfl TF.t28 (getV_all (by rw [List.size_toArray, length_bs, hD32]))))), obl_ldg (v' := undef) rfl rfl rfl rfl rfl rfl (fun _ => (v_load rfl (hov.rd (i := 0) rfl (by simp) rfl st.im))), trivial⟩ rfl ?_
   refine wl_val (v_assign' (by conv => (lhs; whnf))) rfl ?_
   refine wl_nil ⟨rfl, ?_⟩
   refine fl_nil (by kernel_rfl) trivial ?_
   refine then_go ?_
   refine wc_ret ?_
   exact ret1 rfl ⟨(st.keepOnly (l := []) (List.nil_sublist _)).touch, rfl⟩
end
end Go.Proofs.Ytonlmjpenonabaa

namespace Go.Proofs.Ytonlmjpenonabaa
open Go Go.RowKit K SH PT
theorem v_nesE {P : Program} {r : Fr} {w : World} {ty T U : TypeId} {x y : Operand} {a b : By} (hx : ev r x = .string (strB a)) (hy : ev r y = .string (strB b)) : Val P (.binOp .neq T x y U) ty r w (.bool (decide (¬ a = b))) w := by
 intro _ _ _ _
 simp only [execOp, eqGuard, hx, hy, binOp, Op.stringOp, strB_toList, Sem.run_bind, Sem.run_pure, Result.andThen_ok]
 by_cases h : a = b
 ·subst h; simp
 ·simp [h]
theorem nc_snoc {S : List By} {q : By} (h : NoClash S) (hq : ∀ p ∈ S, sum p = sum q → p = q) : NoClash (S ++ [q]) := by
 intro a ha b hb e
 rcases List.mem_append.1 ha with ha | ha
 ·rcases List.mem_append.1 hb with hb | hb
  ·exact h a ha b hb e
  ·rw [List.mem_singleton.1 hb] at e ⊢; exact hq a ha e
 ·rw [List.mem_singleton.1 ha] at e ⊢
  rcases List.mem_append.1 hb with hb | hb
  ·exact (hq b hb e.symm).symm
  ·exact (List.mem_singleton.1 hb).symm
section
variable {m : Mem} {wI : World}
theorem c_any17 {lv : Value} {N : List (By × Value)} (him : Im m wI) (hN : PcsM m lv N) (hNl : ∀ x ∈ N, x.1.length ≤ 1000000000) (hNn : N.length ≤ 1000000) :
  Ret Try.prog 19 #[lv] wI fun v w' => Tch wI w' [] [] ∧ ∃ c : Bool, v = .bool c ∧ (c = false → NoClash (N.map (·.1))) := by
 have st := St.start him
 obtain ⟨na, nc, hlv⟩ : ∃ a c, lv = .slice a N.length c := by obtain ⟨⟨_, a, c, h, _⟩, _⟩ := hN; exact ⟨a, c, h⟩
 subst hlv
 have hD32 : ∀ i, D32 ((N.take i).map fun x => sum x.1) := fun i x hx => by
  obtain ⟨y, _, rfl⟩ := List.mem_map.1 hx
  exact length_sum _
 refine ret_of Try.call19 Try.func19 rfl Try.ntmps19 Try.results19 rfl ?_
 refine wc_seq ?_
 refine wc_region ?_
 refine wl_val (v_assign' (by conv => (lhs; whnf))) rfl ?_
 refine wl_nil ?_
 refine then_go ?_
 refine wc_seq ?_
 refine wc_region ?_
 refine wl_val (v_assign' (by conv => (lhs; whnf))) rfl ?_
 refine wl_nil ?_
 refine then_go ?_
 refine wc_seq ?_
 refine wc_seq ?_
 refine wc_region ?_
 refine wl_val (v_assign' (by conv => (lhs; whnf))) rfl ?_
 refine wl_nil ?_
 refine then_go ?_
 refine wc_block ?_
 have st := st.nilDig
 refine wc_loop (S := Nat) (fun q r w' => ∃ (i : Nat) (v : Value), q + i = N.length ∧ r 0 = .slice na N.length nc ∧ r 3 = v ∧ r 4 = .int .i64 i ∧ NoClash ((N.take i).map (·.1)) ∧ St m m [] wI w' [digE v ((N.take i).map fun x => sum x.1)]) id N.length ⟨0, _, by omega, rfl, rfl, rfl, by intro a ha; simp at ha, st⟩ ?_
 clear st
 rintro q r w2 ⟨i, v, hqi, g0, g3, g4, hnc, st⟩
 refine wc_o 0 g0 (wc_o 3 g3 (wc_o 4 g4 ?_))
 refine wc_seq ?_
 refine wc_seq ?_
 refine wc_region ?_
 refine wl_val (v_move' (by conv => (lhs; whnf))) rfl ?_
 refine wl_val (v_move' (by conv => (lhs; whnf))) rfl ?_
 refine wl_val (v_len_s Try.underlying29 rfl) rfl ?_
 refine wl_val (v_lss rfl rfl) rfl ?_
 refine wl_nil ?_
 refine then_go ?_
 refine wc_if rfl (fun h9 => ?_) (fun h9 => ?_)
 ·refine wc_skip ?_
  refine then_go ?_
  refine wc_seq ?_
  refine wc_block ?_
  refine wc_seq ?_
  have hi : i < N.length := by omega
  obtain ⟨nb, no, _, hnv, hs0, hrp⟩ := hN.elem hi
  cases hnv
  have hsl := hNl _ (List.getElem_mem hi)
  refine wc_region ?_
  refine wl_val (v_move' (by conv => (lhs; whnf))) rfl ?_
  refine wl_val (v_move' (by conv => (lhs; whnf))) rfl ?_
  refine wl_val (v_move' (by conv => (lhs; whnf))) rfl ?_
  refine wl_val (v_ias i Try.underlying29 TF.t37 rfl rfl (by first | rfl | omega) (by first | omega | (dsimp only at *; omega))) rfl ?_
  refine wl_val (v_load rfl (hrp st.im)) rfl ?_
  refine wl_call rfl (c_ref3of st.im hs0 (by omega)) rfl ?_
  rintro v17 w ⟨t17, rfl⟩
  have st := st.pure t17
  refine wl_digOne _ (length_sum N[i].1) rfl st rfl ?_
  intro b18 w st
  refine wl_digApp 0 st rfl (length_sum N[i].1) rfl rfl (by simp; omega) rfl ?_
  intro v19 w st hv19
  have e1 : ((N.take i).map fun x => sum x.1) ++ [sum N[i].1] = (N.take (i + 1)).map fun x => sum x.1 := by rw [List.take_succ_eq_append_getElem hi, List.map_append]; rfl
  change St _ _ _ _ _ [digE v19 (((N.take i).map fun x => sum x.1) ++ [sum N[i].1])] at st
  rw [e1] at st
  obtain ⟨va, vc, hvv⟩ := row_sl (st.at (i := 0) rfl)
  subst hvv
  have hDl : ((N.take (i + 1)).map fun x => sum x.1).length = i + 1 := by simp; omega
  have hDM : ∀ {w' : World}, St m m [] wI w' [digE (.slice va ((N.take (i + 1)).map fun x => sum x.1).length vc) ((N.take (i + 1)).map fun x => sum x.1)] → DigM (heapM w') (.slice va ((N.take (i + 1)).map fun x => sum x.1).length vc) ((N.take (i + 1)).map fun x => sum x.1) := fun st => ⟨hD32 _, row_SlM (m := heapM _) (st.at (i := 0) rfl) (fun _ _ _ h => h)⟩
  obtain ⟨vb, vo, hva⟩ := (hDM st).ptr (by omega)
  subst hva
  obtain ⟨DL, hDL⟩ : ∃ DL, DL = (N.take (i + 1)).map fun x => sum x.1 := ⟨_, rfl⟩
  have hDk : ∀ k (hk : k < DL.length) (hkN : k < N.length), DL[k] = sum N[k].1 := fun k hk hkN => by subst hDL; simp
  rw [← hDL] at st hDM hDl ⊢
  refine wl_val (v_assign' (by conv => (lhs; whnf))) rfl ?_
  refine wl_nil ?_
  refine then_go ?_
  refine wc_seq ?_
  refine wc_region ?_
  refine wl_val (v_assign' (by conv => (lhs; whnf))) rfl ?_
  refine wl_nil ?_
  refine then_go ?_
  refine wc_block ?_
  refine wc_loop (S := Nat) (fun q r w' => ∃ (k : Nat), q + k = i ∧ r 0 = .slice (some ⟨nb, no, none⟩) N.length nc ∧ r 3 = .slice (some ⟨vb, vo, none⟩) DL.length vc ∧ r 4 = .int .i64 i ∧ r 5 = .int .i64 k ∧ (∀ p ∈ (N.take k).map (·.1), sum p = sum N[i].1 → p = N[i].1) ∧ St m m [] wI w' [digE (.slice (some ⟨vb, vo, none⟩) DL.length vc) DL]) id i ⟨0, by omega, rfl, rfl, rfl, rfl, by intro p hp; simp at hp, st⟩ ?_
  clear st
  rintro q2 r w3 ⟨k, hqk, g0, g3, g4, g5, hin, st⟩
  refine wc_o 0 g0 (wc_o 3 g3 (wc_o 4 g4 (wc_o 5 g5 ?_)))
  refine wc_seq ?_
  refine wc_seq ?_
  refine wc_region ?_
  refine wl_val (v_move' (by conv => (lhs; whnf))) rfl ?_
  refine wl_val (v_move' (by conv => (lhs; whnf))) rfl ?_
  refine wl_val (v_lss rfl rfl) rfl ?_
  refine wl_nil ?_
  refine then_go ?_
  refine wc_if rfl (fun h22 => ?_) (fun h22 => ?_)
  ·refine wc_skip ?_
   refine then_go ?_
   refine wc_seq ?_
   refine wc_block ?_
   refine wc_seq ?_
   by_cases hsum : sum N[k].1 = sum N[i].1
   ·have hk : k < i := by omega
    have hkN : k < N.length := by omega
    obtain ⟨_, _, _, hnv2, hs1, hrk⟩ := hN.elem hkN
    cases hnv2
    refine wc_draw TF.mixed ?_
    have st := st.pure (touch_drew _)
    refine fl_val 0 rfl (fun _ => (v_move' (by conv => (lhs; whnf)))) rfl (by kernel_rfl) ?_
    refine fl_val 1 rfl (fun _ => (v_move' (by conv => (lhs; whnf)))) rfl (by kernel_rfl) ?_
    refine fl_val 2 rfl (fun _ => (v_ias k Try.underlying22 TF.t28 rfl rfl (by first | rfl | omega) (by first | omega | (dsimp only at *; omega)))) rfl (by kernel_rfl) ?_
    refine fl_ld 3 rfl (v_load rfl ((hDM st).rd rfl (by omega) (hDk k (by omega) hkN) (im_heapM _))) (by kernel_rfl) ?_
    refine fl_val 4 rfl (fun _ => (v_move' (by conv => (lhs; whnf)))) rfl (by kernel_rfl) ?_
    refine fl_val 5 rfl (fun _ => (v_move' (by conv => (lhs; whnf)))) rfl (by kernel_rfl) ?_
    refine fl_val 6 rfl (fun _ => (v_ias i Try.underlying22 TF.t28 rfl rfl (by first | rfl | omega) (by first | omega | (dsimp only at *; omega)))) rfl (by kernel_rfl) ?_
    refine fl_ld 7 rfl (v_load rfl ((hDM st).rd rfl (by omega) (hDk i (by omega) hi) (im_heapM _))) (by kernel_rfl) ?_
    refine fl_val 8 rfl (fun _ => (wl_valD (v_eq_arr Try.underlying28 TF.t5 Try.underlying5 TF.e28 rfl rfl (length_sum _) (length_sum _)) (decide_eq_true hsum))) rfl (by kernel_rfl) ?_
    refine fl_val 9 rfl (fun _ => (v_move' (by conv => (lhs; whnf)))) rfl (by kernel_rfl) ?_
    refine fl_on 10 rfl rfl rfl rfl (fun _ => (v_move' (by conv => (lhs; whnf)))) rfl (by kernel_rfl) ?_
    refine fl_on 11 rfl rfl rfl rfl (fun _ => (v_move' (by conv => (lhs; whnf)))) rfl (by kernel_rfl) ?_
    refine fl_on 12 rfl rfl rfl rfl (fun _ => (v_ias k Try.underlying29 TF.t37 rfl rfl (by first | rfl | omega) (by first | omega | (dsimp only at *; omega)))) rfl (by kernel_rfl) ?_
    refine fl_ond 13 rfl rfl rfl rfl (v_load rfl (hrk st.im)) rfl (by kernel_rfl) ?_
    refine fl_ond 14 rfl rfl rfl rfl (v_b2s Try.underlying37 Try.underlying5 Try.underlying9 st.im hs1 rfl) rfl (by kernel_rfl) ?_
    refine fl_on 15 rfl rfl rfl rfl (fun _ => (v_move' (by conv => (lhs; whnf)))) rfl (by kernel_rfl) ?_
    refine fl_on 16 rfl rfl rfl rfl (fun _ => (v_move' (by conv => (lhs; whnf)))) rfl (by kernel_rfl) ?_
    refine fl_on 17 rfl rfl rfl rfl (fun _ => (v_ias i Try.underlying29 TF.t37 rfl rfl (by first | rfl | omega) (by first | omega | (dsimp only at *; omega)))) rfl (by kernel_rfl) ?_
    refine fl_ond 18 rfl rfl rfl rfl (v_load rfl (hrp st.im)) rfl (by kernel_rfl) ?_
    refine fl_ond 19 rfl rfl rfl rfl (v_b2s Try.underlying37 Try.underlying5 Try.underlying9 st.im hs0 rfl) rfl (by kernel_rfl) ?_
    refine fl_on 20 rfl rfl rfl rfl (fun _ => (v_nesE rfl rfl)) rfl (by kernel_rfl) ?_
    refine fl_val 21 rfl (fun _ => (v_pick rfl)) rfl (by kernel_rfl) ?_
    refine fl_nil (by kernel_rfl) ⟨obl_on rfl rfl rfl rfl rfl (v_b2s Try.underlying37 Try.underlying5 Try.underlying9 st.im hs0 rfl), obl_on rfl rfl rfl rfl rfl (v_load rfl (hrp st.im)), obl_on rfl rfl rfl rfl rfl (v_b2s Try.underlying37 Try.underlying5 Try.underlying9 st.im hs1 rfl), obl_on rfl rfl rfl rfl rfl (v_load rfl (hrk st.im)), obl_ld rfl rfl rfl (v_load rfl ((hDM st).rd rfl (by omega) (hDk i (by omega) hi) (im_heapM _))), obl_ld rfl rfl rfl (v_load rfl ((hDM st).rd rfl (by omega) (hDk k (by omega) hkN) (im_heapM _))), trivial⟩ ?_
    refine then_go ?_
    refine wc_cond rfl (fun h46 => ?_) (fun h46 => ?_)
    ·refine wc_seq ?_
     refine wc_region ?_
     refine wl_val (v_assign' (by conv => (lhs; whnf))) rfl ?_
     refine wl_nil ?_
     refine then_go ?_
     refine wc_ret (block_ret (then_ret (then_ret (block_ret (block_ret (then_ret (then_ret (block_ret (then_ret ?_)))))))))
     exact ret1 rfl ⟨(st.keepOnly (l := []) (List.nil_sublist _)).touch, true, rfl, fun h => by cases h⟩
    ·refine wc_skip ?_
     refine block_go (then_go ?_)
     refine wc_region ?_
     refine wl_val (v_move' (by conv => (lhs; whnf))) rfl ?_
     refine wl_val (v_add' (c := ((k + 1 : Nat) : Int)) rfl rfl (by omega) (by omega) (by omega)) rfl ?_
     refine wl_val (v_assign' (by conv => (lhs; whnf))) rfl ?_
     refine wl_nil ?_
     refine then_go ?_
     refine ⟨q2 - 1, by simp; omega, k + 1, by omega, rfl, rfl, rfl, rfl, ?_, st⟩
     intro p hp hps
     rw [List.take_succ_eq_append_getElem hkN, List.map_append] at hp
     rcases List.mem_append.1 hp with hp | hp
     ·exact hin p hp hps
     ·rw [List.map_singleton, List.mem_singleton] at hp
      subst hp
      first
      | (exact (hsum hps).elim)
      | (simpa using h46)
   ·have hk : k < i := by omega
    have hkN : k < N.length := by omega
    obtain ⟨_, _, _, hnv2, hs1, hrk⟩ := hN.elem hkN
    cases hnv2
    refine wc_draw TF.mixed ?_
    have st := st.pure (touch_drew _)
    refine fl_val 0 rfl (fun _ => (v_move' (by conv => (lhs; whnf)))) rfl (by kernel_rfl) ?_
    refine fl_val 1 rfl (fun _ => (v_move' (by conv => (lhs; whnf)))) rfl (by kernel_rfl) ?_
    refine fl_val 2 rfl (fun _ => (v_ias k Try.underlying22 TF.t28 rfl rfl (by first | rfl | omega) (by first | omega | (dsimp only at *; omega)))) rfl (by kernel_rfl) ?_
    refine fl_ld 3 rfl (v_load rfl ((hDM st).rd rfl (by omega) (hDk k (by omega) hkN) (im_heapM _))) (by kernel_rfl) ?_
    refine fl_val 4 rfl (fun _ => (v_move' (by conv => (lhs; whnf)))) rfl (by kernel_rfl) ?_
    refine fl_val 5 rfl (fun _ => (v_move' (by conv => (lhs; whnf)))) rfl (by kernel_rfl) ?_
    refine fl_val 6 rfl (fun _ => (v_ias i Try.underlying22 TF.t28 rfl rfl (by first | rfl | omega) (by first | omega | (dsimp only at *; omega)))) rfl (by kernel_rfl) ?_
    refine fl_ld 7 rfl (v_load rfl ((hDM st).rd rfl (by omega) (hDk i (by omega) hi) (im_heapM _))) (by kernel_rfl) ?_
    refine fl_val 8 rfl (fun _ => (wl_valD (v_eq_arr Try.underlying28 TF.t5 Try.underlying5 TF.e28 rfl rfl (length_sum _) (length_sum _)) (decide_eq_false hsum))) rfl (by kernel_rfl) ?_
    refine fl_val 9 rfl (fun _ => (v_move' (by conv => (lhs; whnf)))) rfl (by kernel_rfl) ?_
    refine fl_off 10 rfl rfl rfl rfl rfl rfl (by kernel_rfl) ?_
    refine fl_off 11 rfl rfl rfl rfl rfl rfl (by kernel_rfl) ?_
    refine fl_off 12 rfl rfl rfl rfl rfl rfl (by kernel_rfl) ?_
    refine fl_offd 13 rfl rfl rfl rfl rfl rfl (by kernel_rfl) ?_
    refine fl_offd 14 rfl rfl rfl rfl rfl rfl (by kernel_rfl) ?_
    refine fl_off 15 rfl rfl rfl rfl rfl rfl (by kernel_rfl) ?_
    refine fl_off 16 rfl rfl rfl rfl rfl rfl (by kernel_rfl) ?_
    refine fl_off 17 rfl rfl rfl rfl rfl rfl (by kernel_rfl) ?_
    refine fl_offd 18 rfl rfl rfl rfl rfl rfl (by kernel_rfl) ?_
    refine fl_offd 19 rfl rfl rfl rfl rfl rfl (by kernel_rfl) ?_
    refine fl_off 20 rfl rfl rfl rfl rfl rfl (by kernel_rfl) ?_
    refine fl_val 21 rfl (fun _ => (v_pick rfl)) rfl (by kernel_rfl) ?_
    refine fl_nil (by kernel_rfl) ⟨obl_off rfl rfl rfl rfl rfl rfl, obl_off rfl rfl rfl rfl rfl rfl, obl_off rfl rfl rfl rfl rfl rfl, obl_off rfl rfl rfl rfl rfl rfl, obl_ld rfl rfl rfl (v_load rfl ((hDM st).rd rfl (by omega) (hDk i (by omega) hi) (im_heapM _))), obl_ld rfl rfl rfl (v_load rfl ((hDM st).rd rfl (by omega) (hDk k (by omega) hkN) (im_heapM _))), trivial⟩ ?_
    refine then_go ?_
    refine wc_false rfl ?_
    refine wc_skip ?_
    refine block_go (then_go ?_)
    refine wc_region ?_
    refine wl_val (v_move' (by conv => (lhs; whnf))) rfl ?_
    refine wl_val (v_add' (c := ((k + 1 : Nat) : Int)) rfl rfl (by omega) (by omega) (by omega)) rfl ?_
    refine wl_val (v_assign' (by conv => (lhs; whnf))) rfl ?_
    refine wl_nil ?_
    refine then_go ?_
    refine ⟨q2 - 1, by simp; omega, k + 1, by omega, rfl, rfl, rfl, rfl, ?_, st⟩
    intro p hp hps
    rw [List.take_succ_eq_append_getElem hkN, List.map_append] at hp
    rcases List.mem_append.1 hp with hp | hp
    ·exact hin p hp hps
    ·rw [List.map_singleton, List.mem_singleton] at hp
     subst hp
     first
     | (exact (hsum hps).elim)
     | (simpa using h46)
  ·refine wc_exit (then_exit (then_exit (block_hit ?_)))
   refine block_go (then_go ?_)
   refine wc_region ?_
   refine wl_val (v_move' (by conv => (lhs; whnf))) rfl ?_
   refine wl_val (v_add' (c := ((i + 1 : Nat) : Int)) rfl rfl (by omega) (by omega) (by omega)) rfl ?_
   refine wl_val (v_assign' (by conv => (lhs; whnf))) rfl ?_
   refine wl_nil ?_
   refine then_go ?_
   have hki : k = i := by omega
   rw [hki] at hin
   refine ⟨q - 1, by simp; omega, i + 1, _, by omega, rfl, rfl, rfl, ?_, by rw [← hDL]; exact st⟩
   rw [List.take_succ_eq_append_getElem hi, List.map_append]
   exact nc_snoc hnc hin
 ·refine wc_exit (then_exit (then_exit (block_hit ?_)))
  refine then_go ?_
  refine wc_seq ?_
  refine wc_region ?_
  refine wl_val (v_assign' (by conv => (lhs; whnf))) rfl ?_
  refine wl_nil ?_
  refine then_go ?_
  refine wc_ret ?_
  have hiN : i = N.length := by omega
  subst hiN
  rw [List.take_length] at hnc
  exact ret1 rfl ⟨(st.keepOnly (l := []) (List.nil_sublist _)).touch, false, rfl, fun _ => hnc⟩
end
end Go.Proofs.Ytonlmjpenonabaa

namespace Go.Proofs.Ytonlmjpenonabaa
open Go Go.RowKit K SH PT
theorem keptF_mem {Z : List (By × By)} {Kp : List Bool} {L : List (By × By)} : ∀ {i : Nat}, L ∈ keptF Z Kp i → ∃ j, j + 1 ≤ i ∧ L = trF Z (j + 1)
 | 0, h => by cases h
 | i + 1, h => by
  rw [keptF] at h
  split at h
  ·rcases List.mem_append.1 h with h | h
   ·obtain ⟨j, h1, h2⟩ := keptF_mem h
    exact ⟨j, by omega, h2⟩
   ·exact ⟨i, Nat.le_refl _, List.mem_singleton.1 h⟩
  ·obtain ⟨j, h1, h2⟩ := keptF_mem h
   exact ⟨j, by omega, h2⟩
theorem allP_mem {Z : List (By × By)} {p : By} : ∀ {i : Nat}, p ∈ allP Z i ↔ ∃ j, j + 1 ≤ i ∧ p ∈ sv 256 0 (trF Z (j + 1))
 | 0 => by simp [allP]
 | i + 1 => by
  rw [allP, addP_mem, allP_mem]
  constructor
  ·rintro (⟨j, h1, h2⟩ | h)
   ·exact ⟨j, by omega, h2⟩
   ·exact ⟨i, Nat.le_refl _, h⟩
  ·rintro ⟨j, h1, h2⟩
   by_cases hj : j = i
   ·subst hj; exact .inr h2
   ·exact .inl ⟨j, by omega, h2⟩
theorem trF_fine {Z : List (By × By)} (h : D32p Z) {i : Nat} : Fine (trF Z i) := Fine.of fun x hx => h x (List.mem_of_mem_take hx)
theorem allP_short {Z : List (By × By)} (h : D32p Z) {i : Nat} : ∀ p ∈ allP Z i, p.length ≤ 1000000000 := fun p hp => by
 obtain ⟨j, _, hj⟩ := allP_mem.1 hp
 have hf := trF_fine h (i := j + 1)
 have := (sv_ok hf.d hf.D (g := 256) rfl p hj).2
 omega
theorem kept_fine {Z : List (By × By)} {Kp : List Bool} (h : D32p Z) {i : Nat} {L : List (By × By)} (hL : L ∈ keptF Z Kp i) : Fine L ∧ L.length ≤ i ∧ ∀ p ∈ sv 256 0 L, p ∈ allP Z i := by
 obtain ⟨j, h1, rfl⟩ := keptF_mem hL
 exact ⟨trF_fine h, Nat.le_trans trF_len h1, fun p hp => allP_mem.2 ⟨j, h1, hp⟩⟩
theorem kept_mark {Z : List (By × By)} {Kp : List Bool} {n : Nat} {N : List (By × Value)} (h : D32p Z) (hN : N.map (·.1) = allP Z n) (hc : NoClash (N.map (·.1))) :
  errF (pgM (mapOf N)) (linkF (keptF Z Kp n)) = 0 ∧ markF (pgM (mapOf N)) (linkF (keptF Z Kp n)) = (keptF Z Kp n).flatMap (sv 256 0) ∧ ∀ d ∈ linkF (keptF Z Kp n), (ldF (pgM (mapOf N)) d).1.length ≤ n := by
 have hfull : ∀ L ∈ keptF Z Kp n, FullL (pgM (mapOf N)) (sv 256 0 L) := fun L hL => full_map hc fun p hp => by rw [hN]; exact (kept_fine h hL).2.2 p hp
 have h1 := trees_mark (M := pgM (mapOf N)) (Ts := keptF Z Kp n) (fun L hL => (kept_fine h hL).1) hfull
 refine ⟨h1.1, h1.2, fun d hd => ?_⟩
 obtain ⟨L, hL, rfl⟩ := List.mem_map.1 hd
 rw [(tree_ld (kept_fine h hL).1 (hfull L hL)).1]
 exact (kept_fine h hL).2.1
end Go.Proofs.Ytonlmjpenonabaa

namespace Go.Proofs.Ytonlmjpenonabaa
open Go Go.RowKit K SH PT
theorem PcsM.sub {m : Mem} {a : Option Addr} {cap : Nat} {N : List (By × Value)} (h : PcsM m (.slice a N.length cap) N) (i j : Nat) (hij : i ≤ j) (hj : j ≤ N.length) : PcsM m (.slice (sliceOff a cap i 1) (j - i) (cap - i)) ((N.drop i).take (j - i)) := by
 have h1 := h.1.sub rfl hij hj (by decide)
 refine ⟨?_, fun x hx => h.2 x (List.mem_of_mem_drop (List.mem_of_mem_take hx))⟩
 have e : ((N.drop i).take (j - i)).length = j - i := by rw [List.length_take, List.length_drop]; omega
 rw [e, List.map_take, List.map_drop]
 simpa using h1
theorem PcsM.src {P : Program} {m : Mem} {w : World} {v : Value} {N : List (By × Value)} (h : PcsM m v N) (him : Im m w) : Src P w v 1 N.length (N.map (·.2)) :=
 h.1.src him fun u hu => by obtain ⟨y, hy, rfl⟩ := List.mem_map.1 hu; exact SlM.one1 (h.2 y hy)
end Go.Proofs.Ytonlmjpenonabaa

namespace Go.Proofs.Ytonlmjpenonabaa
open Go Go.RowKit K SH PT
end Go.Proofs.Ytonlmjpenonabaa

namespace Go.Proofs.Ytonlmjpenonabaa
open Go Go.RowKit K SH PT
theorem rise_lt {L : List By} (h : Rise L) (hn : L.Nodup) : L.Pairwise (· < ·) := by
 refine (List.pairwise_and_iff.2 ⟨h, hn⟩).imp fun {x y} h => ?_
 have h1 : ¬ y < x := fun q => h.1 (cmpB_lt.2 q)
 rcases List.le_iff_lt_or_eq.1 (List.not_lt.1 h1) with h2 | h2
 ·exact h2
 ·exact (h.2 h2).elim
def Seen (a b : List By) (i n : Nat) : Prop := n ≤ b.length ∧ ∀ j (h : j < b.length), n ≤ j → b[j] ∉ a.take i
theorem seen_zero {a b : List By} : Seen a b 0 0 := ⟨Nat.zero_le _, fun _ _ _ => by simp⟩
theorem seen_hit {a b : List By} {i n : Nat} (hb : b.Nodup) (h : Seen a b i n) (hi : i < a.length) (hn : n < b.length) (he : a[i] = b[n]) : Seen a b (i + 1) (n + 1) := by
 refine ⟨hn, fun j hj hnj => ?_⟩
 rw [List.take_succ_eq_append_getElem hi, List.mem_append, List.mem_singleton, he]
 rintro (h1 | h1)
 ·exact h.2 j hj (by omega) h1
 ·exact (List.pairwise_iff_getElem.1 hb) n j hn hj (by omega) h1.symm
theorem seen_miss {a b : List By} {i n : Nat} (ha : a.Pairwise (· < ·)) (hb : b.Pairwise (· < ·)) (hs : ∀ x ∈ b, x ∈ a) (h : Seen a b i n) (hi : i < a.length) (he : ∀ (hn : n < b.length), a[i] ≠ b[n]) : Seen a b (i + 1) n := by
 refine ⟨h.1, fun j hj hnj => ?_⟩
 rw [List.take_succ_eq_append_getElem hi, List.mem_append, List.mem_singleton]
 rintro (h1 | h1)
 ·exact h.2 j hj hnj h1
 ·have hn : n < b.length := by omega
  have hne := he hn
  have hnj' : n < j := by
   rcases Nat.lt_or_ge n j with q | q
   ·exact q
   ·have : n = j := by omega
    subst this
    exact (hne h1.symm).elim
  have hlt := (List.pairwise_iff_getElem.1 hb) n j hn hj hnj'
  obtain ⟨k, hk, hkb⟩ := List.getElem_of_mem (hs _ (List.getElem_mem hn))
  have hik : ¬ k < i := fun q => h.2 n hn (Nat.le_refl _) (by rw [← hkb]; exact List.mem_take_iff_getElem.2 ⟨k, by omega, rfl⟩)
  have hik2 : k ≠ i := by rintro rfl; exact hne hkb
  have h2 := (List.pairwise_iff_getElem.1 ha) i k hi hk (by omega)
  rw [hkb, ← h1] at h2
  exact List.lt_irrefl _ (List.lt_trans hlt h2)
theorem seen_all {a b : List By} {n : Nat} (hs : ∀ x ∈ b, x ∈ a) (h : Seen a b a.length n) : n = b.length := by
 rcases Nat.lt_or_ge n b.length with q | q
 ·have := h.2 n q (Nat.le_refl _)
  rw [List.take_length] at this
  exact (this (hs _ (List.getElem_mem q))).elim
 ·have := h.1; omega
theorem sub_len {a b : List By} (hb : b.Nodup) (ha : a.Nodup) (hs : ∀ x ∈ b, x ∈ a) : b.length ≤ a.length := by
 have hp : b.Perm (a.filter (· ∈ b)) := (List.perm_ext_iff_of_nodup hb (ha.sublist List.filter_sublist)).2 fun x => by
  rw [List.mem_filter, decide_eq_true_eq]
  exact ⟨fun h => ⟨hs x h, h⟩, fun h => h.2⟩
 rw [hp.length_eq]
 exact List.length_filter_le _ _
theorem digs_drop : ∀ {L : List By} {i : Nat}, D32 L → (digs L).drop (i * 32) = digs (L.drop i)
 | L, 0, _ => by simp
 | [], i + 1, _ => by simp [digs]
 | x :: L, i + 1, h => by
  have hx : (bs x).length = 32 := by rw [length_bs]; exact h x (List.mem_cons_self ..)
  have e : digs (x :: L) = bs x ++ digs L := rfl
  rw [e, List.drop_succ_cons, show (i + 1) * 32 = (bs x).length + i * 32 by omega, List.drop_append, List.drop_eq_nil_of_le (by omega), List.nil_append, Nat.add_sub_cancel_left, digs_drop fun y hy => h y (List.mem_cons_of_mem _ hy)]
theorem DigM.tail {m : Mem} {a : Option Addr} {cap : Nat} {L : List By} (i : Nat) (h : DigM m (.slice a L.length cap) L) (hi : i ≤ L.length) : DigM m (.slice (sliceOff a cap i 32) (L.length - i) (cap - i)) (L.drop i) := by
 have h1 := h.2.sub rfl (l := i) hi (Nat.le_refl _) (by decide)
 have hd : D32 (L.drop i) := fun x hx => h.1 x (List.mem_of_mem_drop hx)
 have hl : (digs (L.drop i)).length = (L.length - i) * 32 := by rw [length_digs hd, List.length_drop]
 refine ⟨hd, ?_⟩
 rw [digs_drop h.1, List.take_of_length_le (by rw [hl]; exact Nat.le_refl _)] at h1
 rw [List.length_drop]
 exact h1
theorem sv_total {Ts : List (List (By × By))} : (∀ L ∈ Ts, L.length ≤ 20) → (Ts.flatMap (sv 256 0)).length ≤ Ts.length * 6000 := by
 induction Ts with
 | nil => intro _; exact Nat.zero_le _
 | cons L Ts ih =>
  intro h
  have h1 := ih fun x hx => h x (List.mem_cons_of_mem _ hx)
  have h2 := h L (List.mem_cons_self ..)
  have h3 := sv_len (g := 256) (d := 0) (L := L)
  rw [List.flatMap_cons, List.length_append, List.length_cons, Nat.add_mul]
  omega
section
variable {m : Mem} {wI : World}
theorem c_reapAgain {av vv kv : Value} {A V : List By} {Kp : List Bool} (him : Im m wI) (hA : DigM m av A) (hV : DigM m vv V) (hK : LsM m kv bC 1 Kp) :
    Ret Try.prog 9 #[.agg #[av, vv, kv]] wI fun v w' => Tch wI w' [] [] ∧ v = .bool true := by
  have st := St.start him
  refine ret_of Try.call9 Try.func9 rfl Try.ntmps9 Try.results9 rfl ?_
  refine wc_seq ?_
  refine wc_region ?_
  refine wl_box (v := .agg #[av, vv, kv]) rfl st rfl ?_
  intro b1 w st
  refine wl_val (v_assign' (by conv => (lhs; whnf))) rfl ?_
  refine wl_nil ?_
  refine then_go ?_
  refine wc_seq ?_
  refine wc_region ?_
  refine wl_val (v_load rfl (st.reads (v := .agg #[av, vv, kv]) 0 rfl TF.t53 (getV_all rfl))) rfl ?_
  refine wl_call rfl (c_all18 st.im hA hV hK) rfl ?_
  rintro v20 w ⟨t20, m1, hg1, hi1, lv, pv, tv, N, Ks, n, hn, rfl, hlk, hN, hls, hKs, hNe, hKe⟩
  have st := (st.grown hg1 t20 hi1).keepOnly (l := []) (List.nil_sublist _)
  obtain ⟨Z, hZ⟩ : ∃ Z, Z = A.zip V := ⟨_, rfl⟩
  have hZ32 : D32p Z := by rw [hZ]; exact d32_zip hA.1 hV.1
  rw [← hZ] at hlk hNe hKe
  have hn20 : n ≤ 20 := by omega
  have hNn : N.length ≤ 120000 := by
    have h1 := congrArg List.length hNe
    rw [List.length_map] at h1
    have := allP_len (Z := Z) hn20
    omega
  have hNl : ∀ x ∈ N, x.1.length ≤ 1000000000 := fun x hx => allP_short hZ32 x.1 (by rw [← hNe]; exact List.mem_map.2 ⟨x, hx, rfl⟩)
  obtain ⟨Ts, hTs⟩ : ∃ Ts, Ts = keptF Z Kp n := ⟨_, rfl⟩
  have hTl : Ts.length ≤ n := by rw [hTs]; exact keptF_len
  have hkf : ∀ L ∈ Ts, Fine L ∧ L.length ≤ n ∧ ∀ p ∈ sv 256 0 L, p ∈ allP Z n := fun L hL => kept_fine hZ32 (hTs ▸ hL)
  have hkm : NoClash (N.map (·.1)) → _ := fun hc => kept_mark (Kp := Kp) hZ32 hNe hc
  rw [← hTs] at hlk hKe hkm
  obtain ⟨la, lc, rfl⟩ := hlk.sl
  obtain ⟨pa, pc, hpv⟩ : ∃ a c, pv = .slice a N.length c := by obtain ⟨⟨_, a, c, h, _⟩, _⟩ := hN; exact ⟨a, c, h⟩
  subst hpv
  obtain ⟨ta, tc, rfl⟩ := hls.sl
  rw [List.length_map] at hlk ⊢
  refine wl_val (v_move' (by conv => (lhs; whnf))) rfl ?_
  refine wl_val (v_extract rfl rfl) rfl ?_
  refine wl_val (v_extract rfl rfl) rfl ?_
  refine wl_val (v_extract rfl rfl) rfl ?_
  refine wl_val (v_assign' (by conv => (lhs; whnf))) rfl ?_
  refine wl_val (v_assign' (by conv => (lhs; whnf))) rfl ?_
  refine wl_val (v_assign' (by conv => (lhs; whnf))) rfl ?_
  refine wl_nil ?_
  refine then_go ?_
  refine wc_seq ?_
  refine wc_seq ?_
  refine wc_region ?_
  refine wl_val (v_move' (by conv => (lhs; whnf))) rfl ?_
  refine wl_call rfl (c_any17 st.im hN hNl (by omega)) rfl ?_
  rintro v25 w ⟨t25, c, rfl, hany⟩
  have st := st.pure t25
  refine wl_nil ?_
  refine then_go ?_
  refine wc_cond rfl (fun h25 => ?_) (fun h25 => ?_)
  · refine wc_seq ?_
    refine wc_region ?_
    refine wl_call rfl (c_works18 st.im) rfl ?_
    rintro v26 w ⟨t26, rfl⟩
    have st := st.pure t26
    refine wl_val (v_assign' (by conv => (lhs; whnf))) rfl ?_
    refine wl_nil ?_
    refine then_go ?_
    refine wc_ret (then_ret ?_)
    exact ret1 rfl ⟨st.touch, rfl⟩
  · refine wc_skip ?_
    refine then_go ?_
    refine wc_seq ?_
    refine wc_region ?_
    refine wl_val (v_move' (by conv => (lhs; whnf))) rfl ?_
    refine wl_val (v_move' (by conv => (lhs; whnf))) rfl ?_
    have hnc := hany h25
    obtain ⟨k1, k2, k3⟩ := hkm hnc
    refine wl_call rfl (c_split st.im hlk hN hNl (by omega) (by rw [List.length_map]; omega) (fun d hd => Nat.le_trans (k3 d hd) (by omega))) rfl ?_
    rintro v30 w ⟨t30, m2, hg2, hi2, hv30⟩
    have st := st.grown hg2 t30 hi2
    unfold SplitOut at hv30
    rw [k1, if_neg (by simp), k2] at hv30
    obtain ⟨nv, iv, NA, NB, rfl, hNA, hNB, hAe, hBe⟩ := hv30
    obtain ⟨xa, xc, hnv⟩ : ∃ a c, nv = .slice a NA.length c := by obtain ⟨⟨_, a, c, h, _⟩, _⟩ := hNA; exact ⟨a, c, h⟩
    obtain ⟨ya, yc, hiv⟩ : ∃ a c, iv = .slice a NB.length c := by obtain ⟨⟨_, a, c, h, _⟩, _⟩ := hNB; exact ⟨a, c, h⟩
    subst hnv
    subst hiv
    have hlk := hlk.mono hg2.le
    have hls := hls.mono hg2.le
    have hKs : ∀ x ∈ Ks, LvM m2 (.agg #[x.2.1, x.2.2]) x.1 := fun x hx => (hKs x hx).mono hg2.le
    have hcA : NoClash (NA.map (·.1)) := fun p hp q hq h => hnc p (by rw [hAe] at hp; exact (List.mem_filter.1 hp).1) q (by rw [hAe] at hq; exact (List.mem_filter.1 hq).1) h
    have hAf : ∀ L ∈ Ts, FullL (pgM (mapOf NA)) (sv 256 0 L) := fun L hL => full_map hcA fun p hp => by
      rw [hAe, hNe]
      exact List.mem_filter.2 ⟨(hkf L hL).2.2 p hp, decide_eq_true (List.mem_map.2 ⟨p, List.mem_flatMap.2 ⟨L, hL, hp⟩, rfl⟩)⟩
    have hAl : ∀ x ∈ NA, x.1.length ≤ 1000000000 := fun x hx => by
      have : x.1 ∈ NA.map (·.1) := List.mem_map.2 ⟨x, hx, rfl⟩
      rw [hAe] at this
      obtain ⟨y, hy, hyx⟩ := List.mem_map.1 (List.mem_filter.1 this).1
      rw [← hyx]; exact hNl y hy
    refine wl_val (v_move' (by conv => (lhs; whnf))) rfl ?_
    refine wl_val (v_extract rfl rfl) rfl ?_
    refine wl_val (v_extract rfl rfl) rfl ?_
    refine wl_val (v_extract rfl rfl) rfl ?_
    refine wl_val (v_assign' (by conv => (lhs; whnf))) rfl ?_
    refine wl_val (v_assign' (by conv => (lhs; whnf))) rfl ?_
    refine wl_val (v_assign' (by conv => (lhs; whnf))) rfl ?_
    refine wl_nil ?_
    refine then_go ?_
    refine wc_seq ?_
    refine wc_region ?_
    refine wl_val (v_move' (by conv => (lhs; whnf))) rfl ?_
    refine wl_val (v_move' (by conv => (lhs; whnf))) rfl ?_
    have hNAn : NA.length ≤ 120000 := by
      have h1 := congrArg List.length hAe
      rw [List.length_map] at h1
      rw [h1]
      exact Nat.le_trans (List.length_filter_le _ _) (by rw [List.length_map]; exact hNn)
    obtain ⟨j1, j2⟩ := trees_mark (M := pgM (mapOf NA)) (Ts := Ts) (fun L hL => (hkf L hL).1) hAf
    refine wl_call rfl (c_split st.im hlk hNA hAl (by omega) (by rw [List.length_map]; omega) (fun d hd => by
      obtain ⟨L, hL, rfl⟩ := List.mem_map.1 hd
      rw [(tree_ld (hkf L hL).1 (hAf L hL)).1]
      have := (hkf L hL).2.1
      show L.length ≤ _
      omega)) rfl ?_
    rintro v37 w ⟨t37, m3, hg3, hi3, hv37⟩
    have st := st.grown hg3 t37 hi3
    unfold SplitOut at hv37
    rw [j1, if_neg (by simp), j2] at hv37
    obtain ⟨nv2, iv2, NC, ND, rfl, hNC, hND, hCe, hDe⟩ := hv37
    have hsame : (NA.map (·.1)) = NC.map (·.1) := by rw [hCe, hAe, List.filter_filter]; simp
    have hD0 : ND = [] := by
      have e : ND.map (·.1) = [] := by rw [hDe, hAe, List.filter_filter]; simp
      simpa using e
    subst hD0
    obtain ⟨za, zc, hiv2⟩ : ∃ a c, iv2 = .slice a 0 c := by obtain ⟨⟨_, a, c, h, _⟩, _⟩ := hND; exact ⟨a, c, h⟩
    subst hiv2
    have hNA := hNA.mono hg3.le
    have hN3 := (hN.mono hg2.le).mono hg3.le
    have hlk := hlk.mono hg3.le
    refine wl_val (v_move' (by conv => (lhs; whnf))) rfl ?_
    refine wl_val (v_extract rfl rfl) rfl ?_
    refine wl_val (v_extract rfl rfl) rfl ?_
    refine wl_val (v_extract rfl rfl) rfl ?_
    refine wl_val (v_assign' (by conv => (lhs; whnf))) rfl ?_
    refine wl_val (v_assign' (by conv => (lhs; whnf))) rfl ?_
    refine wl_val (v_assign' (by conv => (lhs; whnf))) rfl ?_
    refine wl_nil ?_
    refine then_go ?_
    refine wc_seq ?_
    refine wc_seq ?_
    refine wc_region ?_
    refine wl_val (v_move' (by conv => (lhs; whnf))) rfl ?_
    refine wl_val (wl_valD (v_neq rfl rfl) (q := false) rfl) rfl ?_
    refine wl_val (v_move' (by conv => (lhs; whnf))) rfl ?_
    refine wl_on rfl rfl ?_
    refine wl_val (v_move' (by conv => (lhs; whnf))) rfl ?_
    refine wl_on rfl rfl ?_
    refine wl_val (wl_valD (v_neq rfl rfl) (q := false) rfl) rfl ?_
    refine wl_val (v_pick rfl) rfl ?_
    refine wl_val (v_move' (by conv => (lhs; whnf))) rfl ?_
    refine wl_on rfl rfl ?_
    refine wl_val (v_move' (by conv => (lhs; whnf))) rfl ?_
    refine wl_on rfl rfl ?_
    refine wl_val (v_len_s Try.underlying29 rfl) rfl ?_
    refine wl_on rfl rfl ?_
    refine wl_val (wl_valD (v_neq rfl rfl) (q := false) rfl) rfl ?_
    refine wl_val (v_pick rfl) rfl ?_
    refine wl_val (v_move' (by conv => (lhs; whnf))) rfl ?_
    refine wl_on rfl rfl ?_
    refine wl_val (v_move' (by conv => (lhs; whnf))) rfl ?_
    refine wl_on rfl rfl ?_
    refine wl_val (v_move' (by conv => (lhs; whnf))) rfl ?_
    refine wl_on rfl rfl ?_
    refine wl_call rfl (c_sametexts st.im hNA hNC hsame (by omega)) rfl ?_
    rintro v55 w ⟨t55, rfl⟩
    have st := st.pure t55
    refine wl_on rfl rfl ?_
    refine wl_val (v_not rfl) rfl ?_
    refine wl_val (v_pick rfl) rfl ?_
    refine wl_nil ?_
    refine then_go ?_
    refine wc_false rfl ?_
    refine wc_skip ?_
    refine then_go ?_
    refine wc_seq ?_
    refine wc_seq ?_
    refine wc_region ?_
    refine wl_val (v_move' (by conv => (lhs; whnf))) rfl ?_
    refine wl_val (v_len_s Try.underlying22 rfl) rfl ?_
    refine wl_val (v_eql rfl rfl) rfl ?_
    refine wl_nil ?_
    refine then_go ?_
    refine wc_cond rfl (fun h60 => ?_) (fun h60 => ?_)
    · refine wc_seq ?_
      refine wc_region ?_
      refine wl_call rfl (c_works18 st.im) rfl ?_
      rintro v61 w ⟨t61, rfl⟩
      have st := st.pure t61
      refine wl_val (v_assign' (by conv => (lhs; whnf))) rfl ?_
      refine wl_nil ?_
      refine then_go ?_
      refine wc_ret (then_ret ?_)
      exact ret1 rfl ⟨st.touch, rfl⟩
    · refine wc_skip ?_
      refine then_go ?_
      refine wc_seq ?_
      refine wc_region ?_
      refine wl_val (v_move' (by conv => (lhs; whnf))) rfl ?_
      refine wl_val (v_move' (by conv => (lhs; whnf))) rfl ?_
      have hT1 : 1 ≤ Ts.length := by have : ¬ (Ts.length : Int) = 0 := by simpa using h60
                                     omega
      have hml := sv_total fun L hL => Nat.le_trans (hkf L hL).2.1 hn20
      have hmk := markL_len (S := Ts.flatMap (sv 256 0))
      refine wl_call rfl (c_live st.im hlk hN3 hNl (by omega) (by rw [List.length_map]; omega) (fun d hd => Nat.le_trans (k3 d hd) (by omega)) (fun _ => by rw [k2]; omega)) rfl ?_
      rintro v65 w ⟨t65, m4, hg4, hi4, hv65⟩
      have st := st.grown hg4 t65 hi4
      unfold LiveOut at hv65
      rw [k1, if_neg (by simp), k2] at hv65
      obtain ⟨ov, La, rfl, hov, hperm, hrise⟩ := hv65
      obtain ⟨oa, oc, rfl⟩ := hov.sl
      have hlk := hlk.mono hg4.le
      have hN4 := hN3.mono hg4.le
      have hlc : Ts.length ≤ lc := by obtain ⟨_, _, _, _, he, hk, _⟩ := hlk; simp only [Value.slice.injEq] at he; rw [List.length_map] at hk; omega
      refine wl_val (v_move' (by conv => (lhs; whnf))) rfl ?_
      refine wl_val (v_extract rfl rfl) rfl ?_
      refine wl_val (v_extract rfl rfl) rfl ?_
      refine wl_val (v_assign' (by conv => (lhs; whnf))) rfl ?_
      refine wl_val (v_assign' (by conv => (lhs; whnf))) rfl ?_
      refine wl_nil ?_
      refine then_go ?_
      refine wc_seq ?_
      refine wc_region ?_
      refine wl_val (v_move' (by conv => (lhs; whnf))) rfl ?_
      refine wl_val (v_sls 1 Ts.length Try.underlying22 TF.t28 rfl ⟨_, _, rfl, rfl⟩ rfl hT1 hlc) rfl ?_
      refine wl_val (v_move' (by conv => (lhs; whnf))) rfl ?_
      obtain ⟨T2, hT2⟩ : ∃ T2, T2 = Ts.drop 1 := ⟨_, rfl⟩
      have hT2l : T2.length = Ts.length - 1 := by rw [hT2, List.length_drop]
      have hlk2 : DigM m4 (.slice (sliceOff la lc 1 32) (Ts.length - 1) (lc - 1)) (linkF T2) := by
        have h := DigM.tail (a := la) (cap := lc) (L := linkF Ts) 1 (by rw [List.length_map]; exact hlk) (by rw [List.length_map]; exact hT1)
        rw [List.length_map, ← List.map_drop] at h
        rw [hT2]
        exact h
      have hsub2 : ∀ L ∈ T2, L ∈ Ts := fun L hL => by rw [hT2] at hL; exact List.mem_of_mem_drop hL
      have hfullT : ∀ L ∈ T2, FullL (pgM (mapOf N)) (sv 256 0 L) := fun L hL => full_map hnc fun p hp => by rw [hNe]; exact (hkf L (hsub2 L hL)).2.2 p hp
      obtain ⟨y1, y2⟩ := trees_mark (M := pgM (mapOf N)) (Ts := T2) (fun L hL => (hkf L (hsub2 L hL)).1) hfullT
      have hml2 := sv_total (Ts := T2) fun L hL => Nat.le_trans (hkf L (hsub2 L hL)).2.1 hn20
      have hmk2 := markL_len (S := T2.flatMap (sv 256 0))
      refine wl_call rfl (c_live st.im hlk2 hN4 hNl (by omega) (by rw [List.length_map]; omega) (fun d hd => by
        obtain ⟨L, hL, rfl⟩ := List.mem_map.1 hd
        exact Nat.le_trans (k3 _ (List.mem_map.2 ⟨L, hsub2 L hL, rfl⟩)) (by omega)) (fun _ => by rw [y2]; omega)) rfl ?_
      rintro v72 w ⟨t72, m5, hg5, hi5, hv72⟩
      have st := st.grown hg5 t72 hi5
      unfold LiveOut at hv72
      rw [y1, if_neg (by simp), y2] at hv72
      obtain ⟨ov2, Lb, rfl, hov2, hperm2, hrise2⟩ := hv72
      obtain ⟨pa2, pc2, rfl⟩ := hov2.sl
      have hov := hov.mono hg5.le
      have ha1 := rise_lt hrise (hperm.symm.nodup markL_nodup)
      have hb0 : Lb.Nodup := hperm2.symm.nodup markL_nodup
      have hb1 := rise_lt hrise2 hb0
      have hsub : ∀ x ∈ Lb, x ∈ La := fun x hx => by
        have h1 := markL_mem.1 (hperm2.mem_iff.1 hx)
        obtain ⟨p, hp, hpx⟩ := List.mem_map.1 h1
        obtain ⟨L, hL, hpL⟩ := List.mem_flatMap.1 hp
        exact hperm.mem_iff.2 (markL_mem.2 (List.mem_map.2 ⟨p, List.mem_flatMap.2 ⟨L, hsub2 L hL, hpL⟩, hpx⟩))
      have hLal : La.length ≤ 200000 := by rw [hperm.length_eq, List.length_map]; omega
      have hlen := sub_len hb0 (hperm.symm.nodup markL_nodup) hsub
      clear hlk2
      refine wl_val (v_move' (by conv => (lhs; whnf))) rfl ?_
      refine wl_val (v_extract rfl rfl) rfl ?_
      refine wl_val (v_extract rfl rfl) rfl ?_
      refine wl_val (v_assign' (by conv => (lhs; whnf))) rfl ?_
      refine wl_val (v_assign' (by conv => (lhs; whnf))) rfl ?_
      refine wl_nil ?_
      refine then_go ?_
      refine wc_seq ?_
      refine wc_seq ?_
      refine wc_region ?_
      refine wl_val (v_move' (by conv => (lhs; whnf))) rfl ?_
      refine wl_val (wl_valD (v_neq rfl rfl) (q := false) rfl) rfl ?_
      refine wl_val (v_move' (by conv => (lhs; whnf))) rfl ?_
      refine wl_on rfl rfl ?_
      refine wl_val (v_move' (by conv => (lhs; whnf))) rfl ?_
      refine wl_on rfl rfl ?_
      refine wl_val (wl_valD (v_neq rfl rfl) (q := false) rfl) rfl ?_
      refine wl_val (v_pick rfl) rfl ?_
      refine wl_val (v_move' (by conv => (lhs; whnf))) rfl ?_
      refine wl_on rfl rfl ?_
      refine wl_val (v_move' (by conv => (lhs; whnf))) rfl ?_
      refine wl_on rfl rfl ?_
      refine wl_val (v_len_s Try.underlying22 rfl) rfl ?_
      refine wl_on rfl rfl ?_
      refine wl_val (v_move' (by conv => (lhs; whnf))) rfl ?_
      refine wl_on rfl rfl ?_
      refine wl_val (v_len_s Try.underlying22 rfl) rfl ?_
      refine wl_on rfl rfl ?_
      refine wl_val (wl_valD (v_gtr rfl rfl) (q := false) (decide_eq_false (by omega))) rfl ?_
      refine wl_val (v_pick rfl) rfl ?_
      refine wl_nil ?_
      refine then_go ?_
      refine wc_false rfl ?_
      refine wc_skip ?_
      refine then_go ?_
      refine wc_seq ?_
      refine wc_region ?_
      refine wl_val (v_assign' (by conv => (lhs; whnf))) rfl ?_
      refine wl_nil ?_
      refine then_go ?_
      refine wc_seq ?_
      refine wc_seq ?_
      refine wc_region ?_
      refine wl_val (v_assign' (by conv => (lhs; whnf))) rfl ?_
      refine wl_nil ?_
      refine then_go ?_
      refine wc_block ?_
      refine wc_loop (S := Nat) (fun q r w' => ∃ (i n : Nat), q + i = La.length ∧ r 12 = .slice oa La.length oc ∧ r 14 = .slice pa2 Lb.length pc2 ∧ r 16 = .int .i64 n ∧ r 17 = .int .i64 i ∧ Seen La Lb i n ∧ St m m5 [] wI w' []) id La.length ⟨0, 0, by omega, rfl, rfl, rfl, rfl, seen_zero, st⟩ ?_
      clear st
      rintro q r w2 ⟨i, c, hqi, g12, g14, g16, g17, hseen, st⟩
      refine wc_o 12 g12 (wc_o 14 g14 (wc_o 16 g16 (wc_o 17 g17 ?_)))
      refine wc_seq ?_
      refine wc_seq ?_
      refine wc_region ?_
      refine wl_val (v_move' (by conv => (lhs; whnf))) rfl ?_
      refine wl_val (v_move' (by conv => (lhs; whnf))) rfl ?_
      refine wl_val (v_len_s Try.underlying22 rfl) rfl ?_
      refine wl_val (v_lss rfl rfl) rfl ?_
      refine wl_nil ?_
      refine then_go ?_
      refine wc_if rfl (fun h91 => ?_) (fun h91 => ?_)
      · refine wc_skip ?_
        refine then_go ?_
        refine wc_seq ?_
        refine wc_block ?_
        refine wc_seq ?_
        by_cases hcb : c < Lb.length
        · have hi : i < La.length := by omega
          obtain ⟨ob, oo, hoa, hro⟩ := hov.at hi
          subst hoa
          obtain ⟨qb, qo, hqa, hrq⟩ := hov2.at hcb
          subst hqa
          refine wc_draw TF.mixed ?_
          have st := st.pure (touch_drew _)
          refine fl_val 0 rfl (fun _ => (v_move' (by conv => (lhs; whnf)))) rfl (by kernel_rfl) ?_
          refine fl_val 1 rfl (fun _ => (v_move' (by conv => (lhs; whnf)))) rfl (by kernel_rfl) ?_
          refine fl_val 2 rfl (fun _ => (v_len_s Try.underlying22 rfl)) rfl (by kernel_rfl) ?_
          refine fl_val 3 rfl (fun _ => (wl_valD (v_lss rfl rfl) (q := true) (decide_eq_true (by omega)))) rfl (by kernel_rfl) ?_
          refine fl_val 4 rfl (fun _ => (v_move' (by conv => (lhs; whnf)))) rfl (by kernel_rfl) ?_
          refine fl_on 5 rfl rfl rfl rfl (fun _ => (v_move' (by conv => (lhs; whnf)))) rfl (by kernel_rfl) ?_
          refine fl_on 6 rfl rfl rfl rfl (fun _ => (v_move' (by conv => (lhs; whnf)))) rfl (by kernel_rfl) ?_
          refine fl_on 7 rfl rfl rfl rfl (fun _ => (v_ias i Try.underlying22 TF.t28 rfl rfl (by first | rfl | omega) (by first | omega | (dsimp only at *; omega)))) rfl (by kernel_rfl) ?_
          refine fl_ond 8 rfl rfl rfl rfl (v_load rfl (hro st.im)) rfl (by kernel_rfl) ?_
          refine fl_on 9 rfl rfl rfl rfl (fun _ => (v_move' (by conv => (lhs; whnf)))) rfl (by kernel_rfl) ?_
          refine fl_on 10 rfl rfl rfl rfl (fun _ => (v_move' (by conv => (lhs; whnf)))) rfl (by kernel_rfl) ?_
          refine fl_on 11 rfl rfl rfl rfl (fun _ => (v_ias c Try.underlying22 TF.t28 rfl rfl (by first | rfl | omega) (by first | omega | (dsimp only at *; omega)))) rfl (by kernel_rfl) ?_
          refine fl_ond 12 rfl rfl rfl rfl (v_load rfl (hrq st.im)) rfl (by kernel_rfl) ?_
          refine fl_on 13 rfl rfl rfl rfl (fun _ => (v_eq_arr Try.underlying28 TF.t5 Try.underlying5 TF.e28 rfl rfl (hov.1 _ (List.getElem_mem hi)) (hov2.1 _ (List.getElem_mem hcb)))) rfl (by kernel_rfl) ?_
          refine fl_val 14 rfl (fun _ => (v_pick rfl)) rfl (by kernel_rfl) ?_
          refine fl_nil (by kernel_rfl) ⟨obl_on rfl rfl rfl rfl rfl (v_load rfl (hrq st.im)), obl_on rfl rfl rfl rfl rfl (v_load rfl (hro st.im)), trivial⟩ ?_
          refine then_go ?_
          refine wc_cond rfl (fun h108 => ?_) (fun h108 => ?_)
          · refine wc_region ?_
            refine wl_val (v_move' (by conv => (lhs; whnf))) rfl ?_
            refine wl_val (v_add' (c := ((c + 1 : Nat) : Int)) rfl rfl (by omega) (by omega) (by omega)) rfl ?_
            refine wl_val (v_assign' (by conv => (lhs; whnf))) rfl ?_
            refine wl_nil ?_
            refine block_go (then_go ?_)
            refine wc_region ?_
            refine wl_val (v_move' (by conv => (lhs; whnf))) rfl ?_
            refine wl_val (v_add' (c := ((i + 1 : Nat) : Int)) rfl rfl (by omega) (by omega) (by omega)) rfl ?_
            refine wl_val (v_assign' (by conv => (lhs; whnf))) rfl ?_
            refine wl_nil ?_
            refine then_go ?_
            exact ⟨q - 1, by simp; omega, i + 1, c + 1, by omega, rfl, rfl, rfl, rfl, seen_hit hb0 hseen hi hcb (of_decide_eq_true h108), st⟩
          · refine wc_skip ?_
            refine block_go (then_go ?_)
            refine wc_region ?_
            refine wl_val (v_move' (by conv => (lhs; whnf))) rfl ?_
            refine wl_val (v_add' (c := ((i + 1 : Nat) : Int)) rfl rfl (by omega) (by omega) (by omega)) rfl ?_
            refine wl_val (v_assign' (by conv => (lhs; whnf))) rfl ?_
            refine wl_nil ?_
            refine then_go ?_
            exact ⟨q - 1, by simp; omega, i + 1, c, by omega, rfl, rfl, rfl, rfl, seen_miss ha1 hb1 hsub hseen hi (fun _ => of_decide_eq_false h108), st⟩
        · have hi : i < La.length := by omega
          refine wc_draw TF.mixed ?_
          have st := st.pure (touch_drew _)
          refine fl_val 0 rfl (fun _ => (v_move' (by conv => (lhs; whnf)))) rfl (by kernel_rfl) ?_
          refine fl_val 1 rfl (fun _ => (v_move' (by conv => (lhs; whnf)))) rfl (by kernel_rfl) ?_
          refine fl_val 2 rfl (fun _ => (v_len_s Try.underlying22 rfl)) rfl (by kernel_rfl) ?_
          refine fl_val 3 rfl (fun _ => (wl_valD (v_lss rfl rfl) (q := false) (decide_eq_false (by omega)))) rfl (by kernel_rfl) ?_
          refine fl_val 4 rfl (fun _ => (v_move' (by conv => (lhs; whnf)))) rfl (by kernel_rfl) ?_
          refine fl_off 5 rfl rfl rfl rfl rfl rfl (by kernel_rfl) ?_
          refine fl_off 6 rfl rfl rfl rfl rfl rfl (by kernel_rfl) ?_
          refine fl_off 7 rfl rfl rfl rfl rfl rfl (by kernel_rfl) ?_
          refine fl_offd 8 rfl rfl rfl rfl rfl rfl (by kernel_rfl) ?_
          refine fl_off 9 rfl rfl rfl rfl rfl rfl (by kernel_rfl) ?_
          refine fl_off 10 rfl rfl rfl rfl rfl rfl (by kernel_rfl) ?_
          refine fl_off 11 rfl rfl rfl rfl rfl rfl (by kernel_rfl) ?_
          refine fl_offd 12 rfl rfl rfl rfl rfl rfl (by kernel_rfl) ?_
          refine fl_off 13 rfl rfl rfl rfl rfl rfl (by kernel_rfl) ?_
          refine fl_val 14 rfl (fun _ => (v_pick rfl)) rfl (by kernel_rfl) ?_
          refine fl_nil (by kernel_rfl) ⟨obl_off rfl rfl rfl rfl rfl rfl, obl_off rfl rfl rfl rfl rfl rfl, trivial⟩ ?_
          refine then_go ?_
          refine wc_false rfl ?_
          refine wc_skip ?_
          refine block_go (then_go ?_)
          refine wc_region ?_
          refine wl_val (v_move' (by conv => (lhs; whnf))) rfl ?_
          refine wl_val (v_add' (c := ((i + 1 : Nat) : Int)) rfl rfl (by omega) (by omega) (by omega)) rfl ?_
          refine wl_val (v_assign' (by conv => (lhs; whnf))) rfl ?_
          refine wl_nil ?_
          refine then_go ?_
          exact ⟨q - 1, by simp; omega, i + 1, c, by omega, rfl, rfl, rfl, rfl, seen_miss ha1 hb1 hsub hseen hi (fun h => (hcb h).elim), st⟩
      · refine wc_exit (then_exit (then_exit (block_hit ?_)))
        refine then_go ?_
        refine wc_seq ?_
        have hi : i = La.length := by omega
        subst hi
        have hc := seen_all hsub hseen
        refine wc_region ?_
        refine wl_val (v_move' (by conv => (lhs; whnf))) rfl ?_
        refine wl_val (v_move' (by conv => (lhs; whnf))) rfl ?_
        refine wl_val (v_len_s Try.underlying22 rfl) rfl ?_
        refine wl_val (wl_valD (v_eql rfl rfl) (q := true) (decide_eq_true (by omega))) rfl ?_
        refine wl_val (v_move' (by conv => (lhs; whnf))) rfl ?_
        refine wl_on rfl rfl ?_
        refine wl_call rfl (c_works18 st.im) rfl ?_
        rintro v116 w ⟨t116, rfl⟩
        have st := st.pure t116
        refine wl_val (v_pick rfl) rfl ?_
        refine wl_val (v_assign' (by conv => (lhs; whnf))) rfl ?_
        refine wl_nil ?_
        refine then_go ?_
        refine wc_ret ?_
        exact ret1 rfl ⟨st.touch, rfl⟩
end
end Go.Proofs.Ytonlmjpenonabaa

namespace Go.Proofs.Ytonlmjpenonabaa
open Go Go.ChangeShapes Go.WideShapes Go.ChangeAt Go.RowKit K SH PT
theorem Try.ownid : ownKnob Try.prog.godebug = none := by kernel_rfl
theorem Try.laidOutid : laidOutB Try.prog = true := by kernel_rfl
set_option maxRecDepth 100000 in
theorem reapAgain_lifted (os : Os) (started : os.Started) (H : Type) (enc : TypeId × Value → H) :
  ReturnsInHanded {} Try.checked os 9 .any (Rows.reapAgainSpec.pre6 enc Try.prog Try.f9 Rows.reapAgainRow.domain false) (Rows.reapAgainSpec.post enc Try.prog Try.f9 false true false false) := by
 refine returnsInHanded_of_change (C := Try.checked) Try.ownid started (by kernel_rfl) Try.func9
  (ChangeSpec.witness6 (enc := enc) (C := Try.checked) false ⟨#[], #[.agg #[.slice none 0 0, .slice none 0 0, .slice none 0 0]], []⟩ 12 (by kernel_rfl) (by kernel_rfl) (by kernel_rfl) (by kernel_rfl)) ?_
 intro W base args ds gs before hval0 hW hcnd _
 have hval : ∀ (j : Nat) t v, Try.f9.params[j]? = some t → args[j]? = some v → Value.okWide Try.prog W .any base t v := hval0
 have hW' := hW
 obtain ⟨p, q, hA0, hV, rfl, hfz, hnd⟩ := hW
 have hA : DataW.TrodAll enc Try.prog W 0 (fun _ => true) true Try.f9.params.toList args.toList ds p := hA0
 rw [Try.params9] at hA hval
 obtain ⟨v0, d0, rfl, rfl, h0⟩ := trodAll_one hA
 obtain ⟨l0, rfl, hl0⟩ := open_trees (hval 0 53 v0 rfl rfl) h0
 refine Calls.mono (P := Try.prog) (c_reapAgain (im_heapM W) hl0.1 hl0.2.1 hl0.2.2).2 fun e W1 ⟨v, he, t, hv⟩ => ?_
 subst hv
 subst he
 exact ⟨_, rfl, post_true Try.laidOutid (by kernel_rfl) rfl hW' t rfl rfl Try.underlying4⟩
theorem reapAgain_holds : Rows.ReapAgainSaid :=
 OpenClaim.holds_of_wide 9 Try.f9 rfl rfl rfl rfl rfl rfl rfl ⟨rfl, rfl, rfl, rfl, rfl⟩ rfl rfl rfl rfl rfl (by kernel_rfl) Try.func9 (by kernel_rfl)
  (of_decide_eq_true (by kernel_rfl)) (by unfold Func.isWrapper; first | (rw [if_pos (by decide +kernel)]; kernel_rfl) | (rw [if_neg (by decide +kernel)]; exact ⟨rfl, rfl⟩))
  (fun os started H enc _ => reapAgain_lifted os started H enc)
end Go.Proofs.Ytonlmjpenonabaa
