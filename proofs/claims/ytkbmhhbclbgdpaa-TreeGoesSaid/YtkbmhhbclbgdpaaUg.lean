/-
  The reference's leaves: Of, Get, Root.
-/
import Derived.Test.YtkbmhhbclbgdpaaUf
namespace Go.Proofs.Ytkbmhhbclbgdpaa
open Go Go.RowKit K SH PT

def ofLv (L : List (By × By)) : List (By × By) := L.foldl (fun l x => putL x.1 x.2 l) []
theorem ofLv_snoc {L : List (By × By)} {x : By × By} : ofLv (L ++ [x]) = putL x.1 x.2 (ofLv L) := by simp [ofLv]
theorem length_ofLv : ∀ (L : List (By × By)), (ofLv L).length ≤ L.length := by
  intro L
  induction h : L.length generalizing L with
  | zero => have := List.eq_nil_of_length_eq_zero h; subst this; simp [ofLv]
  | succ k ih =>
    have hne : L ≠ [] := by intro e; subst e; simp at h
    rw [← List.dropLast_concat_getLast hne, ofLv_snoc]
    have h1 := ih L.dropLast (by simp [h])
    have h2 := length_putG (x := (L.getLast hne).1) (v := (L.getLast hne).2) (l := ofLv L.dropLast) (b := false)
    simp only [putL, Bool.false_eq_true, if_false] at h2 ⊢
    omega

/-- An index's value. -/
def getG (x : By) : List (By × By) → Option By
  | [] => none
  | e :: l => if e.1 = x then some e.2 else getG x l

def valO : Option By → By
  | none => z32
  | some v => v

/-- The tree of leaves below so many bits. -/
def canon : Nat → Nat → List (By × By) → Tr
  | _, _, [] => .e
  | _, _, [x] => .l x.1 x.2
  | 0, _, _ :: _ :: _ => .e
  | g + 1, d, x :: y :: l => .f (canon g (d + 1) (halfL (x :: y :: l) d false)) (canon g (d + 1) (halfL (x :: y :: l) d true))

/-- So many bits part them all. -/
inductive Ends : Nat → Nat → List (By × By) → Prop
  | nil {g d : Nat} : Ends g d []
  | one {g d : Nat} {x : By × By} : Ends g d [x]
  | more {g d : Nat} {L : List (By × By)} : Ends g (d + 1) (halfL L d false) → Ends g (d + 1) (halfL L d true) → Ends (g + 1) d L

theorem Ends.zero {d : Nat} {x y : By × By} {l : List (By × By)} (h : Ends 0 d (x :: y :: l)) : False := by cases h
theorem Ends.halves {g d : Nat} {x y : By × By} {l : List (By × By)} (h : Ends (g + 1) d (x :: y :: l)) : Ends g (d + 1) (halfL (x :: y :: l) d false) ∧ Ends g (d + 1) (halfL (x :: y :: l) d true) := by
  cases h with
  | more h1 h2 => exact ⟨h1, h2⟩

section
variable {m : Mem} {wI : World}

theorem c_rof {va vv : Value} {A V : List By} (him : Im m wI) (ha : DigM m va A) (hv : DigM m vv V) (hA : A.length ≤ 1000000) (hV : V.length ≤ 9223372036854775807) :
    Ret Try.prog 12 #[va, vv] wI fun v w' => Out m wI w' fun m' => LvM m' v (ofLv (A.zip V)) := by
  have st := St.start him
  obtain ⟨a1, c1, rfl⟩ := ha.sl
  obtain ⟨a2, c2, rfl⟩ := hv.sl
  refine ret_of Try.call12 Try.func12 rfl Try.ntmps12 Try.results12 rfl ?_
  refine wc_seq ?_
  refine wc_region ?_
  refine wl_alloc TF.z30 st rfl ?_
  intro b4 w st
  refine wl_nil ?_
  refine then_go ?_
  refine wc_seq ?_
  refine wc_region ?_
  refine wl_val (v_build (c' := #[.slice none 0 0, .slice none 0 0]) [] TF.z30 TF.p30 rfl rfl) rfl ?_
  refine wl_alloc TF.z30 st rfl ?_
  intro b5 w st
  refine wl_storeW (cs := #[.slice none 0 0, .slice none 0 0]) 0 st rfl TF.t30 rfl rfl rfl rfl (by simp [Value.oneCell']) ?_
  intro w st
  refine wl_nil ?_
  refine then_go ?_
  refine wc_seq ?_
  refine wc_seq ?_
  refine wc_region ?_
  refine wl_val (v_assign' (by conv => (lhs; whnf))) rfl ?_
  refine wl_nil ?_
  refine then_go ?_
  refine wc_block ?_
  refine wc_loop (S := Nat) (fun q r w' => ∃ (m2 : Mem) (i : Nat) (v1 v2 : Value), q + i = (A.zip V).length ∧ r 0 = .slice a1 A.length c1 ∧ r 1 = .slice a2 V.length c2 ∧ r 4 = .pointer (some ⟨b4, 0, none⟩) ∧ r 5 = .pointer (some ⟨b5, 0, none⟩) ∧ r 6 = .int .i64 i ∧ DigM m2 (.slice a1 A.length c1) A ∧ DigM m2 (.slice a2 V.length c2) V ∧ LvM m2 (.agg #[v1, v2]) (ofLv ((A.zip V).take i)) ∧ St m m2 [] wI w' [K.blk b5 #[v1, v2] 30, K.blk b4 #[.slice none 0 0, .slice none 0 0] 30]) id (A.zip V).length ⟨m, 0, _, _, by omega, rfl, rfl, rfl, rfl, rfl, ha, hv, ⟨_, _, rfl, DigM.nil, DigM.nil⟩, st⟩ ?_
  rintro q r w2 ⟨m2, i, v1, v2, hqi, g0, g1, g4, g5, g6, ha, hv, hl, st⟩
  refine wc_o 0 g0 (wc_o 1 g1 (wc_o 4 g4 (wc_o 5 g5 (wc_o 6 g6 ?_))))
  have hz : (A.zip V).length = min A.length V.length := by simp
  refine wc_seq ?_
  refine wc_seq ?_
  refine wc_region ?_
  refine wl_val (v_move' (by conv => (lhs; whnf))) rfl ?_
  refine wl_val (v_move' (by conv => (lhs; whnf))) rfl ?_
  refine wl_val (v_len_s Try.underlying22 rfl) rfl ?_
  refine wl_val (v_lss rfl rfl) rfl ?_
  refine wl_val (v_move' (by conv => (lhs; whnf))) rfl ?_
  by_cases hg4 : (i : Int) < (A.length : Int)
  · rw [show decide ((i : Int) < (A.length : Int)) = true from decide_eq_true hg4]
    refine wl_on rfl rfl ?_
    refine wl_val (v_move' (by conv => (lhs; whnf))) rfl ?_
    refine wl_on rfl rfl ?_
    refine wl_val (v_move' (by conv => (lhs; whnf))) rfl ?_
    refine wl_on rfl rfl ?_
    refine wl_val (v_len_s Try.underlying22 rfl) rfl ?_
    refine wl_on rfl rfl ?_
    refine wl_val (v_lss rfl rfl) rfl ?_
    refine wl_val (v_pick rfl) rfl ?_
    refine wl_nil ?_
    refine then_go ?_
    refine wc_if rfl (fun h17 => ?_) (fun h17 => ?_)
    · refine wc_skip ?_
      refine then_go ?_
      refine wc_seq ?_
      refine wc_block ?_
      have hi : i < A.length := by omega
      have hiv : i < V.length := by omega
      obtain ⟨ba, oa, hba⟩ := ha.ptr (by omega)
      subst hba
      obtain ⟨bv, ov, hbv⟩ := hv.ptr (by omega)
      subst hbv
      have hle := length_ofLv ((A.zip V).take i)
      have htl : ((A.zip V).take i).length ≤ i := by simp; omega
      refine wc_draw TF.mixed ?_
      have st := st.pure (touch_drew _)
      refine fl_ld 0 rfl (v_load rfl (st.reads (v := .agg #[v1, v2]) 0 rfl TF.t30 (getV_all rfl))) (by kernel_rfl) ?_
      refine fl_val 1 rfl (fun _ => (v_move' (by conv => (lhs; whnf)))) rfl (by kernel_rfl) ?_
      refine fl_val 2 rfl (fun _ => (v_move' (by conv => (lhs; whnf)))) rfl (by kernel_rfl) ?_
      refine fl_val 3 rfl (fun _ => (v_ias i Try.underlying22 TF.t24 rfl rfl (by first | rfl | omega) (by first | omega | (dsimp only at *; omega)))) rfl (by kernel_rfl) ?_
      refine fl_ld 4 rfl (v_load rfl (ha.rd rfl hi rfl st.im)) (by kernel_rfl) ?_
      refine fl_val 5 rfl (fun _ => (v_move' (by conv => (lhs; whnf)))) rfl (by kernel_rfl) ?_
      refine fl_val 6 rfl (fun _ => (v_move' (by conv => (lhs; whnf)))) rfl (by kernel_rfl) ?_
      refine fl_val 7 rfl (fun _ => (v_ias i Try.underlying22 TF.t24 rfl rfl (by first | rfl | omega) (by first | omega | (dsimp only at *; omega)))) rfl (by kernel_rfl) ?_
      refine fl_ld 8 rfl (v_load rfl (hv.rd rfl hiv rfl st.im)) (by kernel_rfl) ?_
      refine fl_eff1 9 [7, 6, 5, 3, 2, 1] [] (by kernel_rfl) ⟨obl_ld rfl rfl rfl (v_load rfl (hv.rd rfl hiv rfl st.im)), obl_ld rfl rfl rfl (v_load rfl (ha.rd rfl hi rfl st.im)), obl_ld rfl rfl rfl (v_load rfl (st.reads (v := .agg #[v1, v2]) 0 rfl TF.t30 (getV_all rfl))), trivial⟩ rfl ?_
      refine wl_call rfl (c_rput st.im hl (ha.1.get hi) (hv.1.get hiv) (by omega)) rfl ?_
      rintro v29 w ⟨t29, m3, hg3, hi3, hl3⟩
      have st := st.grown hg3 t29 hi3
      have ha := ha.mono hg3.le
      have hv := hv.mono hg3.le
      obtain ⟨v1, v2, rfl, hl1, hl2⟩ := hl3
      refine wl_nil ⟨rfl, ?_⟩
      refine fl_eff1 10 [] [] (by kernel_rfl) trivial rfl ?_
      refine wl_storeW (cs := #[v1, v2]) 0 st rfl TF.t30 rfl rfl rfl rfl ?_ ?_
      · intro u hu
        simp at hu
        obtain ⟨x1, y1, rfl⟩ := hl1.sl
        obtain ⟨x2, y2, rfl⟩ := hl2.sl
        rcases hu with rfl | rfl <;> rfl
      intro w st
      refine wl_nil ⟨rfl, ?_⟩
      refine fl_nil (by kernel_rfl) trivial ?_
      refine block_go (then_go ?_)
      refine wc_region ?_
      refine wl_val (v_move' (by conv => (lhs; whnf))) rfl ?_
      refine wl_val (v_add' rfl rfl rfl (by first | omega | (dsimp only at *; omega)) (by first | omega | (dsimp only at *; omega))) rfl ?_
      refine wl_val (v_assign' (by conv => (lhs; whnf))) rfl ?_
      refine wl_nil ?_
      refine then_go ?_
      exact ⟨q - 1, by simp; omega, m3, i + 1, v1, v2, by omega, rfl, rfl, rfl, rfl, rfl, ha, hv, by rw [zip_take_lt hi hiv, ofLv_snoc]; exact ⟨_, _, rfl, hl1, hl2⟩, st⟩
    · refine wc_exit (then_exit (then_exit (block_hit ?_)))
      refine then_go ?_
      refine wc_seq ?_
      refine wc_region ?_
      refine wl_val (v_load rfl (st.reads (v := .agg #[v1, v2]) 0 rfl TF.t30 (getV_all rfl))) rfl ?_
      refine wl_storeW (cs := #[v1, v2]) 1 st rfl TF.t30 rfl rfl rfl rfl ?_ ?_
      · intro u hu
        obtain ⟨x1, y1, x2, y2, he, _, _⟩ := hl.open
        cases he
        simp at hu
        rcases hu with rfl | rfl <;> rfl
      intro w st
      refine wl_nil ?_
      refine then_go ?_
      refine wc_ret ?_
      rw [List.take_of_length_le (by omega)] at hl
      exact ret1c rfl (st.reads (v := .agg #[v1, v2]) 1 rfl TF.t30 (getV_all rfl)) ((st.keepOnly (l := []) (List.nil_sublist _)).out hl)
  · rw [show decide ((i : Int) < (A.length : Int)) = false from decide_eq_false hg4]
    refine wl_off rfl rfl rfl rfl ?_
    refine wl_off rfl rfl rfl rfl ?_
    refine wl_off rfl rfl rfl rfl ?_
    refine wl_off rfl rfl rfl rfl ?_
    refine wl_val (v_pick rfl) rfl ?_
    refine wl_nil ?_
    refine then_go ?_
    refine wc_false rfl ?_
    refine wc_exit (then_exit (then_exit (block_hit ?_)))
    refine then_go ?_
    refine wc_seq ?_
    refine wc_region ?_
    refine wl_val (v_load rfl (st.reads (v := .agg #[v1, v2]) 0 rfl TF.t30 (getV_all rfl))) rfl ?_
    refine wl_storeW (cs := #[v1, v2]) 1 st rfl TF.t30 rfl rfl rfl rfl ?_ ?_
    · intro u hu
      obtain ⟨x1, y1, x2, y2, he, _, _⟩ := hl.open
      cases he
      simp at hu
      rcases hu with rfl | rfl <;> rfl
    intro w st
    refine wl_nil ?_
    refine then_go ?_
    refine wc_ret ?_
    rw [List.take_of_length_le (by omega)] at hl
    exact ret1c rfl (st.reads (v := .agg #[v1, v2]) 1 rfl TF.t30 (getV_all rfl)) ((st.keepOnly (l := []) (List.nil_sublist _)).out hl)

theorem c_rget {lv : Value} {L : List (By × By)} {x : By} (him : Im m wI) (hl : LvM m lv L) (hx : x.length = 32) (hL : L.length ≤ 1099511627776) :
    Ret Try.prog 17 #[lv, arr x] wI fun v' w' => Tch wI w' [] [] ∧ v' = .tuple #[arr (valO (getG x L)), .bool (getG x L).isSome] := by
  have st := St.start him
  have hd := hl.d32
  obtain ⟨a1, c1, a2, c2, rfl, h1, h2⟩ := hl.open
  refine ret_of Try.call17 Try.func17 rfl Try.ntmps17 Try.results17 rfl ?_
  refine wc_seq ?_
  refine wc_region ?_
  refine wl_box (v := .agg #[.slice a1 L.length c1, .slice a2 L.length c2]) rfl st rfl ?_
  intro b2 w st
  refine wl_box (v := arr x) rfl st rfl ?_
  intro b3 w st
  refine wl_alloc TF.z24 st rfl ?_
  intro b4 w st
  refine wl_val (v_assign' (by conv => (lhs; whnf))) rfl ?_
  refine wl_nil ?_
  refine then_go ?_
  refine wc_seq ?_
  refine wc_seq ?_
  refine wc_region ?_
  refine wl_val (v_assign' (by conv => (lhs; whnf))) rfl ?_
  refine wl_nil ?_
  refine then_go ?_
  refine wc_block ?_
  refine wc_loop (S := Nat) (fun q r w' => ∃ (i : Nat), q + i = L.length ∧ r 2 = .pointer (some ⟨b2, 0, none⟩) ∧ r 3 = .pointer (some ⟨b3, 0, none⟩) ∧ r 4 = .pointer (some ⟨b4, 0, none⟩) ∧ r 6 = .int .i64 i ∧ getG x L = getG x (L.drop i) ∧
    St m m [] wI w' [K.blk b4 (Array.replicate 32 (u8 0)) 24, K.blk b3 (arr x).cells 24, K.blk b2 #[.slice a1 L.length c1, .slice a2 L.length c2] 30]) id L.length ⟨0, by omega, rfl, rfl, rfl, rfl, rfl, st⟩ ?_
  rintro q r w2 ⟨i, hqi, g2, g3, g4, g6, hG, st⟩
  refine wc_o 2 g2 (wc_o 3 g3 (wc_o 4 g4 (wc_o 6 g6 ?_)))
  refine wc_seq ?_
  refine wc_seq ?_
  refine wc_region ?_
  refine wl_val (v_move' (by conv => (lhs; whnf))) rfl ?_
  refine wl_val (v_fa TF.f30_0 rfl) rfl ?_
  refine wl_val (v_load rfl (st.reads 2 rfl TF.t22 rfl)) rfl ?_
  refine wl_val (v_len_s Try.underlying22 rfl) rfl ?_
  refine wl_val (v_lss rfl rfl) rfl ?_
  refine wl_nil ?_
  refine then_go ?_
  refine wc_if rfl (fun h11 => ?_) (fun h11 => ?_)
  · refine wc_skip ?_
    refine then_go ?_
    refine wc_seq ?_
    refine wc_block ?_
    refine wc_seq ?_
    have hi : i < L.length := by omega
    have hm1 : i < (L.map (·.1)).length := by rw [List.length_map]; exact hi
    have hm2 : i < (L.map (·.2)).length := by rw [List.length_map]; exact hi
    have e1 : (L.map (·.1))[i] = L[i].1 := by simp
    have e2 : (L.map (·.2))[i] = L[i].2 := by simp
    have l1 : L[i].1.length = 32 := (hd _ (List.getElem_mem hi)).1
    have l2 : L[i].2.length = 32 := (hd _ (List.getElem_mem hi)).2
    rw [List.drop_eq_getElem_cons hi, getG] at hG
    obtain ⟨ba, oa, hba⟩ := h1.ptr (by omega)
    obtain ⟨bv, ov, hbv⟩ := h2.ptr (by omega)
    subst hba
    subst hbv
    refine wc_draw TF.mixed ?_
    have st := st.pure (touch_drew _)
    refine fl_val 0 rfl (fun _ => (v_fa TF.f30_0 rfl)) rfl (by kernel_rfl) ?_
    refine fl_ld 1 rfl (v_load rfl (st.reads 2 rfl TF.t22 rfl)) (by kernel_rfl) ?_
    refine fl_val 2 rfl (fun _ => (v_move' (by conv => (lhs; whnf)))) rfl (by kernel_rfl) ?_
    refine fl_val 3 rfl (fun _ => (v_ias i Try.underlying22 TF.t24 rfl rfl (by first | rfl | omega) (by first | omega | (dsimp only at *; omega)))) rfl (by kernel_rfl) ?_
    refine fl_ld 4 rfl (v_load rfl (h1.rd rfl hm1 e1 st.im)) (by kernel_rfl) ?_
    refine fl_ld 5 rfl (v_load rfl (st.reads 1 rfl TF.t24 (getV_all (by rw [size_arr, hx])))) (by kernel_rfl) ?_
    refine fl_val 6 rfl (fun _ => (v_eq_arr Try.underlying24 TF.t5 Try.underlying5 TF.e24 rfl rfl l1 hx)) rfl (by kernel_rfl) ?_
    refine fl_nil (by kernel_rfl) ⟨obl_ld rfl rfl rfl (v_load rfl (st.reads 1 rfl TF.t24 (getV_all (by rw [size_arr, hx])))), obl_ld rfl rfl rfl (v_load rfl (h1.rd rfl hm1 e1 st.im)), obl_ld rfl rfl rfl (v_load rfl (st.reads 2 rfl TF.t22 rfl)), trivial⟩ ?_
    refine then_go ?_
    refine wc_if rfl (fun h20 => ?_) (fun h20 => ?_)
    · refine wc_seq ?_
      refine wc_region ?_
      refine wl_val (v_fa TF.f30_1 rfl) rfl ?_
      refine wl_val (v_load rfl (st.reads 2 rfl TF.t22 rfl)) rfl ?_
      refine wl_val (v_move' (by conv => (lhs; whnf))) rfl ?_
      refine wl_val (v_ias i Try.underlying22 TF.t24 rfl rfl (by first | rfl | omega) (by first | omega | (dsimp only at *; omega))) rfl ?_
      refine wl_val (v_load rfl (h2.rd rfl hm2 e2 st.im)) rfl ?_
      refine wl_storeW (cs := (bs L[i].2).toArray) 0 st rfl TF.t24 rfl rfl (by simp [length_bs, l2]) rfl (fun u hu => one_bs _ u (by simpa using hu)) ?_
      intro w st
      refine wl_val (v_assign' (by conv => (lhs; whnf))) rfl ?_
      refine wl_nil ?_
      refine then_go ?_
      refine wc_ret (block_ret (then_ret (then_ret (block_ret (then_ret ?_)))))
      rw [if_pos h20] at hG
      refine ret2c rfl (st.reads 0 rfl TF.t24 (getV_all (by simp [length_bs, l2]))) rfl ⟨(st.keepOnly (l := []) (List.nil_sublist _)).touch, ?_⟩
      rw [hG]
      rfl
    · refine wc_skip ?_
      refine block_go (then_go ?_)
      refine wc_region ?_
      refine wl_val (v_move' (by conv => (lhs; whnf))) rfl ?_
      refine wl_val (v_add' rfl rfl rfl (by first | omega | (dsimp only at *; omega)) (by first | omega | (dsimp only at *; omega))) rfl ?_
      refine wl_val (v_assign' (by conv => (lhs; whnf))) rfl ?_
      refine wl_nil ?_
      refine then_go ?_
      rw [if_neg h20] at hG
      exact ⟨q - 1, by simp; omega, i + 1, by omega, rfl, rfl, rfl, rfl, hG, st⟩
  · refine wc_exit (then_exit (then_exit (block_hit ?_)))
    refine then_go ?_
    refine wc_seq ?_
    refine wc_region ?_
    refine wl_val (v_build_a (c' := (bs z32).toArray) [] TF.z24 Try.underlying24 TF.t5 rfl rfl) rfl ?_
    refine wl_storeW (cs := (bs z32).toArray) 0 st rfl TF.t24 rfl rfl rfl rfl (fun u hu => one_bs z32 u (by simpa using hu)) ?_
    intro w st
    refine wl_val (v_assign' (by conv => (lhs; whnf))) rfl ?_
    refine wl_nil ?_
    refine then_go ?_
    refine wc_ret ?_
    have hiL : i = L.length := by omega
    subst hiL
    rw [List.drop_length] at hG
    refine ret2c rfl (st.reads 0 rfl TF.t24 (getV_all rfl)) rfl ⟨(st.keepOnly (l := []) (List.nil_sublist _)).touch, ?_⟩
    rw [hG]
    rfl

theorem canon_nil {g d : Nat} : canon g d [] = .e := by cases g <;> rfl
theorem canon_one {g d : Nat} {x : By × By} : canon g d [x] = .l x.1 x.2 := by cases g <;> rfl

theorem c_rroot0 {d : Int} {lv : Value} (him : Im m wI) (hl : LvM m lv []) :
    Ret Try.prog 14 #[lv, .int .i64 d] wI fun v' w' => Tch wI w' [] [] ∧ v' = arr (Tr.root .e) := by
  have st := St.start him
  obtain ⟨a1, c1, a2, c2, rfl, h1, h2⟩ := hl.open
  refine ret_of Try.call14 Try.func14 rfl Try.ntmps14 Try.results14 rfl ?_
  refine wc_seq ?_
  refine wc_region ?_
  refine wl_box (v := .agg #[.slice a1 ([] : List (By × By)).length c1, .slice a2 ([] : List (By × By)).length c2]) rfl st rfl ?_
  intro b2 w st
  refine wl_alloc TF.z24 st rfl ?_
  intro b4 w st
  refine wl_nil ?_
  refine then_go ?_
  refine wc_seq ?_
  refine wc_seq ?_
  refine wc_region ?_
  refine wl_val (v_fa TF.f30_0 rfl) rfl ?_
  refine wl_val (v_load rfl (st.reads 1 rfl TF.t22 rfl)) rfl ?_
  refine wl_val (v_len_s Try.underlying22 rfl) rfl ?_
  refine wl_val (v_eql rfl rfl) rfl ?_
  refine wl_nil ?_
  refine then_go ?_
  refine wc_true rfl ?_
  refine wc_seq ?_
  refine wc_region ?_
  refine wl_call rfl (c_rempty st.im) rfl ?_
  rintro v9 w ⟨t9, rfl⟩
  have st := st.pure t9
  refine wl_storeW (cs := (bs (sum [69])).toArray) 0 st rfl TF.t24 rfl rfl (by simp [length_bs, length_sum]) rfl (fun u hu => one_bs _ u (by simpa using hu)) ?_
  intro w st
  refine wl_nil ?_
  refine then_go ?_
  refine wc_ret (then_ret ?_)
  exact ret1c rfl (st.reads 0 rfl TF.t24 (getV_all (by simp [length_bs, length_sum]))) ⟨(st.keepOnly (l := []) (List.nil_sublist _)).touch, rfl⟩

theorem c_rroot1 {d : Int} {lv : Value} {x : By × By} (him : Im m wI) (hl : LvM m lv [x]) :
    Ret Try.prog 14 #[lv, .int .i64 d] wI fun v' w' => Tch wI w' [] [] ∧ v' = arr (Tr.root (.l x.1 x.2)) := by
  have st := St.start him
  have hd := hl.d32 x (by simp)
  obtain ⟨a1, c1, a2, c2, rfl, h1, h2⟩ := hl.open
  obtain ⟨ba, oa, hba⟩ := h1.ptr (by simp)
  obtain ⟨bv, ov, hbv⟩ := h2.ptr (by simp)
  subst hba
  subst hbv
  refine ret_of Try.call14 Try.func14 rfl Try.ntmps14 Try.results14 rfl ?_
  refine wc_seq ?_
  refine wc_region ?_
  refine wl_box (v := .agg #[.slice (some ⟨ba, oa, none⟩) [x].length c1, .slice (some ⟨bv, ov, none⟩) [x].length c2]) rfl st rfl ?_
  intro b2 w st
  refine wl_alloc TF.z24 st rfl ?_
  intro b4 w st
  refine wl_nil ?_
  refine then_go ?_
  refine wc_seq ?_
  refine wc_seq ?_
  refine wc_region ?_
  refine wl_val (v_fa TF.f30_0 rfl) rfl ?_
  refine wl_val (v_load rfl (st.reads 1 rfl TF.t22 rfl)) rfl ?_
  refine wl_val (v_len_s Try.underlying22 rfl) rfl ?_
  refine wl_val (v_eql rfl rfl) rfl ?_
  refine wl_nil ?_
  refine then_go ?_
  refine wc_false rfl ?_
  refine wc_skip ?_
  refine then_go ?_
  refine wc_seq ?_
  refine wc_seq ?_
  refine wc_region ?_
  refine wl_val (v_fa TF.f30_0 rfl) rfl ?_
  refine wl_val (v_load rfl (st.reads 1 rfl TF.t22 rfl)) rfl ?_
  refine wl_val (v_len_s Try.underlying22 rfl) rfl ?_
  refine wl_val (v_eql rfl rfl) rfl ?_
  refine wl_nil ?_
  refine then_go ?_
  refine wc_true rfl ?_
  refine wc_seq ?_
  refine wc_draw TF.mixed ?_
  have st := st.pure (touch_drew _)
  refine fl_val 0 rfl (fun _ => (v_fa TF.f30_0 rfl)) rfl (by kernel_rfl) ?_
  refine fl_ld 1 rfl (v_load rfl (st.reads 1 rfl TF.t22 rfl)) (by kernel_rfl) ?_
  refine fl_val 2 rfl (fun _ => (v_ias 0 Try.underlying22 TF.t24 rfl rfl (by first | rfl | omega) (by simp))) rfl (by kernel_rfl) ?_
  refine fl_ld 3 rfl (v_load rfl (h1.rd (i := 0) rfl (by simp) rfl st.im)) (by kernel_rfl) ?_
  refine fl_val 4 rfl (fun _ => (v_fa TF.f30_1 rfl)) rfl (by kernel_rfl) ?_
  refine fl_ld 5 rfl (v_load rfl (st.reads 1 rfl TF.t22 rfl)) (by kernel_rfl) ?_
  refine fl_val 6 rfl (fun _ => (v_ias 0 Try.underlying22 TF.t24 rfl rfl (by first | rfl | omega) (by simp))) rfl (by kernel_rfl) ?_
  refine fl_ld 7 rfl (v_load rfl (h2.rd (i := 0) rfl (by simp) rfl st.im)) (by kernel_rfl) ?_
  refine fl_eff1 8 [6, 4, 2, 0] [5, 1] (by kernel_rfl) ⟨obl_ld rfl rfl rfl (v_load rfl (h2.rd (i := 0) rfl (by simp) rfl st.im)), obl_ld rfl rfl rfl (v_load rfl (st.reads 1 rfl TF.t22 rfl)), obl_ld rfl rfl rfl (v_load rfl (h1.rd (i := 0) rfl (by simp) rfl st.im)), obl_ld rfl rfl rfl (v_load rfl (st.reads 1 rfl TF.t22 rfl)), trivial⟩ rfl ?_
  refine wl_call rfl (c_rleaf st.im hd.1 hd.2) rfl ?_
  rintro v9 w ⟨t9, rfl⟩
  have st := st.pure t9
  refine wl_nil ⟨rfl, ?_⟩
  refine fl_eff1 9 [] [] (by kernel_rfl) ⟨obl_ld rfl rfl rfl (v_load rfl (st.reads 1 rfl TF.t22 rfl)), obl_ld rfl rfl rfl (v_load rfl (st.reads 1 rfl TF.t22 rfl)), trivial⟩ rfl ?_
  refine wl_storeW (cs := (bs (sum (76 :: (x.1 ++ x.2)))).toArray) 0 st rfl TF.t24 rfl rfl (by simp [length_bs, length_sum]) rfl (fun u hu => one_bs _ u (by simpa using hu)) ?_
  intro w st
  refine wl_nil ⟨rfl, ?_⟩
  refine fl_nil (by kernel_rfl) trivial ?_
  refine then_go ?_
  refine wc_ret (then_ret ?_)
  exact ret1c rfl (st.reads 0 rfl TF.t24 (getV_all (by simp [length_bs, length_sum]))) ⟨(st.keepOnly (l := []) (List.nil_sublist _)).touch, rfl⟩

theorem c_rroot2 {d : Nat} {lv : Value} {L : List (By × By)} {a b : By} (him : Im m wI) (hl : LvM m lv L) (h2L : 2 ≤ L.length) (hL : L.length ≤ 1099511627776) (hd : d ≤ 1000000)
    (ih0 : ∀ {m : Mem} {w : World} {v : Value}, Im m w → LvM m v (halfL L d false) → Ret Try.prog 14 #[v, .int .i64 (d + 1)] w fun v' w' => Tch w w' [] [] ∧ v' = arr a)
    (ih1 : ∀ {m : Mem} {w : World} {v : Value}, Im m w → LvM m v (halfL L d true) → Ret Try.prog 14 #[v, .int .i64 (d + 1)] w fun v' w' => Tch w w' [] [] ∧ v' = arr b) (ha : a.length = 32) (hb : b.length = 32) :
    Ret Try.prog 14 #[lv, .int .i64 d] wI fun v' w' => Tch wI w' [] [] ∧ v' = arr (sum (78 :: (a ++ b))) := by
  have st := St.start him
  obtain ⟨a1, c1, a2, c2, rfl, h1, h2⟩ := hl.open
  refine ret_of Try.call14 Try.func14 rfl Try.ntmps14 Try.results14 rfl ?_
  refine wc_seq ?_
  refine wc_region ?_
  refine wl_box (v := .agg #[.slice a1 L.length c1, .slice a2 L.length c2]) rfl st rfl ?_
  intro b2 w st
  refine wl_alloc TF.z24 st rfl ?_
  intro b4 w st
  refine wl_nil ?_
  refine then_go ?_
  refine wc_seq ?_
  refine wc_seq ?_
  refine wc_region ?_
  refine wl_val (v_fa TF.f30_0 rfl) rfl ?_
  refine wl_val (v_load rfl (st.reads 1 rfl TF.t22 rfl)) rfl ?_
  refine wl_val (v_len_s Try.underlying22 rfl) rfl ?_
  refine wl_val (v_eqlF (a := (L.length : Int)) (by omega) rfl rfl) rfl ?_
  refine wl_nil ?_
  refine then_go ?_
  refine wc_false rfl ?_
  refine wc_skip ?_
  refine then_go ?_
  refine wc_seq ?_
  refine wc_seq ?_
  refine wc_region ?_
  refine wl_val (v_fa TF.f30_0 rfl) rfl ?_
  refine wl_val (v_load rfl (st.reads 1 rfl TF.t22 rfl)) rfl ?_
  refine wl_val (v_len_s Try.underlying22 rfl) rfl ?_
  refine wl_val (v_eqlF (a := (L.length : Int)) (by omega) rfl rfl) rfl ?_
  refine wl_nil ?_
  refine then_go ?_
  refine wc_false rfl ?_
  refine wc_skip ?_
  refine then_go ?_
  refine wc_seq ?_
  refine wc_draw TF.mixed ?_
  have st := st.pure (touch_drew _)
  refine fl_ld 0 rfl (v_load rfl (st.reads (v := .agg #[.slice a1 L.length c1, .slice a2 L.length c2]) 1 rfl TF.t30 (getV_all rfl))) (by kernel_rfl) ?_
  refine fl_val 1 rfl (fun _ => (v_move' (by conv => (lhs; whnf)))) rfl (by kernel_rfl) ?_
  refine fl_val 3 rfl (fun _ => (v_move' (by conv => (lhs; whnf)))) rfl (by kernel_rfl) ?_
  refine fl_val 4 rfl (fun _ => (v_add' rfl rfl rfl (by first | omega | (dsimp only at *; omega)) (by first | omega | (dsimp only at *; omega)))) rfl (by kernel_rfl) ?_
  refine fl_ld 6 rfl (v_load rfl (st.reads (v := .agg #[.slice a1 L.length c1, .slice a2 L.length c2]) 1 rfl TF.t30 (getV_all rfl))) (by kernel_rfl) ?_
  refine fl_val 7 rfl (fun _ => (v_move' (by conv => (lhs; whnf)))) rfl (by kernel_rfl) ?_
  refine fl_val 9 rfl (fun _ => (v_move' (by conv => (lhs; whnf)))) rfl (by kernel_rfl) ?_
  refine fl_val 10 rfl (fun _ => (v_add' rfl rfl rfl (by first | omega | (dsimp only at *; omega)) (by first | omega | (dsimp only at *; omega)))) rfl (by kernel_rfl) ?_
  refine fl_eff1 2 [10, 9, 7, 4, 3] [6] (by kernel_rfl) ⟨obl_ld rfl rfl rfl (v_load rfl (st.reads (v := .agg #[.slice a1 L.length c1, .slice a2 L.length c2]) 1 rfl TF.t30 (getV_all rfl))), obl_ld rfl rfl rfl (v_load rfl (st.reads (v := .agg #[.slice a1 L.length c1, .slice a2 L.length c2]) 1 rfl TF.t30 (getV_all rfl))), trivial⟩ rfl ?_
  refine wl_call rfl (c_half (on := false) st.im hl hL) rfl ?_
  rintro v25 w ⟨t25, m1, hg1, hi1, hq⟩
  have st := st.grown hg1 t25 hi1
  have hl := hl.mono hg1.le
  refine wl_nil ⟨rfl, ?_⟩
  refine fl_eff1 5 [10, 9, 7, 3] [6] (by kernel_rfl) ⟨obl_ld rfl rfl rfl (v_load rfl (st.reads (v := .agg #[.slice a1 L.length c1, .slice a2 L.length c2]) 1 rfl TF.t30 (getV_all rfl))), trivial⟩ rfl ?_
  refine wl_call rfl (ih0 st.im hq) rfl ?_
  rintro v28 w ⟨t28, rfl⟩
  have st := st.pure t28
  refine wl_nil ⟨rfl, ?_⟩
  refine fl_eff1 8 [10, 9, 3] [] (by kernel_rfl) ⟨obl_ld rfl rfl rfl (v_load rfl (st.reads (v := .agg #[.slice a1 L.length c1, .slice a2 L.length c2]) 1 rfl TF.t30 (getV_all rfl))), trivial⟩ rfl ?_
  refine wl_call rfl (c_half (on := true) st.im hl hL) rfl ?_
  rintro v31 w ⟨t31, m2, hg2, hi2, hq2⟩
  have st := st.grown hg2 t31 hi2
  refine wl_nil ⟨rfl, ?_⟩
  refine fl_eff1 11 [9, 3] [] (by kernel_rfl) trivial rfl ?_
  refine wl_call rfl (ih1 st.im hq2) rfl ?_
  rintro v34 w ⟨t34, rfl⟩
  have st := st.pure t34
  refine wl_nil ⟨rfl, ?_⟩
  refine fl_eff1 12 [9, 3] [] (by kernel_rfl) trivial rfl ?_
  refine wl_call rfl (c_rnode st.im ha hb) rfl ?_
  rintro v35 w ⟨t35, rfl⟩
  have st := st.pure t35
  refine wl_nil ⟨rfl, ?_⟩
  refine fl_eff1 13 [] [] (by kernel_rfl) trivial rfl ?_
  refine wl_storeW (cs := (bs (sum (78 :: (a ++ b)))).toArray) 0 st rfl TF.t24 rfl rfl (by simp [length_bs, length_sum]) rfl (fun u hu => one_bs _ u (by simpa using hu)) ?_
  intro w st
  refine wl_nil ⟨rfl, ?_⟩
  refine fl_nil (by kernel_rfl) trivial ?_
  refine then_go ?_
  refine wc_ret ?_
  exact ret1c rfl (st.reads 0 rfl TF.t24 (getV_all (by simp [length_bs, length_sum]))) ⟨(st.keepOnly (l := []) (List.nil_sublist _)).touch, rfl⟩

theorem c_rroot : ∀ {g d : Nat} {L : List (By × By)} {lv : Value} {m : Mem} {wI : World}, Im m wI → LvM m lv L → Ends g d L → L.length ≤ 1099511627776 → g + d ≤ 1000000 →
    Ret Try.prog 14 #[lv, .int .i64 d] wI fun v' w' => Tch wI w' [] [] ∧ v' = arr (canon g d L).root
  | g, d, [], lv, m, wI, him, hl, _, _, _ => by rw [canon_nil]; exact c_rroot0 him hl
  | g, d, [x], lv, m, wI, him, hl, _, _, _ => by rw [canon_one]; exact c_rroot1 him hl
  | 0, d, x :: y :: l, lv, m, wI, him, hl, hE, _, _ => hE.zero.elim
  | g + 1, d, x :: y :: l, lv, m, wI, him, hl, hE, hL, hg => by
    have hh0 := halfL_le (L := x :: y :: l) (d := d) (on := false)
    have hh1 := halfL_le (L := x :: y :: l) (d := d) (on := true)
    rw [canon, Tr.root]
    obtain ⟨hE0, hE1⟩ := hE.halves
    exact c_rroot2 (a := (canon g (d + 1) (halfL (x :: y :: l) d false)).root) (b := (canon g (d + 1) (halfL (x :: y :: l) d true)).root) him hl (by simp) hL (by omega)
      (fun hi hl' => c_rroot (g := g) (d := d + 1) hi hl' hE0 (by omega) (by omega))
      (fun hi hl' => c_rroot (g := g) (d := d + 1) hi hl' hE1 (by omega) (by omega)) (length_root _) (length_root _)
end
end Go.Proofs.Ytkbmhhbclbgdpaa
