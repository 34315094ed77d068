/-
  Ways to where an index would be: the reference's Prove, and whether two are the same.
-/
import Derived.Test.YtkbmhhbclbgdpaaUg
namespace Go.Proofs.Ytkbmhhbclbgdpaa
open Go Go.RowKit K SH PT

/-- A way: what is beside it, and its end. -/
structure Prf where
  S : List By
  E : Int
  I : By
  V : By

def prC (sv : Value) (E : Int) (I V : By) : Array Value := (sv :: .int .i64 E :: (bs I ++ bs V)).toArray
def PrM (m : Mem) (v : Value) (p : Prf) : Prop := ∃ sv, v = .agg (prC sv p.E p.I p.V) ∧ DigM m sv p.S ∧ p.I.length = 32 ∧ p.V.length = 32

theorem PrM.mono {m m' : Mem} {v : Value} {p : Prf} (h : PrM m v p) (hm : ∀ k o, m k = some o → m' k = some o) : PrM m' v p := by
  obtain ⟨sv, h1, h2, h3, h4⟩ := h
  exact ⟨sv, h1, h2.mono hm, h3, h4⟩

section
variable {sv : Value} {E : Int} {I V : By} (hI : I.length = 32) (hV : V.length = 32)
include hI hV in
theorem size_prC : (prC sv E I V).size = 66 := by simp [prC, length_bs, hI, hV]
theorem prC_S : getV false 1 (prC sv E I V) 0 = some sv := rfl
theorem prC_E : getV false 1 (prC sv E I V) 1 = some (.int .i64 E) := rfl
include hI in
theorem prC_I : getV true 32 (prC sv E I V) 2 = some (arr I) :=
  getV_seg (a := [sv, .int .i64 E]) (b := bs I) (c := bs V) (by simp) rfl (by rw [length_bs, hI])
include hI hV in
theorem prC_V : getV true 32 (prC sv E I V) 34 = some (arr V) :=
  getV_seg (a := sv :: .int .i64 E :: bs I) (b := bs V) (c := []) (by simp) (by simp [length_bs, hI]) (by rw [length_bs, hV])
include hI in
theorem set_prI {J : By} (hJ : J.length = 32) : setSeg (prC sv E I V) 2 (bs J) = prC sv E J V :=
  setSeg_mid (a := [sv, .int .i64 E]) (b := bs I) (c := bs V) rfl (by simp [length_bs, hI, hJ])
include hI hV in
theorem set_prV {J : By} (hJ : J.length = 32) : setSeg (prC sv E I V) 34 (bs J) = prC sv E I J := by
  have h := setSeg_mid (a := sv :: .int .i64 E :: bs I) (b := bs V) (c := []) (l := bs J) (o := 34) (by simp [length_bs, hI]) (by simp [length_bs, hV, hJ])
  simpa [prC] using h
theorem set_prS {sv' : Value} : (prC sv E I V).setIfInBounds 0 sv' = prC sv' E I V := rfl
theorem set_prE {E' : Int} : (prC sv E I V).setIfInBounds 1 (.int .i64 E') = prC sv E' I V := rfl
theorem one_prC (hs : sv.oneCell' = true) : ∀ u ∈ (prC sv E I V).toList, u.oneCell' = true := by
  intro u hu
  simp only [prC, List.mem_cons, List.mem_append] at hu
  rcases hu with rfl | rfl | h | h
  · exact hs
  · rfl
  · exact one_bs _ u h
  · exact one_bs _ u h
end

theorem zero_prC : ([Value.slice none 0 0] ++ [Value.int .i64 0] ++ List.replicate 32 (Value.int .u8 0) ++ List.replicate 32 (Value.int .u8 0)).toArray = prC (.slice none 0 0) 0 z32 z32 := rfl

def prvS (x : By) : Nat → Nat → List (By × By) → List By
  | 0, _, _ => []
  | f + 1, d, L => if 1 < L.length then (canon f (d + 1) (halfL L d (!bitI x d))).root :: prvS x f (d + 1) (halfL L d (bitI x d)) else []
def prvE (x : By) : Nat → Nat → List (By × By) → List (By × By)
  | 0, _, L => L
  | f + 1, d, L => if 1 < L.length then prvE x f (d + 1) (halfL L d (bitI x d)) else L
def endL : List (By × By) → Int × By × By
  | [x] => (1, x.1, x.2)
  | _ => (0, z32, z32)
theorem endL_ne : ∀ {L : List (By × By)}, L.length ≠ 1 → endL L = (0, z32, z32)
  | [], _ => rfl
  | [_], h => absurd rfl h
  | _ :: _ :: _, _ => rfl
def prvL (x : By) (L : List (By × By)) : Prf := ⟨prvS x 256 0 L, (endL (prvE x 256 0 L)).1, (endL (prvE x 256 0 L)).2.1, (endL (prvE x 256 0 L)).2.2⟩

theorem length_prvS (x : By) : ∀ f d L, (prvS x f d L).length ≤ f
  | 0, _, _ => by simp [prvS]
  | f + 1, d, L => by
    rw [prvS]
    split
    · have := length_prvS x f (d + 1) (halfL L d (bitI x d)); simp; exact this
    · simp

theorem d32_prvS (x : By) : ∀ f d L, D32 (prvS x f d L)
  | 0, _, _ => by simp [prvS, D32]
  | f + 1, d, L => by
    rw [prvS]
    split
    · intro y hy
      rcases List.mem_cons.1 hy with rfl | hy
      · exact length_root _
      · exact d32_prvS x f (d + 1) _ y hy
    · simp [D32]

theorem Ends.go {f d : Nat} {L : List (By × By)} (h : Ends (f + 1) d L) (hL : 1 < L.length) : Ends f (d + 1) (halfL L d false) ∧ Ends f (d + 1) (halfL L d true) := by
  cases h with
  | nil => simp at hL
  | one => simp at hL
  | more h1 h2 => exact ⟨h1, h2⟩

theorem Ends.half {f d : Nat} {L : List (By × By)} (h : Ends (f + 1) d L) (hL : 1 < L.length) (b : Bool) : Ends f (d + 1) (halfL L d b) := by
  cases b
  · exact (h.go hL).1
  · exact (h.go hL).2

section
variable {m : Mem} {wI : World}

theorem c_rprove {lv : Value} {L : List (By × By)} {x : By} (him : Im m wI) (hl : LvM m lv L) (hx : x.length = 32) (hL : L.length ≤ 1099511627776) (hE : Ends 256 0 L) :
    Ret Try.prog 20 #[lv, arr x] wI fun v' w' => Out m wI w' fun m' => PrM m' v' (prvL x L) := by
  have st := St.start him
  obtain ⟨a1, c1, a2, c2, rfl, h1, h2⟩ := hl.open
  have hlS := length_prvS x 256 0 L
  have h32 := d32_prvS x 256 0 L
  obtain ⟨SS, hSS⟩ : ∃ SS, SS = prvS x 256 0 L := ⟨_, rfl⟩
  obtain ⟨LE, hLE⟩ : ∃ LE, LE = prvE x 256 0 L := ⟨_, rfl⟩
  have hgoal : prvL x L = ⟨SS, (endL LE).1, (endL LE).2.1, (endL LE).2.2⟩ := by rw [prvL, hSS, hLE]
  rw [← hSS] at hlS h32
  refine ret_of Try.call20 Try.func20 rfl Try.ntmps20 Try.results20 rfl ?_
  refine wc_seq ?_
  refine wc_region ?_
  refine wl_box (v := .agg #[.slice a1 L.length c1, .slice a2 L.length c2]) rfl st rfl ?_
  intro b2 w st
  refine wl_box (v := arr x) rfl st rfl ?_
  intro b3 w st
  refine wl_alloc TF.z41 st rfl ?_
  intro b4 w st
  refine wl_nil ?_
  refine then_go ?_
  refine wc_seq ?_
  refine wc_region ?_
  refine wl_val (v_build (c' := prC (.slice none 0 0) 0 z32 z32) [] TF.z41 TF.p41 rfl rfl) rfl ?_
  refine wl_alloc TF.z41 st rfl ?_
  intro b5 w st
  refine wl_storeW (cs := prC (.slice none 0 0) 0 z32 z32) 0 st rfl TF.t41 rfl rfl rfl rfl (one_prC rfl) ?_
  intro w st
  refine wl_nil ?_
  refine then_go ?_
  refine wc_seq ?_
  refine wc_seq ?_
  refine wc_region ?_
  refine wl_val (v_assign' (by conv => (lhs; whnf))) rfl ?_
  refine wl_nil ?_
  refine then_go ?_
  refine wc_block ?_
  have st := st.nilDig
  refine wc_loop (S := Nat) (fun q r w' => ∃ (m2 : Mem) (i : Nat) (L' : List (By × By)) (S : List By) (sv v1 v2 : Value), q + i = 256 ∧ r 2 = .pointer (some ⟨b2, 0, none⟩) ∧ r 3 = .pointer (some ⟨b3, 0, none⟩) ∧ r 4 = .pointer (some ⟨b4, 0, none⟩) ∧ r 5 = .pointer (some ⟨b5, 0, none⟩) ∧ r 6 = .int .i64 i ∧ S ++ prvS x q i L' = SS ∧ prvE x q i L' = LE ∧ Ends q i L' ∧ L'.length ≤ 1099511627776 ∧ LvM m2 (.agg #[v1, v2]) L' ∧
    St m m2 [] wI w' [digE sv S, K.blk b5 (prC sv 0 z32 z32) 41, K.blk b4 (prC (.slice none 0 0) 0 z32 z32) 41, K.blk b3 (arr x).cells 24, K.blk b2 #[v1, v2] 30]) id 256 ⟨m, 0, L, [], _, _, _, by omega, rfl, rfl, rfl, rfl, rfl, hSS.symm, hLE.symm, hE, hL, hl, st⟩ ?_
  rintro q r w2 ⟨m2, i, L', S, sv, v1, v2, hqi, g2, g3, g4, g5, g6, hS, hLE', hE', hL', hl', st⟩
  refine wc_o 2 g2 (wc_o 3 g3 (wc_o 4 g4 (wc_o 5 g5 (wc_o 6 g6 ?_))))
  have hSl : S.length ≤ 256 := by have := congrArg List.length hS; simp at this; omega
  have hl0 := hl'
  obtain ⟨a1, c1, a2, c2, he, h1, h2⟩ := hl'.open
  simp only [Value.agg.injEq, Array.mk.injEq, List.cons.injEq, and_true] at he
  obtain ⟨rfl, rfl⟩ := he
  refine wc_seq ?_
  refine wc_seq ?_
  refine wc_region ?_
  refine wl_val (v_move' (by conv => (lhs; whnf))) rfl ?_
  refine wl_val (v_lss rfl rfl) rfl ?_
  refine wl_val (v_move' (by conv => (lhs; whnf))) rfl ?_
  by_cases hg2 : (i : Int) < 256
  · rw [show decide ((i : Int) < 256) = true from decide_eq_true hg2]
    refine wl_on rfl rfl ?_
    refine wl_val (v_fa TF.f30_0 rfl) rfl ?_
    refine wl_on rfl rfl ?_
    refine wl_val (v_load rfl (st.reads 4 rfl TF.t22 rfl)) rfl ?_
    refine wl_on rfl rfl ?_
    refine wl_val (v_len_s Try.underlying22 rfl) rfl ?_
    refine wl_on rfl rfl ?_
    refine wl_val (v_gtr rfl rfl) rfl ?_
    refine wl_val (v_pick rfl) rfl ?_
    refine wl_nil ?_
    refine then_go ?_
    refine wc_if rfl (fun h16 => ?_) (fun h16 => ?_)
    · refine wc_skip ?_
      refine then_go ?_
      refine wc_seq ?_
      refine wc_block ?_
      refine wc_seq ?_
      obtain ⟨q', rfl⟩ : ∃ q', q = q' + 1 := ⟨q - 1, by omega⟩
      have h1L : 1 < L'.length := by omega
      rw [prvS, if_pos h1L] at hS
      rw [prvE, if_pos h1L] at hLE'
      refine wc_region ?_
      refine wl_val (v_load rfl (st.reads 3 rfl TF.t24 (getV_all (by rw [size_arr, hx])))) rfl ?_
      refine wl_val (v_move' (by conv => (lhs; whnf))) rfl ?_
      refine wl_call rfl (c_rbit st.im hx) rfl ?_
      rintro v21 w ⟨t21, rfl⟩
      have st := st.pure t21
      refine wl_val (v_assign' (by conv => (lhs; whnf))) rfl ?_
      refine wl_nil ?_
      refine then_go ?_
      refine wc_seq ?_
      refine wc_draw TF.mixed ?_
      have st := st.pure (touch_drew _)
      refine fl_val 0 rfl (fun _ => (v_fa TF.f41_0 rfl)) rfl (by kernel_rfl) ?_
      refine fl_ld 1 rfl (v_load rfl (by first | exact st.reads 1 rfl TF.t22 prC_S | exact st.reads 2 rfl TF.t22 prC_S)) (by kernel_rfl) ?_
      refine fl_ld 2 rfl (v_load rfl (by first | exact st.reads (v := .agg #[.slice a1 L'.length c1, .slice a2 L'.length c2]) 4 rfl TF.t30 (getV_all rfl) | exact st.reads (v := .agg #[.slice a1 L'.length c1, .slice a2 L'.length c2]) 5 rfl TF.t30 (getV_all rfl))) (by kernel_rfl) ?_
      refine fl_val 3 rfl (fun _ => (v_move' (by conv => (lhs; whnf)))) rfl (by kernel_rfl) ?_
      refine fl_val 4 rfl (fun _ => (v_move' (by conv => (lhs; whnf)))) rfl (by kernel_rfl) ?_
      refine fl_val 5 rfl (fun _ => (v_not rfl)) rfl (by kernel_rfl) ?_
      refine fl_val 7 rfl (fun _ => (v_move' (by conv => (lhs; whnf)))) rfl (by kernel_rfl) ?_
      refine fl_val 8 rfl (fun _ => (v_add' rfl rfl rfl (by first | omega | (dsimp only at *; omega)) (by first | omega | (dsimp only at *; omega)))) rfl (by kernel_rfl) ?_
      refine fl_eff1 6 [8, 7, 4, 0] [1] (by kernel_rfl) ⟨obl_ld rfl rfl rfl (v_load rfl (by first | exact st.reads (v := .agg #[.slice a1 L'.length c1, .slice a2 L'.length c2]) 4 rfl TF.t30 (getV_all rfl) | exact st.reads (v := .agg #[.slice a1 L'.length c1, .slice a2 L'.length c2]) 5 rfl TF.t30 (getV_all rfl))), obl_ld rfl rfl rfl (v_load rfl (by first | exact st.reads 1 rfl TF.t22 prC_S | exact st.reads 2 rfl TF.t22 prC_S)), trivial⟩ rfl ?_
      refine wl_call rfl (c_half (on := !bitI x i) st.im hl0 hL') rfl ?_
      rintro v28 w ⟨t28, m3, hg3, hi3, hq3⟩
      have st := st.grown hg3 t28 hi3
      have hl0 := hl0.mono hg3.le
      have hh3 := halfL_le (L := L') (d := i) (on := !bitI x i)
      refine wl_nil ⟨rfl, ?_⟩
      refine fl_eff1 9 [7, 4, 0] [1] (by kernel_rfl) ⟨obl_ld rfl rfl rfl (v_load rfl (by first | exact st.reads 1 rfl TF.t22 prC_S | exact st.reads 2 rfl TF.t22 prC_S)), trivial⟩ rfl ?_
      refine wl_call rfl (c_rroot (g := q') (d := i + 1) st.im hq3 (hE'.half h1L _) (by omega) (by omega)) rfl ?_
      rintro v31 w ⟨t31, rfl⟩
      have st := st.pure t31
      refine wl_nil ⟨rfl, ?_⟩
      refine fl_eff1 10 [7, 4, 0] [1] (by kernel_rfl) ⟨obl_ld rfl rfl rfl (v_load rfl (by first | exact st.reads 1 rfl TF.t22 prC_S | exact st.reads 2 rfl TF.t22 prC_S)), trivial⟩ rfl ?_
      refine wl_digOne _ (length_root _) rfl st rfl ?_
      intro b33 w st
      refine wl_nil ⟨rfl, ?_⟩
      refine fl_eff1 11 [7, 4, 0] [] (by kernel_rfl) ⟨obl_ld rfl rfl rfl (v_load rfl (by first | exact st.reads 1 rfl TF.t22 prC_S | exact st.reads 2 rfl TF.t22 prC_S)), trivial⟩ rfl ?_
      refine wl_digApp 0 st rfl (length_root _) rfl rfl (by omega) rfl ?_
      intro sv' w st hsv
      refine wl_nil ⟨rfl, ?_⟩
      refine fl_val 12 rfl (fun _ => (v_fa TF.f41_0 rfl)) rfl (by kernel_rfl) ?_
      refine fl_eff1 13 [] [] (by kernel_rfl) trivial rfl ?_
      refine wl_store1 1 st rfl TF.t22 rfl (by conv => (lhs; whnf)) hsv (by first | exact lt_ok rfl | decide | simp) ?_
      intro w st
      refine wl_nil ⟨rfl, ?_⟩
      refine fl_nil (by kernel_rfl) trivial ?_
      refine then_go ?_
      refine wc_region ?_
      refine wl_val (v_load rfl (st.reads (v := .agg #[.slice a1 L'.length c1, .slice a2 L'.length c2]) 4 rfl TF.t30 (getV_all rfl))) rfl ?_
      refine wl_val (v_move' (by conv => (lhs; whnf))) rfl ?_
      refine wl_val (v_move' (by conv => (lhs; whnf))) rfl ?_
      refine wl_call rfl (c_half (on := bitI x i) st.im hl0 hL') rfl ?_
      rintro v38 w ⟨t38, m4, hg4, hi4, hq4⟩
      have st := st.grown hg4 t38 hi4
      have hh4 := halfL_le (L := L') (d := i) (on := bitI x i)
      obtain ⟨w1, w2', rfl, k1, k2⟩ := hq4
      refine wl_storeW (cs := #[w1, w2']) 4 st rfl TF.t30 rfl rfl rfl rfl ?_ ?_
      · intro u hu
        simp at hu
        obtain ⟨x1, y1, rfl⟩ := k1.sl
        obtain ⟨x2, y2, rfl⟩ := k2.sl
        rcases hu with rfl | rfl <;> rfl
      intro w st
      refine wl_nil ?_
      refine block_go (then_go ?_)
      refine wc_region ?_
      refine wl_val (v_move' (by conv => (lhs; whnf))) rfl ?_
      refine wl_val (v_add' rfl rfl rfl (by first | omega | (dsimp only at *; omega)) (by first | omega | (dsimp only at *; omega))) rfl ?_
      refine wl_val (v_assign' (by conv => (lhs; whnf))) rfl ?_
      refine wl_nil ?_
      refine then_go ?_
      exact ⟨q', by simp, m4, i + 1, halfL L' i (bitI x i), S ++ [(canon q' (i + 1) (halfL L' i (!bitI x i))).root], sv', w1, w2', by omega, rfl, rfl, rfl, rfl, rfl, by rw [List.append_assoc]; exact hS, hLE', hE'.half h1L _, by omega, ⟨_, _, rfl, k1, k2⟩, st⟩
    · refine wc_exit (then_exit (then_exit (block_hit ?_)))
      refine then_go ?_
      refine wc_seq ?_
      refine wc_seq ?_
      have hE0 : L'.length ≤ 1 ∨ q = 0 := by omega
      have hSf : S = SS := by
        cases q with
        | zero => rw [prvS, List.append_nil] at hS; exact hS
        | succ q => rw [prvS, if_neg (by omega), List.append_nil] at hS; exact hS
      have hLf : L' = LE := by
        cases q with
        | zero => rw [prvE] at hLE'; exact hLE'
        | succ q => rw [prvE, if_neg (by omega)] at hLE'; exact hLE'
      subst hSf
      subst hLf
      refine wc_region ?_
      refine wl_val (v_fa TF.f30_0 rfl) rfl ?_
      refine wl_val (v_load rfl (st.reads 4 rfl TF.t22 rfl)) rfl ?_
      refine wl_val (v_len_s Try.underlying22 rfl) rfl ?_
      refine wl_val (v_eql rfl rfl) rfl ?_
      refine wl_nil ?_
      refine then_go ?_
      refine wc_if rfl (fun h42 => ?_) (fun h42 => ?_)
      · refine wc_seq ?_
        obtain ⟨y, rfl⟩ : ∃ y, L' = [y] := List.length_eq_one_iff.1 (by omega)
        have hy := hl0.d32 y (by simp)
        obtain ⟨ba, oa, hba⟩ := h1.ptr (by simp)
        obtain ⟨bv, ov, hbv⟩ := h2.ptr (by simp)
        subst hba
        subst hbv
        refine wc_region ?_
        refine wl_val (v_fa TF.f41_1 rfl) rfl ?_
        refine wl_store1 1 st rfl TF.t3 rfl (by conv => (lhs; whnf)) rfl (by first | exact lt_ok rfl | decide | simp) ?_
        intro w st
        rw [set_prE] at st
        refine wl_nil ?_
        refine then_go ?_
        refine wc_seq ?_
        refine wc_region ?_
        refine wl_val (v_fa TF.f30_0 rfl) rfl ?_
        refine wl_val (v_load rfl (st.reads 4 rfl TF.t22 rfl)) rfl ?_
        refine wl_val (v_ias 0 Try.underlying22 TF.t24 rfl rfl (by first | rfl | omega) (by simp)) rfl ?_
        refine wl_val (v_load rfl (h1.rd (i := 0) rfl (by simp) rfl st.im)) rfl ?_
        refine wl_val (v_fa TF.f41_2 rfl) rfl ?_
        refine wl_store (v := arr y.1) 1 st rfl TF.t24 rfl rfl (by rw [size_arr, hy.1]) (fun u hu => one_bs _ u (by simpa [arr, Value.cells] using hu)) (by rw [size_prC rfl rfl]; decide) ?_
        intro w st
        rw [show (arr y.1).cells.toList = bs y.1 by simp [arr, Value.cells], set_prI rfl hy.1] at st
        refine wl_nil ?_
        refine then_go ?_
        refine wc_region ?_
        refine wl_val (v_fa TF.f30_1 rfl) rfl ?_
        refine wl_val (v_load rfl (st.reads 4 rfl TF.t22 rfl)) rfl ?_
        refine wl_val (v_ias 0 Try.underlying22 TF.t24 rfl rfl (by first | rfl | omega) (by simp)) rfl ?_
        refine wl_val (v_load rfl (h2.rd (i := 0) rfl (by simp) rfl st.im)) rfl ?_
        refine wl_val (v_fa TF.f41_3 rfl) rfl ?_
        refine wl_store (v := arr y.2) 1 st rfl TF.t24 rfl rfl (by rw [size_arr, hy.2]) (fun u hu => one_bs _ u (by simpa [arr, Value.cells] using hu)) (by rw [size_prC hy.1 rfl]; decide) ?_
        intro w st
        rw [show (arr y.2).cells.toList = bs y.2 by simp [arr, Value.cells], set_prV hy.1 rfl hy.2] at st
        refine wl_nil ?_
        refine then_go ?_
        refine wc_seq ?_
        refine wc_region ?_
        refine wl_val (v_load rfl (by first | exact st.reads (v := .agg (prC sv 1 y.1 y.2)) 1 rfl TF.t41 (getV_all (size_prC hy.1 hy.2)) | exact st.reads (v := .agg (prC sv 0 z32 z32)) 1 rfl TF.t41 (getV_all rfl))) rfl ?_
        first
          | refine wl_storeW (cs := prC sv 1 y.1 y.2) 2 st rfl TF.t41 rfl rfl (size_prC hy.1 hy.2) rfl (one_prC (row_one (st.at (i := 0) rfl))) ?_
          | refine wl_storeW (cs := prC sv 0 z32 z32) 2 st rfl TF.t41 rfl rfl rfl rfl (one_prC (row_one (st.at (i := 0) rfl))) ?_
        intro w st
        refine wl_nil ?_
        refine then_go ?_
        refine wc_ret ?_
        first
          | (have hrd := st.reads (v := .agg (prC sv 1 y.1 y.2)) 2 rfl TF.t41 (getV_all (size_prC hy.1 hy.2))
             obtain ⟨m1, hg1, hq1, st⟩ := st.keepDig (i := 0) rfl h32
             refine ret1c rfl hrd ((st.keepOnly (l := []) (List.nil_sublist _)).out ?_)
             rw [hgoal]
             exact ⟨sv, rfl, hq1, hy.1, hy.2⟩)
          | (have hrd := st.reads (v := .agg (prC sv 0 z32 z32)) 2 rfl TF.t41 (getV_all rfl)
             obtain ⟨m1, hg1, hq1, st⟩ := st.keepDig (i := 0) rfl h32
             refine ret1c rfl hrd ((st.keepOnly (l := []) (List.nil_sublist _)).out ?_)
             rw [hgoal, endL_ne (by omega)]
             exact ⟨sv, rfl, hq1, rfl, rfl⟩)
      · refine wc_skip ?_
        refine then_go ?_
        refine wc_seq ?_
        refine wc_region ?_
        refine wl_val (v_load rfl (by first | exact st.reads (v := .agg (prC sv 1 y.1 y.2)) 1 rfl TF.t41 (getV_all (size_prC hy.1 hy.2)) | exact st.reads (v := .agg (prC sv 0 z32 z32)) 1 rfl TF.t41 (getV_all rfl))) rfl ?_
        first
          | refine wl_storeW (cs := prC sv 1 y.1 y.2) 2 st rfl TF.t41 rfl rfl (size_prC hy.1 hy.2) rfl (one_prC (row_one (st.at (i := 0) rfl))) ?_
          | refine wl_storeW (cs := prC sv 0 z32 z32) 2 st rfl TF.t41 rfl rfl rfl rfl (one_prC (row_one (st.at (i := 0) rfl))) ?_
        intro w st
        refine wl_nil ?_
        refine then_go ?_
        refine wc_ret ?_
        first
          | (have hrd := st.reads (v := .agg (prC sv 1 y.1 y.2)) 2 rfl TF.t41 (getV_all (size_prC hy.1 hy.2))
             obtain ⟨m1, hg1, hq1, st⟩ := st.keepDig (i := 0) rfl h32
             refine ret1c rfl hrd ((st.keepOnly (l := []) (List.nil_sublist _)).out ?_)
             rw [hgoal]
             exact ⟨sv, rfl, hq1, hy.1, hy.2⟩)
          | (have hrd := st.reads (v := .agg (prC sv 0 z32 z32)) 2 rfl TF.t41 (getV_all rfl)
             obtain ⟨m1, hg1, hq1, st⟩ := st.keepDig (i := 0) rfl h32
             refine ret1c rfl hrd ((st.keepOnly (l := []) (List.nil_sublist _)).out ?_)
             rw [hgoal, endL_ne (by omega)]
             exact ⟨sv, rfl, hq1, rfl, rfl⟩)
  · rw [show decide ((i : Int) < 256) = false from decide_eq_false hg2]
    refine wl_off rfl rfl rfl rfl ?_
    refine wl_off rfl rfl rfl rfl ?_
    refine wl_off rfl rfl rfl rfl ?_
    refine wl_off rfl rfl rfl rfl ?_
    refine wl_val (v_pick rfl) rfl ?_
    refine wl_nil ?_
    refine then_go ?_
    refine wc_false rfl ?_
    refine wc_exit (then_exit (then_exit (block_hit ?_)))
    refine then_go ?_
    refine wc_seq ?_
    refine wc_seq ?_
    have hE0 : L'.length ≤ 1 ∨ q = 0 := by omega
    have hSf : S = SS := by
      cases q with
      | zero => rw [prvS, List.append_nil] at hS; exact hS
      | succ q => rw [prvS, if_neg (by omega), List.append_nil] at hS; exact hS
    have hLf : L' = LE := by
      cases q with
      | zero => rw [prvE] at hLE'; exact hLE'
      | succ q => rw [prvE, if_neg (by omega)] at hLE'; exact hLE'
    subst hSf
    subst hLf
    refine wc_region ?_
    refine wl_val (v_fa TF.f30_0 rfl) rfl ?_
    refine wl_val (v_load rfl (st.reads 4 rfl TF.t22 rfl)) rfl ?_
    refine wl_val (v_len_s Try.underlying22 rfl) rfl ?_
    refine wl_val (v_eql rfl rfl) rfl ?_
    refine wl_nil ?_
    refine then_go ?_
    refine wc_if rfl (fun h42 => ?_) (fun h42 => ?_)
    · refine wc_seq ?_
      obtain ⟨y, rfl⟩ : ∃ y, L' = [y] := List.length_eq_one_iff.1 (by omega)
      have hy := hl0.d32 y (by simp)
      obtain ⟨ba, oa, hba⟩ := h1.ptr (by simp)
      obtain ⟨bv, ov, hbv⟩ := h2.ptr (by simp)
      subst hba
      subst hbv
      refine wc_region ?_
      refine wl_val (v_fa TF.f41_1 rfl) rfl ?_
      refine wl_store1 1 st rfl TF.t3 rfl (by conv => (lhs; whnf)) rfl (by first | exact lt_ok rfl | decide | simp) ?_
      intro w st
      rw [set_prE] at st
      refine wl_nil ?_
      refine then_go ?_
      refine wc_seq ?_
      refine wc_region ?_
      refine wl_val (v_fa TF.f30_0 rfl) rfl ?_
      refine wl_val (v_load rfl (st.reads 4 rfl TF.t22 rfl)) rfl ?_
      refine wl_val (v_ias 0 Try.underlying22 TF.t24 rfl rfl (by first | rfl | omega) (by simp)) rfl ?_
      refine wl_val (v_load rfl (h1.rd (i := 0) rfl (by simp) rfl st.im)) rfl ?_
      refine wl_val (v_fa TF.f41_2 rfl) rfl ?_
      refine wl_store (v := arr y.1) 1 st rfl TF.t24 rfl rfl (by rw [size_arr, hy.1]) (fun u hu => one_bs _ u (by simpa [arr, Value.cells] using hu)) (by rw [size_prC rfl rfl]; decide) ?_
      intro w st
      rw [show (arr y.1).cells.toList = bs y.1 by simp [arr, Value.cells], set_prI rfl hy.1] at st
      refine wl_nil ?_
      refine then_go ?_
      refine wc_region ?_
      refine wl_val (v_fa TF.f30_1 rfl) rfl ?_
      refine wl_val (v_load rfl (st.reads 4 rfl TF.t22 rfl)) rfl ?_
      refine wl_val (v_ias 0 Try.underlying22 TF.t24 rfl rfl (by first | rfl | omega) (by simp)) rfl ?_
      refine wl_val (v_load rfl (h2.rd (i := 0) rfl (by simp) rfl st.im)) rfl ?_
      refine wl_val (v_fa TF.f41_3 rfl) rfl ?_
      refine wl_store (v := arr y.2) 1 st rfl TF.t24 rfl rfl (by rw [size_arr, hy.2]) (fun u hu => one_bs _ u (by simpa [arr, Value.cells] using hu)) (by rw [size_prC hy.1 rfl]; decide) ?_
      intro w st
      rw [show (arr y.2).cells.toList = bs y.2 by simp [arr, Value.cells], set_prV hy.1 rfl hy.2] at st
      refine wl_nil ?_
      refine then_go ?_
      refine wc_seq ?_
      refine wc_region ?_
      refine wl_val (v_load rfl (by first | exact st.reads (v := .agg (prC sv 1 y.1 y.2)) 1 rfl TF.t41 (getV_all (size_prC hy.1 hy.2)) | exact st.reads (v := .agg (prC sv 0 z32 z32)) 1 rfl TF.t41 (getV_all rfl))) rfl ?_
      first
        | refine wl_storeW (cs := prC sv 1 y.1 y.2) 2 st rfl TF.t41 rfl rfl (size_prC hy.1 hy.2) rfl (one_prC (row_one (st.at (i := 0) rfl))) ?_
        | refine wl_storeW (cs := prC sv 0 z32 z32) 2 st rfl TF.t41 rfl rfl rfl rfl (one_prC (row_one (st.at (i := 0) rfl))) ?_
      intro w st
      refine wl_nil ?_
      refine then_go ?_
      refine wc_ret ?_
      first
        | (have hrd := st.reads (v := .agg (prC sv 1 y.1 y.2)) 2 rfl TF.t41 (getV_all (size_prC hy.1 hy.2))
           obtain ⟨m1, hg1, hq1, st⟩ := st.keepDig (i := 0) rfl h32
           refine ret1c rfl hrd ((st.keepOnly (l := []) (List.nil_sublist _)).out ?_)
           rw [hgoal]
           exact ⟨sv, rfl, hq1, hy.1, hy.2⟩)
        | (have hrd := st.reads (v := .agg (prC sv 0 z32 z32)) 2 rfl TF.t41 (getV_all rfl)
           obtain ⟨m1, hg1, hq1, st⟩ := st.keepDig (i := 0) rfl h32
           refine ret1c rfl hrd ((st.keepOnly (l := []) (List.nil_sublist _)).out ?_)
           rw [hgoal, endL_ne (by omega)]
           exact ⟨sv, rfl, hq1, rfl, rfl⟩)
    · refine wc_skip ?_
      refine then_go ?_
      refine wc_seq ?_
      refine wc_region ?_
      refine wl_val (v_load rfl (by first | exact st.reads (v := .agg (prC sv 1 y.1 y.2)) 1 rfl TF.t41 (getV_all (size_prC hy.1 hy.2)) | exact st.reads (v := .agg (prC sv 0 z32 z32)) 1 rfl TF.t41 (getV_all rfl))) rfl ?_
      first
        | refine wl_storeW (cs := prC sv 1 y.1 y.2) 2 st rfl TF.t41 rfl rfl (size_prC hy.1 hy.2) rfl (one_prC (row_one (st.at (i := 0) rfl))) ?_
        | refine wl_storeW (cs := prC sv 0 z32 z32) 2 st rfl TF.t41 rfl rfl rfl rfl (one_prC (row_one (st.at (i := 0) rfl))) ?_
      intro w st
      refine wl_nil ?_
      refine then_go ?_
      refine wc_ret ?_
      first
        | (have hrd := st.reads (v := .agg (prC sv 1 y.1 y.2)) 2 rfl TF.t41 (getV_all (size_prC hy.1 hy.2))
           obtain ⟨m1, hg1, hq1, st⟩ := st.keepDig (i := 0) rfl h32
           refine ret1c rfl hrd ((st.keepOnly (l := []) (List.nil_sublist _)).out ?_)
           rw [hgoal]
           exact ⟨sv, rfl, hq1, hy.1, hy.2⟩)
        | (have hrd := st.reads (v := .agg (prC sv 0 z32 z32)) 2 rfl TF.t41 (getV_all rfl)
           obtain ⟨m1, hg1, hq1, st⟩ := st.keepDig (i := 0) rfl h32
           refine ret1c rfl hrd ((st.keepOnly (l := []) (List.nil_sublist _)).out ?_)
           rw [hgoal, endL_ne (by omega)]
           exact ⟨sv, rfl, hq1, rfl, rfl⟩)
end
end Go.Proofs.Ytkbmhhbclbgdpaa
