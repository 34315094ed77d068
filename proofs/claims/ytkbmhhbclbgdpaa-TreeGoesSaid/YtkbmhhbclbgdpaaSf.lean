/-
  SHA-256: the reference's words and block.
-/
import Derived.Test.YtkbmhhbclbgdpaaSe
namespace Go.Proofs.Ytkbmhhbclbgdpaa
open Go Go.RowKit K SH

namespace SH
def acc (b : List UInt8) (s : Nat) : Nat → UInt32
  | 0 => 0
  | k + 1 => acc b s k * 256 + UInt32.ofNat (b.getD (4 * s + k) 0).toNat

theorem toNat_shl {x n : Nat} (h : x * 2 ^ n < 4294967296) (hx : x < 4294967296) : (shl32 (UInt32.ofNat x) n).toNat = x * 2 ^ n := by
  unfold shl32
  rw [UInt32.toNat_ofNat', UInt32.toNat_ofNat', Nat.mod_eq_of_lt hx, Nat.mod_eq_of_lt h]

theorem acc4 (b : List UInt8) (s : Nat) : acc b s 4 = wordAt b s := by
  have h0 := (b.getD (4 * s) 0).toNat_lt
  have h1 := (b.getD (4 * s + 1) 0).toNat_lt
  have h2 := (b.getD (4 * s + 2) 0).toNat_lt
  have h3 := (b.getD (4 * s + 3) 0).toNat_lt
  apply UInt32.toNat_inj.mp
  unfold wordAt word4
  simp only [acc, Nat.add_zero]
  generalize (b.getD (4 * s) 0).toNat = x0 at *
  generalize (b.getD (4 * s + 1) 0).toNat = x1 at *
  generalize (b.getD (4 * s + 2) 0).toNat = x2 at *
  generalize (b.getD (4 * s + 3) 0).toNat = x3 at *
  have e3 : (UInt32.ofNat x3).toNat = x3 := by rw [UInt32.toNat_ofNat']; omega
  have e2 : (UInt32.ofNat x2).toNat = x2 := by rw [UInt32.toNat_ofNat']; omega
  have e1 : (UInt32.ofNat x1).toNat = x1 := by rw [UInt32.toNat_ofNat']; omega
  have e0 : (UInt32.ofNat x0).toNat = x0 := by rw [UInt32.toNat_ofNat']; omega
  rw [UInt32.toNat_or, UInt32.toNat_or, UInt32.toNat_or, toNat_shl (by omega) (by omega), toNat_shl (by omega) (by omega), toNat_shl (by omega) (by omega), e3]
  have o1 : x0 * 2 ^ 24 ||| x1 * 2 ^ 16 = 2 ^ 16 * (x0 * 256 + x1) := by
    rw [Nat.mul_comm x0, ← Nat.two_pow_add_eq_or_of_lt (by omega)]; omega
  have o2 : 2 ^ 16 * (x0 * 256 + x1) ||| x2 * 2 ^ 8 = 2 ^ 8 * ((x0 * 256 + x1) * 256 + x2) := by
    rw [← Nat.two_pow_add_eq_or_of_lt (by omega)]; omega
  have o3 : 2 ^ 8 * ((x0 * 256 + x1) * 256 + x2) ||| x3 = ((x0 * 256 + x1) * 256 + x2) * 256 + x3 := by
    rw [← Nat.two_pow_add_eq_or_of_lt (by omega)]; omega
  rw [o1, o2, o3]
  simp only [UInt32.toNat_add, UInt32.toNat_mul, e0, e1, e2, e3]
  have z : (0 : UInt32).toNat = 0 := rfl
  have c : (256 : UInt32).toNat = 256 := rfl
  rw [z, c]
  omega

/-- The words when so many bytes have come. -/
def wst (b : List UInt8) (i : Nat) : List UInt32 := (List.range 64).map fun s => acc b s (min 4 (i - 4 * s))

theorem length_wst (b : List UInt8) (i : Nat) : (wst b i).length = 64 := by simp [wst]

theorem wst_at (b : List UInt8) (i s : Nat) (hs : s < 64) : (wst b i).getD s 0 = acc b s (min 4 (i - 4 * s)) := by simp [wst, List.getD, hs]

theorem wst_succ (b : List UInt8) (i : Nat) (hi : i < 64) : (wst b i).set (i / 4) ((wst b i).getD (i / 4) 0 * 256 + UInt32.ofNat (b.getD i 0).toNat) = wst b (i + 1) := by
  apply List.ext_getElem
  · simp [length_wst]
  · intro s h1 h2
    have hs : s < 64 := by simpa [length_wst] using h2
    rw [List.getElem_set]
    split
    · rename_i he
      subst he
      rw [wst_at b i (i / 4) (by omega)]
      simp only [wst, List.getElem_map, List.getElem_range]
      rw [show min 4 (i - 4 * (i / 4)) = i % 4 by omega, show min 4 (i + 1 - 4 * (i / 4)) = i % 4 + 1 by omega, acc, show 4 * (i / 4) + i % 4 = i by omega]
    · rename_i he
      simp only [wst, List.getElem_map, List.getElem_range]
      congr 1
      omega

theorem wst_end (b : List UInt8) : (ws (wst b 64)).toArray = (ws ((List.range 16).map (wordAt b)) ++ List.replicate (64 - ((List.range 16).map (wordAt b)).length) (u32 0)).toArray := by
  congr 1
  have e : wst b 64 = (List.range 16).map (wordAt b) ++ List.replicate 48 0 := by
    apply List.ext_getElem
    · simp [length_wst]
    · intro s h1 h2
      have hs : s < 64 := by simpa [length_wst] using h1
      simp only [wst, List.getElem_map, List.getElem_range]
      by_cases h : s < 16
      · rw [List.getElem_append_left (by simpa using h)]
        simp only [List.getElem_map, List.getElem_range]
        rw [show min 4 (64 - 4 * s) = 4 by omega, acc4]
      · rw [List.getElem_append_right (by simpa using h)]
        rw [show min 4 (64 - 4 * s) = 0 by omega, List.getElem_replicate]
        rfl
  rw [e]
  simp [ws]
end SH

section
variable {m : Mem} {wI : World}

theorem c_words {bv : Value} {blk : List UInt8} (him : Im m wI) (hb : SlM m bv 1 64 (bs blk)) (hl : blk.length = 64) :
    Ret Try.prog 64 #[bv] wI fun v w' => Tch wI w' [] [] ∧ v = arr32 (sched blk) := by
  have st := St.start him
  obtain ⟨bb, bo, bc, rfl, _⟩ := hb.ptr1 (by omega) (by omega)
  refine ret_of Try.call64 Try.func64 rfl Try.ntmps64 Try.results64 rfl ?_
  refine wc_seq ?_
  refine wc_region ?_
  refine wl_alloc TF.z89 st rfl ?_
  intro b2 w st
  refine wl_nil ?_
  refine then_go ?_
  refine wc_seq ?_
  refine wc_region ?_
  refine wl_alloc TF.z89 st rfl ?_
  intro b3 w st
  refine wl_nil ?_
  refine then_go ?_
  refine wc_seq ?_
  refine wc_seq ?_
  refine wc_region ?_
  refine wl_val (v_assign' (by conv => (lhs; whnf))) rfl ?_
  refine wl_nil ?_
  refine then_go ?_
  refine wc_block ?_
  refine wc_loop (S := Nat) (fun q r w' => ∃ j, q + j = 64 ∧ r 0 = .slice (some ⟨bb, bo, none⟩) 64 bc ∧ r 2 = .pointer (some ⟨b2, 0, none⟩) ∧ r 3 = .pointer (some ⟨b3, 0, none⟩) ∧ r 4 = .int .i64 j ∧
    St m m [] wI w' [K.blk b3 (ws (wst blk j)).toArray 89, K.blk b2 (Array.replicate 64 (u32 0)) 89]) id 64 ⟨0, rfl, rfl, rfl, rfl, rfl, ?_⟩ ?_
  · have e : (ws (wst blk 0)).toArray = Array.replicate 64 (u32 0) := by
      apply Array.toList_inj.mp
      simp [ws, wst, acc]
      rfl
    rw [e]
    exact st
  rintro q r w2 ⟨j, hqj, h0, h2, h3, h4, st⟩
  refine wc_o 0 h0 (wc_o 2 h2 (wc_o 3 h3 (wc_o 4 h4 ?_)))
  refine wc_seq ?_
  refine wc_seq ?_
  refine wc_region ?_
  refine wl_val (v_move' (by conv => (lhs; whnf))) rfl ?_
  refine wl_val (v_lss rfl rfl) rfl ?_
  refine wl_nil ?_
  refine then_go ?_
  refine wc_if rfl (fun h9 => ?_) (fun h9 => ?_)
  · refine wc_skip ?_
    refine then_go ?_
    refine wc_seq ?_
    refine wc_block ?_
    have hj : j < 64 := by omega
    have hgd : blk.getD j 0 = blk[j] := by simp [List.getD, hl, hj]
    refine wc_draw TF.mixed ?_
    have st := st.pure (touch_drew _)
    refine fl_val 0 rfl (fun _ => (v_move' (by conv => (lhs; whnf)))) rfl (by kernel_rfl) ?_
    refine fl_val 1 rfl (fun _ => (v_quo' (c := ((j / 4 : Nat) : Int)) rfl rfl (by omega) (by omega) (by omega) (by omega))) rfl (by kernel_rfl) ?_
    refine fl_val 2 rfl (fun _ => (v_move' (by conv => (lhs; whnf)))) rfl (by kernel_rfl) ?_
    refine fl_val 3 rfl (fun _ => (v_quo' (c := ((j / 4 : Nat) : Int)) rfl rfl (by omega) (by omega) (by omega) (by omega))) rfl (by kernel_rfl) ?_
    refine fl_val 4 rfl (fun _ => (v_iaa (j / 4) Try.underlying89 TF.t80 rfl rfl (by first | rfl | omega) (by first | omega | (dsimp only at *; omega)))) rfl (by kernel_rfl) ?_
    refine fl_ld 5 rfl (v_load rfl (st.reads (v := u32 ((wst blk j).getD (j / 4) 0)) 0 rfl TF.t80 (getV_wse (j := j / 4) (by omega) (by rw [length_wst]; omega)))) (by kernel_rfl) ?_
    refine fl_val 6 rfl (fun _ => (v_mul32 (b := 256) rfl rfl)) rfl (by kernel_rfl) ?_
    refine fl_val 7 rfl (fun _ => (v_move' (by conv => (lhs; whnf)))) rfl (by kernel_rfl) ?_
    refine fl_val 8 rfl (fun _ => (v_move' (by conv => (lhs; whnf)))) rfl (by kernel_rfl) ?_
    refine fl_val 9 rfl (fun _ => (v_ias j Try.underlying66 TF.t5 rfl rfl (by first | rfl | omega) (by first | omega | (dsimp only at *; omega)))) rfl (by kernel_rfl) ?_
    refine fl_ld 10 rfl (v_load rfl (hb.rdB TF.t5 j (by omega) st.im)) (by kernel_rfl) ?_
    refine fl_val 11 rfl (fun _ => (v_conv8_32 Try.underlying5 Try.underlying80 rfl)) rfl (by kernel_rfl) ?_
    refine fl_val 12 rfl (fun _ => (v_add32 rfl rfl)) rfl (by kernel_rfl) ?_
    refine fl_val 13 rfl (fun _ => (v_iaa (j / 4) Try.underlying89 TF.t80 rfl rfl (by first | rfl | omega) (by first | omega | (dsimp only at *; omega)))) rfl (by kernel_rfl) ?_
    refine fl_eff1 14 [] [] (by kernel_rfl) ⟨obl_ld rfl rfl rfl (v_load rfl (hb.rdB TF.t5 j (by omega) st.im)), obl_ld rfl rfl rfl (v_load rfl (st.reads (v := u32 ((wst blk j).getD (j / 4) 0)) 0 rfl TF.t80 (getV_wse (j := j / 4) (by omega) (by rw [length_wst]; omega)))), trivial⟩ rfl ?_
    refine wl_store1 (v := u32 ((wst blk j).getD (j / 4) 0 * 256 + UInt32.ofNat (blk[j]).toNat)) 0 st rfl TF.t80 rfl rfl rfl (by simp [ws, length_wst]; omega) ?_
    intro w st
    refine wl_nil ⟨rfl, ?_⟩
    refine fl_nil (by kernel_rfl) trivial ?_
    refine block_go (then_go ?_)
    refine wc_region ?_
    refine wl_val (v_move' (by conv => (lhs; whnf))) rfl ?_
    refine wl_val (v_add' rfl rfl rfl (by first | omega | (dsimp only at *; omega)) (by first | omega | (dsimp only at *; omega))) rfl ?_
    refine wl_val (v_assign' (by conv => (lhs; whnf))) rfl ?_
    refine wl_nil ?_
    refine then_go ?_
    refine ⟨q - 1, by simp; omega, j + 1, by omega, rfl, rfl, rfl, rfl, ?_⟩
    have e : (ws (wst blk j)).toArray.setIfInBounds (0 + j / 4 * 1) (u32 ((wst blk j).getD (j / 4) 0 * 256 + UInt32.ofNat (blk[j]).toNat)) = (ws (wst blk (j + 1))).toArray := by
      rw [← wst_succ blk j hj, hgd, show 0 + j / 4 * 1 = j / 4 by omega]
      simp [ws, List.map_set]
    rw [← e]
    exact st
  · refine wc_exit (then_exit (then_exit (block_hit ?_)))
    refine then_go ?_
    refine wc_seq ?_
    refine wc_seq ?_
    refine wc_region ?_
    refine wl_val (v_assign' (by conv => (lhs; whnf))) rfl ?_
    refine wl_nil ?_
    refine then_go ?_
    refine wc_block ?_
    have hj64 : j = 64 := by omega
    subst hj64
    rw [wst_end] at st
    refine wc_loop (S := Nat) (fun q r w' => ∃ L : List UInt32, q + L.length = 64 ∧ 16 ≤ L.length ∧ exts (64 - L.length) L = sched blk ∧ r 2 = .pointer (some ⟨b2, 0, none⟩) ∧ r 3 = .pointer (some ⟨b3, 0, none⟩) ∧ r 5 = .int .i64 L.length ∧
      St m m [] wI w' [K.blk b3 (ws L ++ List.replicate (64 - L.length) (u32 0)).toArray 89, K.blk b2 (Array.replicate 64 (u32 0)) 89]) id 48 ⟨(List.range 16).map (wordAt blk), rfl, by simp, rfl, rfl, rfl, rfl, st⟩ ?_
    rintro q r w2 ⟨L, hqj, hL16, hLe, h2, h3, h5, st⟩
    refine wc_o 2 h2 (wc_o 3 h3 (wc_o 5 h5 ?_))
    refine wc_seq ?_
    refine wc_seq ?_
    refine wc_region ?_
    refine wl_val (v_move' (by conv => (lhs; whnf))) rfl ?_
    refine wl_val (v_lss rfl rfl) rfl ?_
    refine wl_nil ?_
    refine then_go ?_
    refine wc_if rfl (fun h27 => ?_) (fun h27 => ?_)
    · refine wc_skip ?_
      refine then_go ?_
      refine wc_seq ?_
      refine wc_block ?_
      refine wc_seq ?_
      have hLlt : L.length < 64 := by omega
      refine wc_draw TF.mixed ?_
      have st := st.pure (touch_drew _)
      refine fl_val 0 rfl (fun _ => (v_move' (by conv => (lhs; whnf)))) rfl (by kernel_rfl) ?_
      refine fl_val 1 rfl (fun _ => (v_sub' (c := ((L.length - 15 : Nat) : Int)) rfl rfl (by omega) (by omega) (by omega))) rfl (by kernel_rfl) ?_
      refine fl_val 2 rfl (fun _ => (v_iaa (L.length - 15) Try.underlying89 TF.t80 rfl rfl (by first | rfl | omega) (by first | omega | (dsimp only at *; omega)))) rfl (by kernel_rfl) ?_
      refine fl_ld 3 rfl (v_load rfl (st.reads (v := u32 (L.getD (L.length - 15) 0)) 0 rfl TF.t80 (getV_ws (j := L.length - 15) (by omega) (by omega)))) (by kernel_rfl) ?_
      refine fl_val 5 rfl (fun _ => (v_move' (by conv => (lhs; whnf)))) rfl (by kernel_rfl) ?_
      refine fl_val 6 rfl (fun _ => (v_sub' (c := ((L.length - 15 : Nat) : Int)) rfl rfl (by omega) (by omega) (by omega))) rfl (by kernel_rfl) ?_
      refine fl_val 7 rfl (fun _ => (v_iaa (L.length - 15) Try.underlying89 TF.t80 rfl rfl (by first | rfl | omega) (by first | omega | (dsimp only at *; omega)))) rfl (by kernel_rfl) ?_
      refine fl_ld 8 rfl (v_load rfl (st.reads (v := u32 (L.getD (L.length - 15) 0)) 0 rfl TF.t80 (getV_ws (j := L.length - 15) (by omega) (by omega)))) (by kernel_rfl) ?_
      refine fl_val 11 rfl (fun _ => (v_move' (by conv => (lhs; whnf)))) rfl (by kernel_rfl) ?_
      refine fl_val 12 rfl (fun _ => (v_sub' (c := ((L.length - 15 : Nat) : Int)) rfl rfl (by omega) (by omega) (by omega))) rfl (by kernel_rfl) ?_
      refine fl_val 13 rfl (fun _ => (v_iaa (L.length - 15) Try.underlying89 TF.t80 rfl rfl (by first | rfl | omega) (by first | omega | (dsimp only at *; omega)))) rfl (by kernel_rfl) ?_
      refine fl_ld 14 rfl (v_load rfl (st.reads (v := u32 (L.getD (L.length - 15) 0)) 0 rfl TF.t80 (getV_ws (j := L.length - 15) (by omega) (by omega)))) (by kernel_rfl) ?_
      refine fl_val 15 rfl (fun _ => (v_shr32 3 rfl rfl (by first | omega | decide | (dsimp only at *; omega)))) rfl (by kernel_rfl) ?_
      refine fl_eff1 4 [15, 13, 12, 11, 7, 6, 5, 2, 1, 0] [14, 8] (by kernel_rfl) ⟨obl_ld rfl rfl rfl (v_load rfl (st.reads (v := u32 (L.getD (L.length - 15) 0)) 0 rfl TF.t80 (getV_ws (j := L.length - 15) (by omega) (by omega)))), obl_ld rfl rfl rfl (v_load rfl (st.reads (v := u32 (L.getD (L.length - 15) 0)) 0 rfl TF.t80 (getV_ws (j := L.length - 15) (by omega) (by omega)))), obl_ld rfl rfl rfl (v_load rfl (st.reads (v := u32 (L.getD (L.length - 15) 0)) 0 rfl TF.t80 (getV_ws (j := L.length - 15) (by omega) (by omega)))), trivial⟩ rfl ?_
      refine wl_call rfl (c_turn (n := 7) (by decide)) rfl ?_
      rintro v34 w ⟨rfl, rfl⟩
      refine wl_nil ⟨rfl, ?_⟩
      refine fl_eff1 9 [15, 13, 12, 11, 7, 6, 5, 2, 1, 0] [14] (by kernel_rfl) ⟨obl_ld rfl rfl rfl (v_load rfl (st.reads (v := u32 (L.getD (L.length - 15) 0)) 0 rfl TF.t80 (getV_ws (j := L.length - 15) (by omega) (by omega)))), obl_ld rfl rfl rfl (v_load rfl (st.reads (v := u32 (L.getD (L.length - 15) 0)) 0 rfl TF.t80 (getV_ws (j := L.length - 15) (by omega) (by omega)))), trivial⟩ rfl ?_
      refine wl_call rfl (c_turn (n := 18) (by decide)) rfl ?_
      rintro v39 w ⟨rfl, rfl⟩
      refine wl_nil ⟨rfl, ?_⟩
      refine fl_val 10 rfl (fun _ => (v_xor32 rfl rfl)) rfl (by kernel_rfl) ?_
      refine fl_val 16 rfl (fun _ => (v_xor32 rfl rfl)) rfl (by kernel_rfl) ?_
      refine fl_eff1 17 [] [] (by kernel_rfl) ⟨obl_ld rfl rfl rfl (v_load rfl (st.reads (v := u32 (L.getD (L.length - 15) 0)) 0 rfl TF.t80 (getV_ws (j := L.length - 15) (by omega) (by omega)))), trivial⟩ rfl ?_
      refine wl_val (v_assign' (by conv => (lhs; whnf))) rfl ?_
      refine wl_nil ⟨rfl, ?_⟩
      refine fl_nil (by kernel_rfl) trivial ?_
      refine then_go ?_
      refine wc_seq ?_
      refine wc_draw TF.mixed ?_
      have st := st.pure (touch_drew _)
      refine fl_val 0 rfl (fun _ => (v_move' (by conv => (lhs; whnf)))) rfl (by kernel_rfl) ?_
      refine fl_val 1 rfl (fun _ => (v_sub' (c := ((L.length - 2 : Nat) : Int)) rfl rfl (by omega) (by omega) (by omega))) rfl (by kernel_rfl) ?_
      refine fl_val 2 rfl (fun _ => (v_iaa (L.length - 2) Try.underlying89 TF.t80 rfl rfl (by first | rfl | omega) (by first | omega | (dsimp only at *; omega)))) rfl (by kernel_rfl) ?_
      refine fl_ld 3 rfl (v_load rfl (st.reads (v := u32 (L.getD (L.length - 2) 0)) 0 rfl TF.t80 (getV_ws (j := L.length - 2) (by omega) (by omega)))) (by kernel_rfl) ?_
      refine fl_val 5 rfl (fun _ => (v_move' (by conv => (lhs; whnf)))) rfl (by kernel_rfl) ?_
      refine fl_val 6 rfl (fun _ => (v_sub' (c := ((L.length - 2 : Nat) : Int)) rfl rfl (by omega) (by omega) (by omega))) rfl (by kernel_rfl) ?_
      refine fl_val 7 rfl (fun _ => (v_iaa (L.length - 2) Try.underlying89 TF.t80 rfl rfl (by first | rfl | omega) (by first | omega | (dsimp only at *; omega)))) rfl (by kernel_rfl) ?_
      refine fl_ld 8 rfl (v_load rfl (st.reads (v := u32 (L.getD (L.length - 2) 0)) 0 rfl TF.t80 (getV_ws (j := L.length - 2) (by omega) (by omega)))) (by kernel_rfl) ?_
      refine fl_val 11 rfl (fun _ => (v_move' (by conv => (lhs; whnf)))) rfl (by kernel_rfl) ?_
      refine fl_val 12 rfl (fun _ => (v_sub' (c := ((L.length - 2 : Nat) : Int)) rfl rfl (by omega) (by omega) (by omega))) rfl (by kernel_rfl) ?_
      refine fl_val 13 rfl (fun _ => (v_iaa (L.length - 2) Try.underlying89 TF.t80 rfl rfl (by first | rfl | omega) (by first | omega | (dsimp only at *; omega)))) rfl (by kernel_rfl) ?_
      refine fl_ld 14 rfl (v_load rfl (st.reads (v := u32 (L.getD (L.length - 2) 0)) 0 rfl TF.t80 (getV_ws (j := L.length - 2) (by omega) (by omega)))) (by kernel_rfl) ?_
      refine fl_val 15 rfl (fun _ => (v_shr32 10 rfl rfl (by first | omega | decide | (dsimp only at *; omega)))) rfl (by kernel_rfl) ?_
      refine fl_eff1 4 [15, 13, 12, 11, 7, 6, 5, 2, 1, 0] [14, 8] (by kernel_rfl) ⟨obl_ld rfl rfl rfl (v_load rfl (st.reads (v := u32 (L.getD (L.length - 2) 0)) 0 rfl TF.t80 (getV_ws (j := L.length - 2) (by omega) (by omega)))), obl_ld rfl rfl rfl (v_load rfl (st.reads (v := u32 (L.getD (L.length - 2) 0)) 0 rfl TF.t80 (getV_ws (j := L.length - 2) (by omega) (by omega)))), obl_ld rfl rfl rfl (v_load rfl (st.reads (v := u32 (L.getD (L.length - 2) 0)) 0 rfl TF.t80 (getV_ws (j := L.length - 2) (by omega) (by omega)))), trivial⟩ rfl ?_
      refine wl_call rfl (c_turn (n := 17) (by decide)) rfl ?_
      rintro v51 w ⟨rfl, rfl⟩
      refine wl_nil ⟨rfl, ?_⟩
      refine fl_eff1 9 [15, 13, 12, 11, 7, 6, 5, 2, 1, 0] [14] (by kernel_rfl) ⟨obl_ld rfl rfl rfl (v_load rfl (st.reads (v := u32 (L.getD (L.length - 2) 0)) 0 rfl TF.t80 (getV_ws (j := L.length - 2) (by omega) (by omega)))), obl_ld rfl rfl rfl (v_load rfl (st.reads (v := u32 (L.getD (L.length - 2) 0)) 0 rfl TF.t80 (getV_ws (j := L.length - 2) (by omega) (by omega)))), trivial⟩ rfl ?_
      refine wl_call rfl (c_turn (n := 19) (by decide)) rfl ?_
      rintro v56 w ⟨rfl, rfl⟩
      refine wl_nil ⟨rfl, ?_⟩
      refine fl_val 10 rfl (fun _ => (v_xor32 rfl rfl)) rfl (by kernel_rfl) ?_
      refine fl_val 16 rfl (fun _ => (v_xor32 rfl rfl)) rfl (by kernel_rfl) ?_
      refine fl_eff1 17 [] [] (by kernel_rfl) ⟨obl_ld rfl rfl rfl (v_load rfl (st.reads (v := u32 (L.getD (L.length - 2) 0)) 0 rfl TF.t80 (getV_ws (j := L.length - 2) (by omega) (by omega)))), trivial⟩ rfl ?_
      refine wl_val (v_assign' (by conv => (lhs; whnf))) rfl ?_
      refine wl_nil ⟨rfl, ?_⟩
      refine fl_nil (by kernel_rfl) trivial ?_
      refine then_go ?_
      refine wc_draw TF.mixed ?_
      have st := st.pure (touch_drew _)
      refine fl_val 0 rfl (fun _ => (v_move' (by conv => (lhs; whnf)))) rfl (by kernel_rfl) ?_
      refine fl_val 1 rfl (fun _ => (v_move' (by conv => (lhs; whnf)))) rfl (by kernel_rfl) ?_
      refine fl_val 2 rfl (fun _ => (v_sub' (c := ((L.length - 16 : Nat) : Int)) rfl rfl (by omega) (by omega) (by omega))) rfl (by kernel_rfl) ?_
      refine fl_val 3 rfl (fun _ => (v_iaa (L.length - 16) Try.underlying89 TF.t80 rfl rfl (by first | rfl | omega) (by first | omega | (dsimp only at *; omega)))) rfl (by kernel_rfl) ?_
      refine fl_ld 4 rfl (v_load rfl (st.reads (v := u32 (L.getD (L.length - 16) 0)) 0 rfl TF.t80 (getV_ws (j := L.length - 16) (by omega) (by omega)))) (by kernel_rfl) ?_
      refine fl_val 5 rfl (fun _ => (v_move' (by conv => (lhs; whnf)))) rfl (by kernel_rfl) ?_
      refine fl_val 6 rfl (fun _ => (v_add32 rfl rfl)) rfl (by kernel_rfl) ?_
      refine fl_val 7 rfl (fun _ => (v_move' (by conv => (lhs; whnf)))) rfl (by kernel_rfl) ?_
      refine fl_val 8 rfl (fun _ => (v_sub' (c := ((L.length - 7 : Nat) : Int)) rfl rfl (by omega) (by omega) (by omega))) rfl (by kernel_rfl) ?_
      refine fl_val 9 rfl (fun _ => (v_iaa (L.length - 7) Try.underlying89 TF.t80 rfl rfl (by first | rfl | omega) (by first | omega | (dsimp only at *; omega)))) rfl (by kernel_rfl) ?_
      refine fl_ld 10 rfl (v_load rfl (st.reads (v := u32 (L.getD (L.length - 7) 0)) 0 rfl TF.t80 (getV_ws (j := L.length - 7) (by omega) (by omega)))) (by kernel_rfl) ?_
      refine fl_val 11 rfl (fun _ => (v_add32 rfl rfl)) rfl (by kernel_rfl) ?_
      refine fl_val 12 rfl (fun _ => (v_move' (by conv => (lhs; whnf)))) rfl (by kernel_rfl) ?_
      refine fl_val 13 rfl (fun _ => (v_add32 rfl rfl)) rfl (by kernel_rfl) ?_
      refine fl_val 14 rfl (fun _ => (v_iaa (L.length) Try.underlying89 TF.t80 rfl rfl (by first | rfl | omega) (by first | omega | (dsimp only at *; omega)))) rfl (by kernel_rfl) ?_
      refine fl_eff1 15 [] [] (by kernel_rfl) ⟨obl_ld rfl rfl rfl (v_load rfl (st.reads (v := u32 (L.getD (L.length - 7) 0)) 0 rfl TF.t80 (getV_ws (j := L.length - 7) (by omega) (by omega)))), obl_ld rfl rfl rfl (v_load rfl (st.reads (v := u32 (L.getD (L.length - 16) 0)) 0 rfl TF.t80 (getV_ws (j := L.length - 16) (by omega) (by omega)))), trivial⟩ rfl ?_
      refine wl_store1 (v := u32 (ext1 L)) 0 st rfl TF.t80 rfl rfl rfl (by simp [ws]; omega) ?_
      intro w st
      refine wl_nil ⟨rfl, ?_⟩
      refine fl_nil (by kernel_rfl) trivial ?_
      refine block_go (then_go ?_)
      refine wc_region ?_
      refine wl_val (v_move' (by conv => (lhs; whnf))) rfl ?_
      refine wl_val (v_add' rfl rfl rfl (by first | omega | (dsimp only at *; omega)) (by first | omega | (dsimp only at *; omega))) rfl ?_
      refine wl_val (v_assign' (by conv => (lhs; whnf))) rfl ?_
      refine wl_nil ?_
      refine then_go ?_
      refine ⟨q - 1, by simp; omega, L ++ [ext1 L], by simp; omega, by simp; omega, ?_, rfl, rfl, by simp; rfl, ?_⟩
      · rw [← hLe, show 64 - L.length = (64 - (L ++ [ext1 L]).length) + 1 by simp; omega]
        rfl
      have e : (ws L ++ List.replicate (64 - L.length) (u32 0)).toArray.setIfInBounds (0 + L.length * 1) (u32 (ext1 L)) = (ws (L ++ [ext1 L]) ++ List.replicate (64 - (L ++ [ext1 L]).length) (u32 0)).toArray := by
        rw [show 64 - L.length = (64 - (L ++ [ext1 L]).length) + 1 by simp; omega, List.replicate_succ, set_app (by simp [ws])]
        simp [ws]
      rw [← e]
      exact st
    · refine wc_exit (then_exit (then_exit (block_hit ?_)))
      refine then_go ?_
      refine wc_seq ?_
      refine wc_region ?_
      refine wl_val (v_load rfl (st.reads 0 rfl TF.t89 (getV_all (by simp [ws]; omega)))) rfl ?_
      have hL64 : L.length = 64 := by omega
      rw [hL64] at hLe
      have hLs : L = sched blk := hLe
      have e : (ws L ++ List.replicate (64 - L.length) (u32 0)).toArray = (ws (sched blk)).toArray := by rw [hL64, hLs]; simp
      rw [e] at st ⊢
      refine wl_storeW (cs := (ws (sched blk)).toArray) 1 st rfl TF.t89 rfl rfl (by simp [ws, length_sched]) (by simp) (by simpa using one_ws _) ?_
      intro w st
      refine wl_nil ?_
      refine then_go ?_
      refine wc_ret ?_
      exact ret1c rfl (st.reads 1 rfl TF.t89 (getV_all (by simp [ws, length_sched]))) ⟨(st.keepOnly (l := []) (List.nil_sublist _)).touch, rfl⟩
end
end Go.Proofs.Ytkbmhhbclbgdpaa
