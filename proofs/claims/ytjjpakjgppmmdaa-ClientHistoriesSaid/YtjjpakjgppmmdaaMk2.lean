/-
  Several texts as one: Se Sf Sg Sh Si Sj Sk Ta Tb.
-/
import Derived.Test.YtjjpakjgppmmdaaMk1

/-
  SHA-256: the reference's Pad, turn and words.
-/
namespace Go.Proofs.Ytjjpakjgppmmdaa
open Go Go.RowKit K SH

section
variable {m : Mem} {wI : World}

theorem c_rpad {p : UInt64} (him : Im m wI) : Ret Try.prog 98 #[u64 p] wI fun v w' => Out m wI w' fun m' => SlM m' v 1 (pad p).length (bs (pad p)) := by
  have st := St.start him
  have hz := zs_lt p.toNat
  refine ret_of Try.call98 Try.func98 rfl Try.ntmps98 Try.results98 rfl ?_
  refine wc_seq ?_
  refine wc_region ?_
  refine wl_val (v_assign' (by conv => (lhs; whnf))) rfl ?_
  refine wl_nil ?_
  refine then_go ?_
  refine wc_seq ?_
  refine wc_region ?_
  refine wl_val (v_assign' (by conv => (lhs; whnf))) rfl ?_
  refine wl_nil ?_
  refine then_go ?_
  refine wc_seq ?_
  have st := nilRow st 5 1
  change St _ _ _ _ _ [rowE _ _ 1 ([] : List UInt8).length (bs [])] at st
  refine wc_region ?_
  refine wl_val (v_move' (by conv => (lhs; whnf))) rfl ?_
  refine wl_byte1 128 Try.underlying41 TF.t5 TF.z5 rfl st rfl ?_
  intro b7 w st
  refine wl_app1 st Try.underlying41 TF.t5 TF.z5 rfl rfl (by simp) (by simp) rfl ?_
  intro v8 w st hv8
  refine wl_val (v_assign' (by conv => (lhs; whnf))) rfl ?_
  refine wl_nil ?_
  change St _ _ _ _ _ [rowE _ _ 1 (128 :: List.replicate 0 (0 : UInt8)).length (bs (128 :: List.replicate 0 0))] at st
  refine then_go ?_
  refine wc_seq ?_
  refine wc_block ?_
  refine wc_loop (S := Nat) (fun q r w' => ∃ j v, q + j = zs p.toNat ∧ r 0 = u64 p ∧ r 3 = v ∧ St m m [] wI w' [rowE v 5 1 (128 :: List.replicate j (0 : UInt8)).length (bs (128 :: List.replicate j 0))]) id (zs p.toNat) ⟨0, _, rfl, rfl, rfl, st⟩ ?_
  rintro q r w2 ⟨j, v, hqj, h0, h3, st⟩
  obtain ⟨g, cap, rfl⟩ := row_len (st.at (i := 0) rfl) (by simp)
  refine wc_o 0 h0 (wc_o 3 h3 ?_)
  refine wc_seq ?_
  refine wc_seq ?_
  have hlen : (128 :: List.replicate j (0 : UInt8)).length = j + 1 := by simp
  have hrem := rem64 p (128 :: List.replicate j (0 : UInt8)).length
  have hzs : zs p.toNat = (119 - p.toNat % 64) % 64 := rfl
  refine wc_region ?_
  refine wl_val (v_move' (by conv => (lhs; whnf))) rfl ?_
  refine wl_val (v_move' (by conv => (lhs; whnf))) rfl ?_
  refine wl_val (v_len_s Try.underlying41 rfl) rfl ?_
  refine wl_val (v_convi_64 (n := (128 :: List.replicate j (0 : UInt8)).length) Try.underlying3 Try.underlying24 rfl) rfl ?_
  refine wl_val (v_add64 rfl rfl) rfl ?_
  refine wl_val (v_rem64 (q := 64) rfl rfl (by decide)) rfl ?_
  refine wl_val (v_neq rfl rfl) rfl ?_
  refine wl_nil ?_
  refine then_go ?_
  refine wc_if rfl (fun h15 => ?_) (fun h15 => ?_)
  · refine wc_skip ?_
    refine then_go ?_
    refine wc_block ?_
    refine wc_region ?_
    refine wl_val (v_move' (by conv => (lhs; whnf))) rfl ?_
    have hj : j < zs p.toNat := by omega
    refine wl_byte1 0 Try.underlying41 TF.t5 TF.z5 rfl st rfl ?_
    intro b14 w st
    refine wl_app1 st Try.underlying41 TF.t5 TF.z5 rfl rfl (by simp; omega) (by simp; omega) rfl ?_
    intro v15 w st hv15
    refine wl_val (v_assign' (by conv => (lhs; whnf))) rfl ?_
    refine wl_nil ?_
    refine block_go (then_go ?_)
    refine ⟨q - 1, by simp; omega, j + 1, _, by omega, rfl, rfl, ?_⟩
    have e : (128 :: List.replicate (j + 1) 0 : List UInt8) = 128 :: List.replicate j 0 ++ [0] := by rw [List.replicate_succ']; rfl
    rw [e]
    exact st
  · refine wc_exit (then_exit (then_exit (block_hit ?_)))
    refine then_go ?_
    refine wc_seq ?_
    refine wc_region ?_
    refine wl_val (v_move' (by conv => (lhs; whnf))) rfl ?_
    refine wl_val (v_mul64 (q := 8) rfl rfl) rfl ?_
    rw [mul8]
    refine wl_val (v_assign' (by conv => (lhs; whnf))) rfl ?_
    refine wl_nil ?_
    refine then_go ?_
    refine wc_seq ?_
    refine wc_seq ?_
    refine wc_region ?_
    refine wl_val (v_assign' (by conv => (lhs; whnf))) rfl ?_
    refine wl_nil ?_
    refine then_go ?_
    refine wc_block ?_
    have hje : j = zs p.toNat := by omega
    subst hje
    refine wc_loop (S := Nat) (fun q r w' => ∃ j v, q + j = 8 ∧ r 0 = u64 p ∧ r 3 = v ∧ r 4 = u64 (shl64 p 3) ∧ r 5 = .int .i64 j ∧ St m m [] wI w' [rowE v 5 1 (128 :: List.replicate (zs p.toNat) (0 : UInt8) ++ be8 (shl64 p 3) j).length (bs (128 :: List.replicate (zs p.toNat) 0 ++ be8 (shl64 p 3) j))]) id 8 ⟨0, _, rfl, rfl, rfl, rfl, rfl, ?_⟩ ?_
    · have e : (128 :: List.replicate (zs p.toNat) 0 ++ be8 (shl64 p 3) 0 : List UInt8) = 128 :: List.replicate (zs p.toNat) 0 := by simp [be8]
      rw [e]
      exact st
    rintro q2 r w3 ⟨i, v, hqi, h0, h3, h4, h5, st⟩
    obtain ⟨g, cap, rfl⟩ := row_len (st.at (i := 0) rfl) (by simp)
    refine wc_o 0 h0 (wc_o 3 h3 (wc_o 4 h4 (wc_o 5 h5 ?_)))
    refine wc_seq ?_
    refine wc_seq ?_
    refine wc_region ?_
    refine wl_val (v_move' (by conv => (lhs; whnf))) rfl ?_
    refine wl_val (v_lss rfl rfl) rfl ?_
    refine wl_nil ?_
    refine then_go ?_
    refine wc_if rfl (fun h22 => ?_) (fun h22 => ?_)
    · refine wc_skip ?_
      refine then_go ?_
      refine wc_seq ?_
      refine wc_block ?_
      have hi8 : i < 8 := by omega
      refine wc_region ?_
      refine wl_val (v_move' (by conv => (lhs; whnf))) rfl ?_
      refine wl_val (v_move' (by conv => (lhs; whnf))) rfl ?_
      refine wl_val (v_move' (by conv => (lhs; whnf))) rfl ?_
      refine wl_val (v_mul' (c := ((8 * i : Nat) : Int)) rfl rfl (by omega) (by omega) (by omega)) rfl ?_
      refine wl_val (v_sub' (c := ((56 - 8 * i : Nat) : Int)) rfl rfl (by omega) (by omega) (by omega)) rfl ?_
      refine wl_val (v_conv Try.underlying3 Try.underlying131 rfl) rfl ?_
      rw [wrap_u64_small (by omega)]
      refine wl_val (v_shr64 (56 - 8 * i) rfl rfl (by first | omega | decide | (dsimp only at *; omega))) rfl ?_
      refine wl_val (v_conv64_8 Try.underlying24 Try.underlying5 rfl) rfl ?_
      refine wl_byte1 (UInt8.ofNat (shr64 (shl64 p 3) (56 - 8 * i)).toNat) Try.underlying41 TF.t5 TF.z5 rfl st rfl ?_
      intro b27 w st
      refine wl_app1 st Try.underlying41 TF.t5 TF.z5 rfl rfl (by simp [length_be8]; omega) (by simp [length_be8]; omega) rfl ?_
      intro v28 w st hv28
      refine wl_val (v_assign' (by conv => (lhs; whnf))) rfl ?_
      refine wl_nil ?_
      refine block_go (then_go ?_)
      refine wc_region ?_
      refine wl_val (v_move' (by conv => (lhs; whnf))) rfl ?_
      refine wl_val (v_add' rfl rfl rfl (by first | omega | (dsimp only at *; omega)) (by first | omega | (dsimp only at *; omega))) rfl ?_
      refine wl_val (v_assign' (by conv => (lhs; whnf))) rfl ?_
      refine wl_nil ?_
      refine then_go ?_
      refine ⟨q2 - 1, by simp; omega, i + 1, _, by omega, rfl, rfl, rfl, rfl, ?_⟩
      rw [be8_succ, ← List.append_assoc]
      exact st
    · refine wc_exit (then_exit (then_exit (block_hit ?_)))
      refine then_go ?_
      refine wc_seq ?_
      refine wc_region ?_
      refine wl_val (v_move' (by conv => (lhs; whnf))) rfl ?_
      refine wl_val (v_assign' (by conv => (lhs; whnf))) rfl ?_
      refine wl_nil ?_
      refine then_go ?_
      refine wc_ret ?_
      have hi8 : i = 8 := by omega
      subst hi8
      exact ret1 rfl st.bytesOut

theorem c_turn {x : UInt32} {n : Nat} (hn : n ≤ 32) : Ret Try.prog 110 #[u32 x, .int .i64 n] wI fun v w' => w' = wI ∧ v = u32 (rotr x n) := by
  refine ret_of Try.call110 Try.func110 rfl Try.ntmps110 Try.results110 rfl ?_
  refine wc_seq ?_
  refine wc_region ?_
  refine wl_val (v_assign' (by conv => (lhs; whnf))) rfl ?_
  refine wl_nil ?_
  refine then_go ?_
  refine wc_seq ?_
  refine wc_region ?_
  refine wl_val (v_move' (by conv => (lhs; whnf))) rfl ?_
  refine wl_val (v_move' (by conv => (lhs; whnf))) rfl ?_
  refine wl_val (v_conv Try.underlying3 Try.underlying131 rfl) rfl ?_
  rw [wrap_u64_small (by omega)]
  refine wl_val (v_shr32 n rfl rfl (by first | omega | decide | (dsimp only at *; omega))) rfl ?_
  refine wl_val (v_move' (by conv => (lhs; whnf))) rfl ?_
  refine wl_val (v_move' (by conv => (lhs; whnf))) rfl ?_
  refine wl_val (v_sub' (c := ((32 - n : Nat) : Int)) rfl rfl (by omega) (by omega) (by omega)) rfl ?_
  refine wl_val (v_conv Try.underlying3 Try.underlying131 rfl) rfl ?_
  rw [wrap_u64_small (by omega)]
  refine wl_val (v_shl32 (32 - n) rfl rfl (by first | omega | decide | (dsimp only at *; omega))) rfl ?_
  refine wl_val (v_or32 rfl rfl) rfl ?_
  refine wl_val (v_assign' (by conv => (lhs; whnf))) rfl ?_
  refine wl_nil ?_
  refine then_go ?_
  refine wc_ret ?_
  exact ret1 (v := u32 (shr32 x n ||| shl32 x (32 - n))) rfl ⟨rfl, by rw [rotr, UInt32.or_comm]⟩

end
end Go.Proofs.Ytjjpakjgppmmdaa

/-
  SHA-256: the reference's words and block.
-/
namespace Go.Proofs.Ytjjpakjgppmmdaa
open Go Go.RowKit K SH

namespace SH
def acc (b : List UInt8) (s : Nat) : Nat → UInt32
  | 0 => 0
  | k + 1 => acc b s k * 256 + UInt32.ofNat (b.getD (4 * s + k) 0).toNat

theorem toNat_shl {x n : Nat} (h : x * 2 ^ n < 4294967296) (hx : x < 4294967296) : (shl32 (UInt32.ofNat x) n).toNat = x * 2 ^ n := by
  unfold shl32
  rw [UInt32.toNat_ofNat', UInt32.toNat_ofNat', Nat.mod_eq_of_lt hx, Nat.mod_eq_of_lt h]

theorem acc4 (b : List UInt8) (s : Nat) : acc b s 4 = wordAt b s := by
  have h0 := (b.getD (4 * s) 0).toNat_lt
  have h1 := (b.getD (4 * s + 1) 0).toNat_lt
  have h2 := (b.getD (4 * s + 2) 0).toNat_lt
  have h3 := (b.getD (4 * s + 3) 0).toNat_lt
  apply UInt32.toNat_inj.mp
  unfold wordAt word4
  simp only [acc, Nat.add_zero]
  generalize (b.getD (4 * s) 0).toNat = x0 at *
  generalize (b.getD (4 * s + 1) 0).toNat = x1 at *
  generalize (b.getD (4 * s + 2) 0).toNat = x2 at *
  generalize (b.getD (4 * s + 3) 0).toNat = x3 at *
  have e3 : (UInt32.ofNat x3).toNat = x3 := by rw [UInt32.toNat_ofNat']; omega
  have e2 : (UInt32.ofNat x2).toNat = x2 := by rw [UInt32.toNat_ofNat']; omega
  have e1 : (UInt32.ofNat x1).toNat = x1 := by rw [UInt32.toNat_ofNat']; omega
  have e0 : (UInt32.ofNat x0).toNat = x0 := by rw [UInt32.toNat_ofNat']; omega
  rw [UInt32.toNat_or, UInt32.toNat_or, UInt32.toNat_or, toNat_shl (by omega) (by omega), toNat_shl (by omega) (by omega), toNat_shl (by omega) (by omega), e3]
  have o1 : x0 * 2 ^ 24 ||| x1 * 2 ^ 16 = 2 ^ 16 * (x0 * 256 + x1) := by
    rw [Nat.mul_comm x0, ← Nat.two_pow_add_eq_or_of_lt (by omega)]; omega
  have o2 : 2 ^ 16 * (x0 * 256 + x1) ||| x2 * 2 ^ 8 = 2 ^ 8 * ((x0 * 256 + x1) * 256 + x2) := by
    rw [← Nat.two_pow_add_eq_or_of_lt (by omega)]; omega
  have o3 : 2 ^ 8 * ((x0 * 256 + x1) * 256 + x2) ||| x3 = ((x0 * 256 + x1) * 256 + x2) * 256 + x3 := by
    rw [← Nat.two_pow_add_eq_or_of_lt (by omega)]; omega
  rw [o1, o2, o3]
  simp only [UInt32.toNat_add, UInt32.toNat_mul, e0, e1, e2, e3]
  have z : (0 : UInt32).toNat = 0 := rfl
  have c : (256 : UInt32).toNat = 256 := rfl
  rw [z, c]
  omega

/-- The words when so many bytes have come. -/
def wst (b : List UInt8) (i : Nat) : List UInt32 := (List.range 64).map fun s => acc b s (min 4 (i - 4 * s))

theorem length_wst (b : List UInt8) (i : Nat) : (wst b i).length = 64 := by simp [wst]

theorem wst_at (b : List UInt8) (i s : Nat) (hs : s < 64) : (wst b i).getD s 0 = acc b s (min 4 (i - 4 * s)) := by simp [wst, List.getD, hs]

theorem wst_succ (b : List UInt8) (i : Nat) (hi : i < 64) : (wst b i).set (i / 4) ((wst b i).getD (i / 4) 0 * 256 + UInt32.ofNat (b.getD i 0).toNat) = wst b (i + 1) := by
  apply List.ext_getElem
  · simp [length_wst]
  · intro s h1 h2
    have hs : s < 64 := by simpa [length_wst] using h2
    rw [List.getElem_set]
    split
    · rename_i he
      subst he
      rw [wst_at b i (i / 4) (by omega)]
      simp only [wst, List.getElem_map, List.getElem_range]
      rw [show min 4 (i - 4 * (i / 4)) = i % 4 by omega, show min 4 (i + 1 - 4 * (i / 4)) = i % 4 + 1 by omega, acc, show 4 * (i / 4) + i % 4 = i by omega]
    · rename_i he
      simp only [wst, List.getElem_map, List.getElem_range]
      congr 1
      omega

theorem wst_end (b : List UInt8) : (ws (wst b 64)).toArray = (ws ((List.range 16).map (wordAt b)) ++ List.replicate (64 - ((List.range 16).map (wordAt b)).length) (u32 0)).toArray := by
  congr 1
  have e : wst b 64 = (List.range 16).map (wordAt b) ++ List.replicate 48 0 := by
    apply List.ext_getElem
    · simp [length_wst]
    · intro s h1 h2
      have hs : s < 64 := by simpa [length_wst] using h1
      simp only [wst, List.getElem_map, List.getElem_range]
      by_cases h : s < 16
      · rw [List.getElem_append_left (by simpa using h)]
        simp only [List.getElem_map, List.getElem_range]
        rw [show min 4 (64 - 4 * s) = 4 by omega, acc4]
      · rw [List.getElem_append_right (by simpa using h)]
        rw [show min 4 (64 - 4 * s) = 0 by omega, List.getElem_replicate]
        rfl
  rw [e]
  simp [ws]
end SH

section
variable {m : Mem} {wI : World}

theorem c_words {bv : Value} {blk : List UInt8} (him : Im m wI) (hb : SlM m bv 1 64 (bs blk)) (hl : blk.length = 64) :
    Ret Try.prog 108 #[bv] wI fun v w' => Tch wI w' [] [] ∧ v = arr32 (sched blk) := by
  have st := St.start him
  obtain ⟨bb, bo, bc, rfl, _⟩ := hb.ptr1 (by omega) (by omega)
  refine ret_of Try.call108 Try.func108 rfl Try.ntmps108 Try.results108 rfl ?_
  refine wc_seq ?_
  refine wc_region ?_
  refine wl_alloc TF.z138 st rfl ?_
  intro b2 w st
  refine wl_nil ?_
  refine then_go ?_
  refine wc_seq ?_
  refine wc_region ?_
  refine wl_alloc TF.z138 st rfl ?_
  intro b3 w st
  refine wl_nil ?_
  refine then_go ?_
  refine wc_seq ?_
  refine wc_seq ?_
  refine wc_region ?_
  refine wl_val (v_assign' (by conv => (lhs; whnf))) rfl ?_
  refine wl_nil ?_
  refine then_go ?_
  refine wc_block ?_
  refine wc_loop (S := Nat) (fun q r w' => ∃ j, q + j = 64 ∧ r 0 = .slice (some ⟨bb, bo, none⟩) 64 bc ∧ r 2 = .pointer (some ⟨b2, 0, none⟩) ∧ r 3 = .pointer (some ⟨b3, 0, none⟩) ∧ r 4 = .int .i64 j ∧
    St m m [] wI w' [K.blk b3 (ws (wst blk j)).toArray 138, K.blk b2 (Array.replicate 64 (u32 0)) 138]) id 64 ⟨0, rfl, rfl, rfl, rfl, rfl, ?_⟩ ?_
  · have e : (ws (wst blk 0)).toArray = Array.replicate 64 (u32 0) := by
      apply Array.toList_inj.mp
      simp [ws, wst, acc]
      rfl
    rw [e]
    exact st
  rintro q r w2 ⟨j, hqj, h0, h2, h3, h4, st⟩
  refine wc_o 0 h0 (wc_o 2 h2 (wc_o 3 h3 (wc_o 4 h4 ?_)))
  refine wc_seq ?_
  refine wc_seq ?_
  refine wc_region ?_
  refine wl_val (v_move' (by conv => (lhs; whnf))) rfl ?_
  refine wl_val (v_lss rfl rfl) rfl ?_
  refine wl_nil ?_
  refine then_go ?_
  refine wc_if rfl (fun h9 => ?_) (fun h9 => ?_)
  · refine wc_skip ?_
    refine then_go ?_
    refine wc_seq ?_
    refine wc_block ?_
    have hj : j < 64 := by omega
    have hgd : blk.getD j 0 = blk[j] := by simp [List.getD, hl, hj]
    refine wc_draw TF.mixed ?_
    have st := st.pure (touch_drew _)
    refine fl_val 0 rfl (fun _ => (v_move' (by conv => (lhs; whnf)))) rfl (by kernel_rfl) ?_
    refine fl_val 1 rfl (fun _ => (v_quo' (c := ((j / 4 : Nat) : Int)) rfl rfl (by omega) (by omega) (by omega) (by omega))) rfl (by kernel_rfl) ?_
    refine fl_val 2 rfl (fun _ => (v_move' (by conv => (lhs; whnf)))) rfl (by kernel_rfl) ?_
    refine fl_val 3 rfl (fun _ => (v_quo' (c := ((j / 4 : Nat) : Int)) rfl rfl (by omega) (by omega) (by omega) (by omega))) rfl (by kernel_rfl) ?_
    refine fl_val 4 rfl (fun _ => (v_iaa (j / 4) Try.underlying138 TF.t127 rfl rfl (by first | rfl | omega) (by first | omega | (dsimp only at *; omega)))) rfl (by kernel_rfl) ?_
    refine fl_ld 5 rfl (v_load rfl (st.reads (v := u32 ((wst blk j).getD (j / 4) 0)) 0 rfl TF.t127 (getV_wse (j := j / 4) (by omega) (by rw [length_wst]; omega)))) (by kernel_rfl) ?_
    refine fl_val 6 rfl (fun _ => (v_mul32 (b := 256) rfl rfl)) rfl (by kernel_rfl) ?_
    refine fl_val 7 rfl (fun _ => (v_move' (by conv => (lhs; whnf)))) rfl (by kernel_rfl) ?_
    refine fl_val 8 rfl (fun _ => (v_move' (by conv => (lhs; whnf)))) rfl (by kernel_rfl) ?_
    refine fl_val 9 rfl (fun _ => (v_ias j Try.underlying41 TF.t5 rfl rfl (by first | rfl | omega) (by first | omega | (dsimp only at *; omega)))) rfl (by kernel_rfl) ?_
    refine fl_ld 10 rfl (v_load rfl (hb.rdB TF.t5 j (by omega) st.im)) (by kernel_rfl) ?_
    refine fl_val 11 rfl (fun _ => (v_conv8_32 Try.underlying5 Try.underlying127 rfl)) rfl (by kernel_rfl) ?_
    refine fl_val 12 rfl (fun _ => (v_add32 rfl rfl)) rfl (by kernel_rfl) ?_
    refine fl_val 13 rfl (fun _ => (v_iaa (j / 4) Try.underlying138 TF.t127 rfl rfl (by first | rfl | omega) (by first | omega | (dsimp only at *; omega)))) rfl (by kernel_rfl) ?_
    refine fl_eff1 14 [] [] (by kernel_rfl) ⟨obl_ld rfl rfl rfl (v_load rfl (hb.rdB TF.t5 j (by omega) st.im)), obl_ld rfl rfl rfl (v_load rfl (st.reads (v := u32 ((wst blk j).getD (j / 4) 0)) 0 rfl TF.t127 (getV_wse (j := j / 4) (by omega) (by rw [length_wst]; omega)))), trivial⟩ rfl ?_
    refine wl_store1 (v := u32 ((wst blk j).getD (j / 4) 0 * 256 + UInt32.ofNat (blk[j]).toNat)) 0 st rfl TF.t127 rfl rfl rfl (by simp [ws, length_wst]; omega) ?_
    intro w st
    refine wl_nil ⟨rfl, ?_⟩
    refine fl_nil (by kernel_rfl) trivial ?_
    refine block_go (then_go ?_)
    refine wc_region ?_
    refine wl_val (v_move' (by conv => (lhs; whnf))) rfl ?_
    refine wl_val (v_add' rfl rfl rfl (by first | omega | (dsimp only at *; omega)) (by first | omega | (dsimp only at *; omega))) rfl ?_
    refine wl_val (v_assign' (by conv => (lhs; whnf))) rfl ?_
    refine wl_nil ?_
    refine then_go ?_
    refine ⟨q - 1, by simp; omega, j + 1, by omega, rfl, rfl, rfl, rfl, ?_⟩
    have e : (ws (wst blk j)).toArray.setIfInBounds (0 + j / 4 * 1) (u32 ((wst blk j).getD (j / 4) 0 * 256 + UInt32.ofNat (blk[j]).toNat)) = (ws (wst blk (j + 1))).toArray := by
      rw [← wst_succ blk j hj, hgd, show 0 + j / 4 * 1 = j / 4 by omega]
      simp [ws, List.map_set]
    rw [← e]
    exact st
  · refine wc_exit (then_exit (then_exit (block_hit ?_)))
    refine then_go ?_
    refine wc_seq ?_
    refine wc_seq ?_
    refine wc_region ?_
    refine wl_val (v_assign' (by conv => (lhs; whnf))) rfl ?_
    refine wl_nil ?_
    refine then_go ?_
    refine wc_block ?_
    have hj64 : j = 64 := by omega
    subst hj64
    rw [wst_end] at st
    refine wc_loop (S := Nat) (fun q r w' => ∃ L : List UInt32, q + L.length = 64 ∧ 16 ≤ L.length ∧ exts (64 - L.length) L = sched blk ∧ r 2 = .pointer (some ⟨b2, 0, none⟩) ∧ r 3 = .pointer (some ⟨b3, 0, none⟩) ∧ r 5 = .int .i64 L.length ∧
      St m m [] wI w' [K.blk b3 (ws L ++ List.replicate (64 - L.length) (u32 0)).toArray 138, K.blk b2 (Array.replicate 64 (u32 0)) 138]) id 48 ⟨(List.range 16).map (wordAt blk), rfl, by simp, rfl, rfl, rfl, rfl, st⟩ ?_
    rintro q r w2 ⟨L, hqj, hL16, hLe, h2, h3, h5, st⟩
    refine wc_o 2 h2 (wc_o 3 h3 (wc_o 5 h5 ?_))
    refine wc_seq ?_
    refine wc_seq ?_
    refine wc_region ?_
    refine wl_val (v_move' (by conv => (lhs; whnf))) rfl ?_
    refine wl_val (v_lss rfl rfl) rfl ?_
    refine wl_nil ?_
    refine then_go ?_
    refine wc_if rfl (fun h27 => ?_) (fun h27 => ?_)
    · refine wc_skip ?_
      refine then_go ?_
      refine wc_seq ?_
      refine wc_block ?_
      refine wc_seq ?_
      have hLlt : L.length < 64 := by omega
      refine wc_draw TF.mixed ?_
      have st := st.pure (touch_drew _)
      refine fl_val 0 rfl (fun _ => (v_move' (by conv => (lhs; whnf)))) rfl (by kernel_rfl) ?_
      refine fl_val 1 rfl (fun _ => (v_sub' (c := ((L.length - 15 : Nat) : Int)) rfl rfl (by omega) (by omega) (by omega))) rfl (by kernel_rfl) ?_
      refine fl_val 2 rfl (fun _ => (v_iaa (L.length - 15) Try.underlying138 TF.t127 rfl rfl (by first | rfl | omega) (by first | omega | (dsimp only at *; omega)))) rfl (by kernel_rfl) ?_
      refine fl_ld 3 rfl (v_load rfl (st.reads (v := u32 (L.getD (L.length - 15) 0)) 0 rfl TF.t127 (getV_ws (j := L.length - 15) (by omega) (by omega)))) (by kernel_rfl) ?_
      refine fl_val 5 rfl (fun _ => (v_move' (by conv => (lhs; whnf)))) rfl (by kernel_rfl) ?_
      refine fl_val 6 rfl (fun _ => (v_sub' (c := ((L.length - 15 : Nat) : Int)) rfl rfl (by omega) (by omega) (by omega))) rfl (by kernel_rfl) ?_
      refine fl_val 7 rfl (fun _ => (v_iaa (L.length - 15) Try.underlying138 TF.t127 rfl rfl (by first | rfl | omega) (by first | omega | (dsimp only at *; omega)))) rfl (by kernel_rfl) ?_
      refine fl_ld 8 rfl (v_load rfl (st.reads (v := u32 (L.getD (L.length - 15) 0)) 0 rfl TF.t127 (getV_ws (j := L.length - 15) (by omega) (by omega)))) (by kernel_rfl) ?_
      refine fl_val 11 rfl (fun _ => (v_move' (by conv => (lhs; whnf)))) rfl (by kernel_rfl) ?_
      refine fl_val 12 rfl (fun _ => (v_sub' (c := ((L.length - 15 : Nat) : Int)) rfl rfl (by omega) (by omega) (by omega))) rfl (by kernel_rfl) ?_
      refine fl_val 13 rfl (fun _ => (v_iaa (L.length - 15) Try.underlying138 TF.t127 rfl rfl (by first | rfl | omega) (by first | omega | (dsimp only at *; omega)))) rfl (by kernel_rfl) ?_
      refine fl_ld 14 rfl (v_load rfl (st.reads (v := u32 (L.getD (L.length - 15) 0)) 0 rfl TF.t127 (getV_ws (j := L.length - 15) (by omega) (by omega)))) (by kernel_rfl) ?_
      refine fl_val 15 rfl (fun _ => (v_shr32 3 rfl rfl (by first | omega | decide | (dsimp only at *; omega)))) rfl (by kernel_rfl) ?_
      refine fl_eff1 4 [15, 13, 12, 11, 7, 6, 5, 2, 1, 0] [14, 8] (by kernel_rfl) ⟨obl_ld rfl rfl rfl (v_load rfl (st.reads (v := u32 (L.getD (L.length - 15) 0)) 0 rfl TF.t127 (getV_ws (j := L.length - 15) (by omega) (by omega)))), obl_ld rfl rfl rfl (v_load rfl (st.reads (v := u32 (L.getD (L.length - 15) 0)) 0 rfl TF.t127 (getV_ws (j := L.length - 15) (by omega) (by omega)))), obl_ld rfl rfl rfl (v_load rfl (st.reads (v := u32 (L.getD (L.length - 15) 0)) 0 rfl TF.t127 (getV_ws (j := L.length - 15) (by omega) (by omega)))), trivial⟩ rfl ?_
      refine wl_call rfl (c_turn (n := 7) (by decide)) rfl ?_
      rintro v34 w ⟨rfl, rfl⟩
      refine wl_nil ⟨rfl, ?_⟩
      refine fl_eff1 9 [15, 13, 12, 11, 7, 6, 5, 2, 1, 0] [14] (by kernel_rfl) ⟨obl_ld rfl rfl rfl (v_load rfl (st.reads (v := u32 (L.getD (L.length - 15) 0)) 0 rfl TF.t127 (getV_ws (j := L.length - 15) (by omega) (by omega)))), obl_ld rfl rfl rfl (v_load rfl (st.reads (v := u32 (L.getD (L.length - 15) 0)) 0 rfl TF.t127 (getV_ws (j := L.length - 15) (by omega) (by omega)))), trivial⟩ rfl ?_
      refine wl_call rfl (c_turn (n := 18) (by decide)) rfl ?_
      rintro v39 w ⟨rfl, rfl⟩
      refine wl_nil ⟨rfl, ?_⟩
      refine fl_val 10 rfl (fun _ => (v_xor32 rfl rfl)) rfl (by kernel_rfl) ?_
      refine fl_val 16 rfl (fun _ => (v_xor32 rfl rfl)) rfl (by kernel_rfl) ?_
      refine fl_eff1 17 [] [] (by kernel_rfl) ⟨obl_ld rfl rfl rfl (v_load rfl (st.reads (v := u32 (L.getD (L.length - 15) 0)) 0 rfl TF.t127 (getV_ws (j := L.length - 15) (by omega) (by omega)))), trivial⟩ rfl ?_
      refine wl_val (v_assign' (by conv => (lhs; whnf))) rfl ?_
      refine wl_nil ⟨rfl, ?_⟩
      refine fl_nil (by kernel_rfl) trivial ?_
      refine then_go ?_
      refine wc_seq ?_
      refine wc_draw TF.mixed ?_
      have st := st.pure (touch_drew _)
      refine fl_val 0 rfl (fun _ => (v_move' (by conv => (lhs; whnf)))) rfl (by kernel_rfl) ?_
      refine fl_val 1 rfl (fun _ => (v_sub' (c := ((L.length - 2 : Nat) : Int)) rfl rfl (by omega) (by omega) (by omega))) rfl (by kernel_rfl) ?_
      refine fl_val 2 rfl (fun _ => (v_iaa (L.length - 2) Try.underlying138 TF.t127 rfl rfl (by first | rfl | omega) (by first | omega | (dsimp only at *; omega)))) rfl (by kernel_rfl) ?_
      refine fl_ld 3 rfl (v_load rfl (st.reads (v := u32 (L.getD (L.length - 2) 0)) 0 rfl TF.t127 (getV_ws (j := L.length - 2) (by omega) (by omega)))) (by kernel_rfl) ?_
      refine fl_val 5 rfl (fun _ => (v_move' (by conv => (lhs; whnf)))) rfl (by kernel_rfl) ?_
      refine fl_val 6 rfl (fun _ => (v_sub' (c := ((L.length - 2 : Nat) : Int)) rfl rfl (by omega) (by omega) (by omega))) rfl (by kernel_rfl) ?_
      refine fl_val 7 rfl (fun _ => (v_iaa (L.length - 2) Try.underlying138 TF.t127 rfl rfl (by first | rfl | omega) (by first | omega | (dsimp only at *; omega)))) rfl (by kernel_rfl) ?_
      refine fl_ld 8 rfl (v_load rfl (st.reads (v := u32 (L.getD (L.length - 2) 0)) 0 rfl TF.t127 (getV_ws (j := L.length - 2) (by omega) (by omega)))) (by kernel_rfl) ?_
      refine fl_val 11 rfl (fun _ => (v_move' (by conv => (lhs; whnf)))) rfl (by kernel_rfl) ?_
      refine fl_val 12 rfl (fun _ => (v_sub' (c := ((L.length - 2 : Nat) : Int)) rfl rfl (by omega) (by omega) (by omega))) rfl (by kernel_rfl) ?_
      refine fl_val 13 rfl (fun _ => (v_iaa (L.length - 2) Try.underlying138 TF.t127 rfl rfl (by first | rfl | omega) (by first | omega | (dsimp only at *; omega)))) rfl (by kernel_rfl) ?_
      refine fl_ld 14 rfl (v_load rfl (st.reads (v := u32 (L.getD (L.length - 2) 0)) 0 rfl TF.t127 (getV_ws (j := L.length - 2) (by omega) (by omega)))) (by kernel_rfl) ?_
      refine fl_val 15 rfl (fun _ => (v_shr32 10 rfl rfl (by first | omega | decide | (dsimp only at *; omega)))) rfl (by kernel_rfl) ?_
      refine fl_eff1 4 [15, 13, 12, 11, 7, 6, 5, 2, 1, 0] [14, 8] (by kernel_rfl) ⟨obl_ld rfl rfl rfl (v_load rfl (st.reads (v := u32 (L.getD (L.length - 2) 0)) 0 rfl TF.t127 (getV_ws (j := L.length - 2) (by omega) (by omega)))), obl_ld rfl rfl rfl (v_load rfl (st.reads (v := u32 (L.getD (L.length - 2) 0)) 0 rfl TF.t127 (getV_ws (j := L.length - 2) (by omega) (by omega)))), obl_ld rfl rfl rfl (v_load rfl (st.reads (v := u32 (L.getD (L.length - 2) 0)) 0 rfl TF.t127 (getV_ws (j := L.length - 2) (by omega) (by omega)))), trivial⟩ rfl ?_
      refine wl_call rfl (c_turn (n := 17) (by decide)) rfl ?_
      rintro v51 w ⟨rfl, rfl⟩
      refine wl_nil ⟨rfl, ?_⟩
      refine fl_eff1 9 [15, 13, 12, 11, 7, 6, 5, 2, 1, 0] [14] (by kernel_rfl) ⟨obl_ld rfl rfl rfl (v_load rfl (st.reads (v := u32 (L.getD (L.length - 2) 0)) 0 rfl TF.t127 (getV_ws (j := L.length - 2) (by omega) (by omega)))), obl_ld rfl rfl rfl (v_load rfl (st.reads (v := u32 (L.getD (L.length - 2) 0)) 0 rfl TF.t127 (getV_ws (j := L.length - 2) (by omega) (by omega)))), trivial⟩ rfl ?_
      refine wl_call rfl (c_turn (n := 19) (by decide)) rfl ?_
      rintro v56 w ⟨rfl, rfl⟩
      refine wl_nil ⟨rfl, ?_⟩
      refine fl_val 10 rfl (fun _ => (v_xor32 rfl rfl)) rfl (by kernel_rfl) ?_
      refine fl_val 16 rfl (fun _ => (v_xor32 rfl rfl)) rfl (by kernel_rfl) ?_
      refine fl_eff1 17 [] [] (by kernel_rfl) ⟨obl_ld rfl rfl rfl (v_load rfl (st.reads (v := u32 (L.getD (L.length - 2) 0)) 0 rfl TF.t127 (getV_ws (j := L.length - 2) (by omega) (by omega)))), trivial⟩ rfl ?_
      refine wl_val (v_assign' (by conv => (lhs; whnf))) rfl ?_
      refine wl_nil ⟨rfl, ?_⟩
      refine fl_nil (by kernel_rfl) trivial ?_
      refine then_go ?_
      refine wc_draw TF.mixed ?_
      have st := st.pure (touch_drew _)
      refine fl_val 0 rfl (fun _ => (v_move' (by conv => (lhs; whnf)))) rfl (by kernel_rfl) ?_
      refine fl_val 1 rfl (fun _ => (v_move' (by conv => (lhs; whnf)))) rfl (by kernel_rfl) ?_
      refine fl_val 2 rfl (fun _ => (v_sub' (c := ((L.length - 16 : Nat) : Int)) rfl rfl (by omega) (by omega) (by omega))) rfl (by kernel_rfl) ?_
      refine fl_val 3 rfl (fun _ => (v_iaa (L.length - 16) Try.underlying138 TF.t127 rfl rfl (by first | rfl | omega) (by first | omega | (dsimp only at *; omega)))) rfl (by kernel_rfl) ?_
      refine fl_ld 4 rfl (v_load rfl (st.reads (v := u32 (L.getD (L.length - 16) 0)) 0 rfl TF.t127 (getV_ws (j := L.length - 16) (by omega) (by omega)))) (by kernel_rfl) ?_
      refine fl_val 5 rfl (fun _ => (v_move' (by conv => (lhs; whnf)))) rfl (by kernel_rfl) ?_
      refine fl_val 6 rfl (fun _ => (v_add32 rfl rfl)) rfl (by kernel_rfl) ?_
      refine fl_val 7 rfl (fun _ => (v_move' (by conv => (lhs; whnf)))) rfl (by kernel_rfl) ?_
      refine fl_val 8 rfl (fun _ => (v_sub' (c := ((L.length - 7 : Nat) : Int)) rfl rfl (by omega) (by omega) (by omega))) rfl (by kernel_rfl) ?_
      refine fl_val 9 rfl (fun _ => (v_iaa (L.length - 7) Try.underlying138 TF.t127 rfl rfl (by first | rfl | omega) (by first | omega | (dsimp only at *; omega)))) rfl (by kernel_rfl) ?_
      refine fl_ld 10 rfl (v_load rfl (st.reads (v := u32 (L.getD (L.length - 7) 0)) 0 rfl TF.t127 (getV_ws (j := L.length - 7) (by omega) (by omega)))) (by kernel_rfl) ?_
      refine fl_val 11 rfl (fun _ => (v_add32 rfl rfl)) rfl (by kernel_rfl) ?_
      refine fl_val 12 rfl (fun _ => (v_move' (by conv => (lhs; whnf)))) rfl (by kernel_rfl) ?_
      refine fl_val 13 rfl (fun _ => (v_add32 rfl rfl)) rfl (by kernel_rfl) ?_
      refine fl_val 14 rfl (fun _ => (v_iaa (L.length) Try.underlying138 TF.t127 rfl rfl (by first | rfl | omega) (by first | omega | (dsimp only at *; omega)))) rfl (by kernel_rfl) ?_
      refine fl_eff1 15 [] [] (by kernel_rfl) ⟨obl_ld rfl rfl rfl (v_load rfl (st.reads (v := u32 (L.getD (L.length - 7) 0)) 0 rfl TF.t127 (getV_ws (j := L.length - 7) (by omega) (by omega)))), obl_ld rfl rfl rfl (v_load rfl (st.reads (v := u32 (L.getD (L.length - 16) 0)) 0 rfl TF.t127 (getV_ws (j := L.length - 16) (by omega) (by omega)))), trivial⟩ rfl ?_
      refine wl_store1 (v := u32 (ext1 L)) 0 st rfl TF.t127 rfl rfl rfl (by simp [ws]; omega) ?_
      intro w st
      refine wl_nil ⟨rfl, ?_⟩
      refine fl_nil (by kernel_rfl) trivial ?_
      refine block_go (then_go ?_)
      refine wc_region ?_
      refine wl_val (v_move' (by conv => (lhs; whnf))) rfl ?_
      refine wl_val (v_add' rfl rfl rfl (by first | omega | (dsimp only at *; omega)) (by first | omega | (dsimp only at *; omega))) rfl ?_
      refine wl_val (v_assign' (by conv => (lhs; whnf))) rfl ?_
      refine wl_nil ?_
      refine then_go ?_
      refine ⟨q - 1, by simp; omega, L ++ [ext1 L], by simp; omega, by simp; omega, ?_, rfl, rfl, by simp; rfl, ?_⟩
      · rw [← hLe, show 64 - L.length = (64 - (L ++ [ext1 L]).length) + 1 by simp; omega]
        rfl
      have e : (ws L ++ List.replicate (64 - L.length) (u32 0)).toArray.setIfInBounds (0 + L.length * 1) (u32 (ext1 L)) = (ws (L ++ [ext1 L]) ++ List.replicate (64 - (L ++ [ext1 L]).length) (u32 0)).toArray := by
        rw [show 64 - L.length = (64 - (L ++ [ext1 L]).length) + 1 by simp; omega, List.replicate_succ, set_app (by simp [ws])]
        simp [ws]
      rw [← e]
      exact st
    · refine wc_exit (then_exit (then_exit (block_hit ?_)))
      refine then_go ?_
      refine wc_seq ?_
      refine wc_region ?_
      refine wl_val (v_load rfl (st.reads 0 rfl TF.t138 (getV_all (by simp [ws]; omega)))) rfl ?_
      have hL64 : L.length = 64 := by omega
      rw [hL64] at hLe
      have hLs : L = sched blk := hLe
      have e : (ws L ++ List.replicate (64 - L.length) (u32 0)).toArray = (ws (sched blk)).toArray := by rw [hL64, hLs]; simp
      rw [e] at st ⊢
      refine wl_storeW (cs := (ws (sched blk)).toArray) 1 st rfl TF.t138 rfl rfl (by simp [ws, length_sched]) (by simp) (by simpa using one_ws _) ?_
      intro w st
      refine wl_nil ?_
      refine then_go ?_
      refine wc_ret ?_
      exact ret1c rfl (st.reads 1 rfl TF.t138 (getV_all (by simp [ws, length_sched]))) ⟨(st.keepOnly (l := []) (List.nil_sublist _)).touch, rfl⟩
end
end Go.Proofs.Ytjjpakjgppmmdaa

/-
  SHA-256: the reference's block.
-/
namespace Go.Proofs.Ytjjpakjgppmmdaa
open Go Go.RowKit K SH

namespace SH
/-- So many words of a state added. -/
def addI (v u : V8) (i : Nat) : List UInt32 := (List.range 8).map fun s => if s < i then v.l.getD s 0 + u.l.getD s 0 else v.l.getD s 0

theorem length_addI (v u : V8) (i : Nat) : (addI v u i).length = 8 := by simp [addI]
theorem addI_zero (v u : V8) : addI v u 0 = v.l := rfl
theorem addI_all (v u : V8) : addI v u 8 = (v.add u).l := rfl
theorem addI_at (v u : V8) (i : Nat) (hi : i < 8) : (addI v u i).getD i 0 = v.l.getD i 0 := by simp [addI, List.getD, hi]
theorem addI_succ (v u : V8) (i : Nat) : (addI v u i).set i (v.l.getD i 0 + u.l.getD i 0) = addI v u (i + 1) := by
  apply List.ext_getElem
  · simp [length_addI]
  · intro s h1 h2
    have hs : s < 8 := by simpa [length_addI] using h2
    rw [List.getElem_set]
    simp only [addI, List.getElem_map, List.getElem_range]
    split
    · rename_i he
      subst he
      rw [if_pos (by omega)]
    · rename_i he
      by_cases h : s < i
      · rw [if_pos h, if_pos (by omega)]
      · rw [if_neg h, if_neg (by omega)]

theorem fill8 (a b c d e f g h : UInt32) : Instr.fill (fun i => some (i * 1, 1)) (Value.agg (Array.replicate 8 (.int .u32 0))).cells [(0, u32 a), (1, u32 b), (2, u32 c), (3, u32 d), (4, u32 e), (5, u32 f), (6, u32 g), (7, u32 h)] = some (ws [a, b, c, d, e, f, g, h]).toArray :=
  fill_run (fill_one [] [u32 0] [u32 0, u32 0, u32 0, u32 0, u32 0, u32 0, u32 0] rfl rfl rfl (fill_one [u32 a] [u32 0] [u32 0, u32 0, u32 0, u32 0, u32 0, u32 0] rfl rfl rfl (fill_one [u32 a, u32 b] [u32 0] [u32 0, u32 0, u32 0, u32 0, u32 0] rfl rfl rfl (fill_one [u32 a, u32 b, u32 c] [u32 0] [u32 0, u32 0, u32 0, u32 0] rfl rfl rfl (fill_one [u32 a, u32 b, u32 c, u32 d] [u32 0] [u32 0, u32 0, u32 0] rfl rfl rfl (fill_one [u32 a, u32 b, u32 c, u32 d, u32 e] [u32 0] [u32 0, u32 0] rfl rfl rfl (fill_one [u32 a, u32 b, u32 c, u32 d, u32 e, u32 f] [u32 0] [u32 0] rfl rfl rfl (fill_one [u32 a, u32 b, u32 c, u32 d, u32 e, u32 f, u32 g] [u32 0] [] rfl rfl rfl (rfl)))))))))

theorem length_l (v : V8) : v.l.length = 8 := rfl
end SH

section
variable {m : Mem} {wI : World}

theorem c_block {h : V8} {bv : Value} {blk : List UInt8} (him : Im m wI) (hb : SlM m bv 1 64 (bs blk)) (hl : blk.length = 64) :
    Ret Try.prog 100 #[arr32 h.l, bv] wI fun v w' => Tch wI w' [] [] ∧ v = arr32 (comp h blk).l := by
  have st := St.start him
  refine ret_of Try.call100 Try.func100 rfl Try.ntmps100 Try.results100 rfl ?_
  refine wc_seq ?_
  refine wc_region ?_
  refine wl_box (v := .agg (ws h.l).toArray) rfl st rfl ?_
  intro b2 w st
  refine wl_alloc TF.z128 st rfl ?_
  intro b4 w st
  refine wl_nil ?_
  refine then_go ?_
  refine wc_seq ?_
  refine wc_region ?_
  refine wl_val (v_move' (by conv => (lhs; whnf))) rfl ?_
  refine wl_call rfl (c_words st.im hb hl) rfl ?_
  rintro v16 w ⟨t, rfl⟩
  have st := st.pure t
  refine wl_alloc TF.z138 st rfl ?_
  intro b5 w st
  refine wl_storeW (cs := (ws (sched blk)).toArray) 0 st rfl TF.t138 rfl rfl (by simp [ws, length_sched]) rfl (by simpa using one_ws _) ?_
  intro w st
  refine wl_nil ?_
  refine then_go ?_
  refine wc_seq ?_
  refine wc_region ?_
  refine wl_call rfl (c_round st.im) rfl ?_
  rintro v17 w ⟨t, rfl⟩
  have st := st.pure t
  refine wl_alloc TF.z138 st rfl ?_
  intro b6 w st
  refine wl_storeW (cs := (ws kk).toArray) 0 st rfl TF.t138 rfl rfl rfl rfl (by simpa using one_ws _) ?_
  intro w st
  refine wl_nil ?_
  refine then_go ?_
  refine wc_seq ?_
  refine wc_region ?_
  refine wl_val (v_load rfl (st.reads 3 rfl TF.t128 (getV_all (c := (ws h.l).toArray) rfl))) rfl ?_
  refine wl_alloc TF.z128 st rfl ?_
  intro b7 w st
  refine wl_storeW (cs := (ws h.l).toArray) 0 st rfl TF.t128 rfl rfl rfl rfl (by simpa using one_ws _) ?_
  intro w st
  refine wl_nil ?_
  refine then_go ?_
  refine wc_seq ?_
  refine wc_seq ?_
  refine wc_region ?_
  refine wl_val (v_assign' (by conv => (lhs; whnf))) rfl ?_
  refine wl_nil ?_
  refine then_go ?_
  refine wc_block ?_
  refine wc_loop (S := Nat) (fun q r w' => ∃ j, q + j = 64 ∧ r 2 = .pointer (some ⟨b2, 0, none⟩) ∧ r 4 = .pointer (some ⟨b4, 0, none⟩) ∧ r 5 = .pointer (some ⟨b5, 0, none⟩) ∧ r 6 = .pointer (some ⟨b6, 0, none⟩) ∧ r 7 = .pointer (some ⟨b7, 0, none⟩) ∧ r 8 = .int .i64 j ∧
    St m m [] wI w' [K.blk b7 (ws (rnds j h (sched blk)).l).toArray 128, K.blk b6 (ws kk).toArray 138, K.blk b5 (ws (sched blk)).toArray 138, K.blk b4 (Array.replicate 8 (u32 0)) 128, K.blk b2 (ws h.l).toArray 128]) id 64 ⟨0, rfl, rfl, rfl, rfl, rfl, rfl, rfl, st⟩ ?_
  rintro q r w2 ⟨j, hqj, h2, h4, h5, h6, h7, h8, st⟩
  refine wc_o 2 h2 (wc_o 4 h4 (wc_o 5 h5 (wc_o 6 h6 (wc_o 7 h7 (wc_o 8 h8 ?_)))))
  refine wc_seq ?_
  refine wc_seq ?_
  refine wc_region ?_
  refine wl_val (v_move' (by conv => (lhs; whnf))) rfl ?_
  refine wl_val (v_lss rfl rfl) rfl ?_
  refine wl_nil ?_
  refine then_go ?_
  refine wc_if rfl (fun h20 => ?_) (fun h20 => ?_)
  · refine wc_skip ?_
    refine then_go ?_
    refine wc_seq ?_
    refine wc_block ?_
    refine wc_seq ?_
    have hj : j < 64 := by omega
    obtain ⟨v, hv⟩ : ∃ v, v = rnds j h (sched blk) := ⟨_, rfl⟩
    obtain ⟨kj, hkj⟩ : ∃ x, x = kk.getD j 0 := ⟨_, rfl⟩
    obtain ⟨wj, hwj⟩ : ∃ x, x = (sched blk).getD j 0 := ⟨_, rfl⟩
    rw [← hv] at st
    refine wc_draw TF.mixed ?_
    have st := st.pure (touch_drew _)
    refine fl_val 0 rfl (fun _ => (v_iaa 4 Try.underlying128 TF.t127 rfl rfl (by first | rfl | omega) (by first | omega | (dsimp only at *; omega)))) rfl (by kernel_rfl) ?_
    refine fl_ld 1 rfl (v_load rfl (st.reads (v := u32 v.e) 0 rfl TF.t127 rfl)) (by kernel_rfl) ?_
    refine fl_val 3 rfl (fun _ => (v_iaa 4 Try.underlying128 TF.t127 rfl rfl (by first | rfl | omega) (by first | omega | (dsimp only at *; omega)))) rfl (by kernel_rfl) ?_
    refine fl_ld 4 rfl (v_load rfl (st.reads (v := u32 v.e) 0 rfl TF.t127 rfl)) (by kernel_rfl) ?_
    refine fl_val 7 rfl (fun _ => (v_iaa 4 Try.underlying128 TF.t127 rfl rfl (by first | rfl | omega) (by first | omega | (dsimp only at *; omega)))) rfl (by kernel_rfl) ?_
    refine fl_ld 8 rfl (v_load rfl (st.reads (v := u32 v.e) 0 rfl TF.t127 rfl)) (by kernel_rfl) ?_
    refine fl_eff1 2 [7, 3, 0] [8, 4] (by kernel_rfl) ⟨obl_ld rfl rfl rfl (v_load rfl (st.reads (v := u32 v.e) 0 rfl TF.t127 rfl)), obl_ld rfl rfl rfl (v_load rfl (st.reads (v := u32 v.e) 0 rfl TF.t127 rfl)), obl_ld rfl rfl rfl (v_load rfl (st.reads (v := u32 v.e) 0 rfl TF.t127 rfl)), trivial⟩ rfl ?_
    refine wl_call rfl (c_turn (n := 6) (by decide)) rfl ?_
    rintro v25 w ⟨rfl, rfl⟩
    refine wl_nil ⟨rfl, ?_⟩
    refine fl_eff1 5 [7, 3, 0] [8] (by kernel_rfl) ⟨obl_ld rfl rfl rfl (v_load rfl (st.reads (v := u32 v.e) 0 rfl TF.t127 rfl)), obl_ld rfl rfl rfl (v_load rfl (st.reads (v := u32 v.e) 0 rfl TF.t127 rfl)), trivial⟩ rfl ?_
    refine wl_call rfl (c_turn (n := 11) (by decide)) rfl ?_
    rintro v28 w ⟨rfl, rfl⟩
    refine wl_nil ⟨rfl, ?_⟩
    refine fl_val 6 rfl (fun _ => (v_xor32 rfl rfl)) rfl (by kernel_rfl) ?_
    refine fl_eff1 9 [6, 7, 3, 0] [] (by kernel_rfl) ⟨obl_ld rfl rfl rfl (v_load rfl (st.reads (v := u32 v.e) 0 rfl TF.t127 rfl)), trivial⟩ rfl ?_
    refine wl_call rfl (c_turn (n := 25) (by decide)) rfl ?_
    rintro v32 w ⟨rfl, rfl⟩
    refine wl_nil ⟨rfl, ?_⟩
    refine fl_val 10 rfl (fun _ => (v_xor32 rfl rfl)) rfl (by kernel_rfl) ?_
    refine fl_eff1 11 [] [] (by kernel_rfl) trivial rfl ?_
    refine wl_val (v_assign' (by conv => (lhs; whnf))) rfl ?_
    refine wl_nil ⟨rfl, ?_⟩
    refine fl_nil (by kernel_rfl) trivial ?_
    refine then_go ?_
    refine wc_seq ?_
    refine wc_region ?_
    refine wl_val (v_iaa 4 Try.underlying128 TF.t127 rfl rfl (by first | rfl | omega) (by first | omega | (dsimp only at *; omega))) rfl ?_
    refine wl_val (v_load rfl (st.reads (v := u32 v.e) 0 rfl TF.t127 rfl)) rfl ?_
    refine wl_val (v_iaa 5 Try.underlying128 TF.t127 rfl rfl (by first | rfl | omega) (by first | omega | (dsimp only at *; omega))) rfl ?_
    refine wl_val (v_load rfl (st.reads (v := u32 v.f) 0 rfl TF.t127 rfl)) rfl ?_
    refine wl_val (v_and32 rfl rfl) rfl ?_
    refine wl_val (v_iaa 4 Try.underlying128 TF.t127 rfl rfl (by first | rfl | omega) (by first | omega | (dsimp only at *; omega))) rfl ?_
    refine wl_val (v_load rfl (st.reads (v := u32 v.e) 0 rfl TF.t127 rfl)) rfl ?_
    refine wl_val (v_xor32 (b := 4294967295) rfl rfl) rfl ?_
    refine wl_val (v_iaa 6 Try.underlying128 TF.t127 rfl rfl (by first | rfl | omega) (by first | omega | (dsimp only at *; omega))) rfl ?_
    refine wl_val (v_load rfl (st.reads (v := u32 v.g) 0 rfl TF.t127 rfl)) rfl ?_
    refine wl_val (v_and32 rfl rfl) rfl ?_
    refine wl_val (v_xor32 rfl rfl) rfl ?_
    refine wl_val (v_assign' (by conv => (lhs; whnf))) rfl ?_
    refine wl_nil ?_
    refine then_go ?_
    refine wc_seq ?_
    refine wc_draw TF.mixed ?_
    have st := st.pure (touch_drew _)
    refine fl_val 0 rfl (fun _ => (v_iaa 7 Try.underlying128 TF.t127 rfl rfl (by first | rfl | omega) (by first | omega | (dsimp only at *; omega)))) rfl (by kernel_rfl) ?_
    refine fl_ld 1 rfl (v_load rfl (st.reads (v := u32 v.h) 0 rfl TF.t127 rfl)) (by kernel_rfl) ?_
    refine fl_val 2 rfl (fun _ => (v_move' (by conv => (lhs; whnf)))) rfl (by kernel_rfl) ?_
    refine fl_val 3 rfl (fun _ => (v_add32 rfl rfl)) rfl (by kernel_rfl) ?_
    refine fl_val 4 rfl (fun _ => (v_move' (by conv => (lhs; whnf)))) rfl (by kernel_rfl) ?_
    refine fl_val 5 rfl (fun _ => (v_add32 rfl rfl)) rfl (by kernel_rfl) ?_
    refine fl_val 6 rfl (fun _ => (v_move' (by conv => (lhs; whnf)))) rfl (by kernel_rfl) ?_
    refine fl_val 7 rfl (fun _ => (v_iaa j Try.underlying138 TF.t127 rfl rfl (by first | rfl | omega) (by first | omega | (dsimp only at *; omega)))) rfl (by kernel_rfl) ?_
    refine fl_ld 8 rfl (v_load rfl (st.reads (v := u32 kj) 1 rfl TF.t127 (by rw [hkj]; exact getV_wse (j := j) (by omega) (by rw [length_kk]; omega)))) (by kernel_rfl) ?_
    refine fl_val 9 rfl (fun _ => (v_add32 rfl rfl)) rfl (by kernel_rfl) ?_
    refine fl_val 10 rfl (fun _ => (v_move' (by conv => (lhs; whnf)))) rfl (by kernel_rfl) ?_
    refine fl_val 11 rfl (fun _ => (v_iaa j Try.underlying138 TF.t127 rfl rfl (by first | rfl | omega) (by first | omega | (dsimp only at *; omega)))) rfl (by kernel_rfl) ?_
    refine fl_ld 12 rfl (v_load rfl (st.reads (v := u32 wj) 2 rfl TF.t127 (by rw [hwj]; exact getV_wse (j := j) (by omega) (by rw [length_sched]; omega)))) (by kernel_rfl) ?_
    refine fl_val 13 rfl (fun _ => (v_add32 rfl rfl)) rfl (by kernel_rfl) ?_
    refine fl_eff1 14 [] [] (by kernel_rfl) ⟨obl_ld rfl rfl rfl (v_load rfl (st.reads (v := u32 wj) 2 rfl TF.t127 (by rw [hwj]; exact getV_wse (j := j) (by omega) (by rw [length_sched]; omega)))), obl_ld rfl rfl rfl (v_load rfl (st.reads (v := u32 kj) 1 rfl TF.t127 (by rw [hkj]; exact getV_wse (j := j) (by omega) (by rw [length_kk]; omega)))), obl_ld rfl rfl rfl (v_load rfl (st.reads (v := u32 v.h) 0 rfl TF.t127 rfl)), trivial⟩ rfl ?_
    refine wl_val (v_assign' (by conv => (lhs; whnf))) rfl ?_
    refine wl_nil ⟨rfl, ?_⟩
    refine fl_nil (by kernel_rfl) trivial ?_
    refine then_go ?_
    refine wc_seq ?_
    refine wc_draw TF.mixed ?_
    have st := st.pure (touch_drew _)
    refine fl_val 0 rfl (fun _ => (v_iaa 0 Try.underlying128 TF.t127 rfl rfl (by first | rfl | omega) (by first | omega | (dsimp only at *; omega)))) rfl (by kernel_rfl) ?_
    refine fl_ld 1 rfl (v_load rfl (st.reads (v := u32 v.a) 0 rfl TF.t127 rfl)) (by kernel_rfl) ?_
    refine fl_val 3 rfl (fun _ => (v_iaa 0 Try.underlying128 TF.t127 rfl rfl (by first | rfl | omega) (by first | omega | (dsimp only at *; omega)))) rfl (by kernel_rfl) ?_
    refine fl_ld 4 rfl (v_load rfl (st.reads (v := u32 v.a) 0 rfl TF.t127 rfl)) (by kernel_rfl) ?_
    refine fl_val 7 rfl (fun _ => (v_iaa 0 Try.underlying128 TF.t127 rfl rfl (by first | rfl | omega) (by first | omega | (dsimp only at *; omega)))) rfl (by kernel_rfl) ?_
    refine fl_ld 8 rfl (v_load rfl (st.reads (v := u32 v.a) 0 rfl TF.t127 rfl)) (by kernel_rfl) ?_
    refine fl_eff1 2 [7, 3, 0] [8, 4] (by kernel_rfl) ⟨obl_ld rfl rfl rfl (v_load rfl (st.reads (v := u32 v.a) 0 rfl TF.t127 rfl)), obl_ld rfl rfl rfl (v_load rfl (st.reads (v := u32 v.a) 0 rfl TF.t127 rfl)), obl_ld rfl rfl rfl (v_load rfl (st.reads (v := u32 v.a) 0 rfl TF.t127 rfl)), trivial⟩ rfl ?_
    refine wl_call rfl (c_turn (n := 2) (by decide)) rfl ?_
    rintro v62 w ⟨rfl, rfl⟩
    refine wl_nil ⟨rfl, ?_⟩
    refine fl_eff1 5 [7, 3, 0] [8] (by kernel_rfl) ⟨obl_ld rfl rfl rfl (v_load rfl (st.reads (v := u32 v.a) 0 rfl TF.t127 rfl)), obl_ld rfl rfl rfl (v_load rfl (st.reads (v := u32 v.a) 0 rfl TF.t127 rfl)), trivial⟩ rfl ?_
    refine wl_call rfl (c_turn (n := 13) (by decide)) rfl ?_
    rintro v65 w ⟨rfl, rfl⟩
    refine wl_nil ⟨rfl, ?_⟩
    refine fl_val 6 rfl (fun _ => (v_xor32 rfl rfl)) rfl (by kernel_rfl) ?_
    refine fl_eff1 9 [6, 7, 3, 0] [] (by kernel_rfl) ⟨obl_ld rfl rfl rfl (v_load rfl (st.reads (v := u32 v.a) 0 rfl TF.t127 rfl)), trivial⟩ rfl ?_
    refine wl_call rfl (c_turn (n := 22) (by decide)) rfl ?_
    rintro v69 w ⟨rfl, rfl⟩
    refine wl_nil ⟨rfl, ?_⟩
    refine fl_val 10 rfl (fun _ => (v_xor32 rfl rfl)) rfl (by kernel_rfl) ?_
    refine fl_eff1 11 [] [] (by kernel_rfl) trivial rfl ?_
    refine wl_val (v_assign' (by conv => (lhs; whnf))) rfl ?_
    refine wl_nil ⟨rfl, ?_⟩
    refine fl_nil (by kernel_rfl) trivial ?_
    refine then_go ?_
    refine wc_seq ?_
    refine wc_region ?_
    refine wl_val (v_iaa 0 Try.underlying128 TF.t127 rfl rfl (by first | rfl | omega) (by first | omega | (dsimp only at *; omega))) rfl ?_
    refine wl_val (v_load rfl (st.reads (v := u32 v.a) 0 rfl TF.t127 rfl)) rfl ?_
    refine wl_val (v_iaa 1 Try.underlying128 TF.t127 rfl rfl (by first | rfl | omega) (by first | omega | (dsimp only at *; omega))) rfl ?_
    refine wl_val (v_load rfl (st.reads (v := u32 v.b) 0 rfl TF.t127 rfl)) rfl ?_
    refine wl_val (v_and32 rfl rfl) rfl ?_
    refine wl_val (v_iaa 0 Try.underlying128 TF.t127 rfl rfl (by first | rfl | omega) (by first | omega | (dsimp only at *; omega))) rfl ?_
    refine wl_val (v_load rfl (st.reads (v := u32 v.a) 0 rfl TF.t127 rfl)) rfl ?_
    refine wl_val (v_iaa 2 Try.underlying128 TF.t127 rfl rfl (by first | rfl | omega) (by first | omega | (dsimp only at *; omega))) rfl ?_
    refine wl_val (v_load rfl (st.reads (v := u32 v.c) 0 rfl TF.t127 rfl)) rfl ?_
    refine wl_val (v_and32 rfl rfl) rfl ?_
    refine wl_val (v_xor32 rfl rfl) rfl ?_
    refine wl_val (v_iaa 1 Try.underlying128 TF.t127 rfl rfl (by first | rfl | omega) (by first | omega | (dsimp only at *; omega))) rfl ?_
    refine wl_val (v_load rfl (st.reads (v := u32 v.b) 0 rfl TF.t127 rfl)) rfl ?_
    refine wl_val (v_iaa 2 Try.underlying128 TF.t127 rfl rfl (by first | rfl | omega) (by first | omega | (dsimp only at *; omega))) rfl ?_
    refine wl_val (v_load rfl (st.reads (v := u32 v.c) 0 rfl TF.t127 rfl)) rfl ?_
    refine wl_val (v_and32 rfl rfl) rfl ?_
    refine wl_val (v_xor32 rfl rfl) rfl ?_
    refine wl_val (v_assign' (by conv => (lhs; whnf))) rfl ?_
    refine wl_nil ?_
    refine then_go ?_
    refine wc_region ?_
    refine wl_val (v_move' (by conv => (lhs; whnf))) rfl ?_
    refine wl_val (v_move' (by conv => (lhs; whnf))) rfl ?_
    refine wl_val (v_add32 rfl rfl) rfl ?_
    refine wl_val (v_move' (by conv => (lhs; whnf))) rfl ?_
    refine wl_val (v_add32 rfl rfl) rfl ?_
    rw [UInt32.add_assoc]
    refine wl_val (v_iaa 0 Try.underlying128 TF.t127 rfl rfl (by first | rfl | omega) (by first | omega | (dsimp only at *; omega))) rfl ?_
    refine wl_val (v_load rfl (st.reads (v := u32 v.a) 0 rfl TF.t127 rfl)) rfl ?_
    refine wl_val (v_iaa 1 Try.underlying128 TF.t127 rfl rfl (by first | rfl | omega) (by first | omega | (dsimp only at *; omega))) rfl ?_
    refine wl_val (v_load rfl (st.reads (v := u32 v.b) 0 rfl TF.t127 rfl)) rfl ?_
    refine wl_val (v_iaa 2 Try.underlying128 TF.t127 rfl rfl (by first | rfl | omega) (by first | omega | (dsimp only at *; omega))) rfl ?_
    refine wl_val (v_load rfl (st.reads (v := u32 v.c) 0 rfl TF.t127 rfl)) rfl ?_
    refine wl_val (v_iaa 3 Try.underlying128 TF.t127 rfl rfl (by first | rfl | omega) (by first | omega | (dsimp only at *; omega))) rfl ?_
    refine wl_val (v_load rfl (st.reads (v := u32 v.d) 0 rfl TF.t127 rfl)) rfl ?_
    refine wl_val (v_move' (by conv => (lhs; whnf))) rfl ?_
    refine wl_val (v_add32 rfl rfl) rfl ?_
    refine wl_val (v_iaa 4 Try.underlying128 TF.t127 rfl rfl (by first | rfl | omega) (by first | omega | (dsimp only at *; omega))) rfl ?_
    refine wl_val (v_load rfl (st.reads (v := u32 v.e) 0 rfl TF.t127 rfl)) rfl ?_
    refine wl_val (v_iaa 5 Try.underlying128 TF.t127 rfl rfl (by first | rfl | omega) (by first | omega | (dsimp only at *; omega))) rfl ?_
    refine wl_val (v_load rfl (st.reads (v := u32 v.f) 0 rfl TF.t127 rfl)) rfl ?_
    refine wl_val (v_iaa 6 Try.underlying128 TF.t127 rfl rfl (by first | rfl | omega) (by first | omega | (dsimp only at *; omega))) rfl ?_
    refine wl_val (v_load rfl (st.reads (v := u32 v.g) 0 rfl TF.t127 rfl)) rfl ?_
    refine wl_val (v_build_fill (c' := (ws (rnd v kj wj).l).toArray) [(0, u32 (t1 v kj wj + t2 v)), (1, u32 v.a), (2, u32 v.b), (3, u32 v.c), (4, u32 (v.d + t1 v kj wj)), (5, u32 v.e), (6, u32 v.f), (7, u32 v.g)] TF.z128 Try.underlying128 TF.t127 rfl (fill8 _ _ _ _ _ _ _ _)) rfl ?_
    refine wl_storeW (cs := (ws (rnd v kj wj).l).toArray) 0 st rfl TF.t128 rfl rfl rfl rfl (by simpa using one_ws _) ?_
    intro w st
    have hnx : rnd v kj wj = rnds (j + 1) h (sched blk) := by rw [hv, hkj, hwj]; rfl
    rw [hnx] at st
    refine wl_nil ?_
    refine block_go (then_go ?_)
    refine wc_region ?_
    refine wl_val (v_move' (by conv => (lhs; whnf))) rfl ?_
    refine wl_val (v_add' rfl rfl rfl (by first | omega | (dsimp only at *; omega)) (by first | omega | (dsimp only at *; omega))) rfl ?_
    refine wl_val (v_assign' (by conv => (lhs; whnf))) rfl ?_
    refine wl_nil ?_
    refine then_go ?_
    exact ⟨q - 1, by simp; omega, j + 1, by omega, rfl, rfl, rfl, rfl, rfl, rfl, st⟩
  · refine wc_exit (then_exit (then_exit (block_hit ?_)))
    refine then_go ?_
    refine wc_seq ?_
    refine wc_seq ?_
    refine wc_region ?_
    refine wl_val (v_assign' (by conv => (lhs; whnf))) rfl ?_
    refine wl_nil ?_
    refine then_go ?_
    refine wc_block ?_
    have hj64 : j = 64 := by omega
    subst hj64
    refine wc_loop (S := Nat) (fun q r w' => ∃ i, q + i = 8 ∧ r 2 = .pointer (some ⟨b2, 0, none⟩) ∧ r 4 = .pointer (some ⟨b4, 0, none⟩) ∧ r 7 = .pointer (some ⟨b7, 0, none⟩) ∧ r 14 = .int .i64 i ∧
      St m m [] wI w' [K.blk b7 (ws (rnds 64 h (sched blk)).l).toArray 128, K.blk b6 (ws kk).toArray 138, K.blk b5 (ws (sched blk)).toArray 138, K.blk b4 (Array.replicate 8 (u32 0)) 128, K.blk b2 (ws (addI h (rnds 64 h (sched blk)) i)).toArray 128]) id 8 ⟨0, rfl, rfl, rfl, rfl, rfl, st⟩ ?_
    rintro q2 r w3 ⟨i, hqi, h2, h4, h7, h14, st⟩
    refine wc_o 2 h2 (wc_o 4 h4 (wc_o 7 h7 (wc_o 14 h14 ?_)))
    refine wc_seq ?_
    refine wc_seq ?_
    refine wc_region ?_
    refine wl_val (v_move' (by conv => (lhs; whnf))) rfl ?_
    refine wl_val (v_lss rfl rfl) rfl ?_
    refine wl_nil ?_
    refine then_go ?_
    refine wc_if rfl (fun h111 => ?_) (fun h111 => ?_)
    · refine wc_skip ?_
      refine then_go ?_
      refine wc_seq ?_
      refine wc_block ?_
      have hi : i < 8 := by omega
      refine wc_draw TF.mixed ?_
      have st := st.pure (touch_drew _)
      refine fl_val 0 rfl (fun _ => (v_move' (by conv => (lhs; whnf)))) rfl (by kernel_rfl) ?_
      refine fl_val 1 rfl (fun _ => (v_move' (by conv => (lhs; whnf)))) rfl (by kernel_rfl) ?_
      refine fl_val 2 rfl (fun _ => (v_iaa i Try.underlying128 TF.t127 rfl rfl (by first | rfl | omega) (by first | omega | (dsimp only at *; omega)))) rfl (by kernel_rfl) ?_
      refine fl_ld 3 rfl (v_load rfl (st.reads (v := u32 (h.l.getD i 0)) 4 rfl TF.t127 (by rw [← addI_at h (rnds 64 h (sched blk)) i hi]; exact getV_wse (j := i) (by omega) (by rw [length_addI]; omega)))) (by kernel_rfl) ?_
      refine fl_val 4 rfl (fun _ => (v_move' (by conv => (lhs; whnf)))) rfl (by kernel_rfl) ?_
      refine fl_val 5 rfl (fun _ => (v_iaa i Try.underlying128 TF.t127 rfl rfl (by first | rfl | omega) (by first | omega | (dsimp only at *; omega)))) rfl (by kernel_rfl) ?_
      refine fl_ld 6 rfl (v_load rfl (st.reads (v := u32 ((rnds 64 h (sched blk)).l.getD i 0)) 0 rfl TF.t127 (getV_wse (j := i) (by omega) (by rw [length_l]; omega)))) (by kernel_rfl) ?_
      refine fl_val 7 rfl (fun _ => (v_add32 rfl rfl)) rfl (by kernel_rfl) ?_
      refine fl_val 8 rfl (fun _ => (v_iaa i Try.underlying128 TF.t127 rfl rfl (by first | rfl | omega) (by first | omega | (dsimp only at *; omega)))) rfl (by kernel_rfl) ?_
      refine fl_eff1 9 [] [] (by kernel_rfl) ⟨obl_ld rfl rfl rfl (v_load rfl (st.reads (v := u32 ((rnds 64 h (sched blk)).l.getD i 0)) 0 rfl TF.t127 (getV_wse (j := i) (by omega) (by rw [length_l]; omega)))), obl_ld rfl rfl rfl (v_load rfl (st.reads (v := u32 (h.l.getD i 0)) 4 rfl TF.t127 (by rw [← addI_at h (rnds 64 h (sched blk)) i hi]; exact getV_wse (j := i) (by omega) (by rw [length_addI]; omega)))), trivial⟩ rfl ?_
      refine wl_store1 (v := u32 (h.l.getD i 0 + (rnds 64 h (sched blk)).l.getD i 0)) 4 st rfl TF.t127 rfl rfl rfl (by simp [ws, length_addI]; omega) ?_
      intro w st
      refine wl_nil ⟨rfl, ?_⟩
      refine fl_nil (by kernel_rfl) trivial ?_
      refine block_go (then_go ?_)
      refine wc_region ?_
      refine wl_val (v_move' (by conv => (lhs; whnf))) rfl ?_
      refine wl_val (v_add' rfl rfl rfl (by first | omega | (dsimp only at *; omega)) (by first | omega | (dsimp only at *; omega))) rfl ?_
      refine wl_val (v_assign' (by conv => (lhs; whnf))) rfl ?_
      refine wl_nil ?_
      refine then_go ?_
      refine ⟨q2 - 1, by simp; omega, i + 1, by omega, rfl, rfl, rfl, rfl, ?_⟩
      have e : (ws (addI h (rnds 64 h (sched blk)) i)).toArray.setIfInBounds (0 + i * 1) (u32 (h.l.getD i 0 + (rnds 64 h (sched blk)).l.getD i 0)) = (ws (addI h (rnds 64 h (sched blk)) (i + 1))).toArray := by
        rw [← addI_succ h (rnds 64 h (sched blk)) i, show 0 + i * 1 = i by omega]
        simp [ws, List.map_set]
      rw [← e]
      exact st
    · refine wc_exit (then_exit (then_exit (block_hit ?_)))
      refine then_go ?_
      refine wc_seq ?_
      have hi8 : i = 8 := by omega
      subst hi8
      rw [addI_all] at st
      refine wc_region ?_
      refine wl_val (v_load rfl (st.reads 4 rfl TF.t128 (getV_all (c := (ws (comp h blk).l).toArray) rfl))) rfl ?_
      refine wl_storeW (cs := (ws (comp h blk).l).toArray) 3 st rfl TF.t128 rfl rfl rfl rfl (by simpa using one_ws _) ?_
      intro w st
      refine wl_nil ?_
      refine then_go ?_
      refine wc_ret ?_
      exact ret1c rfl (st.reads 3 rfl TF.t128 (getV_all (c := (ws (comp h blk).l).toArray) rfl)) ⟨(st.keepOnly (l := []) (List.nil_sublist _)).touch, rfl⟩
end
end Go.Proofs.Ytjjpakjgppmmdaa

/-
  SHA-256: the reference's Sum.
-/
namespace Go.Proofs.Ytjjpakjgppmmdaa
open Go Go.RowKit K SH

namespace SH
/-- The state when so many blocks of a text have come. -/
def hs (l : List UInt8) : Nat → V8
  | 0 => h0
  | k + 1 => comp (hs l k) ((l.drop (64 * k)).take 64)

def digB (v : V8) (i : Nat) : UInt8 := UInt8.ofNat (shr32 (v.l.getD (i / 4) 0) (24 - 8 * (i % 4))).toNat
def dig (v : V8) : List UInt8 := (List.range 32).map (digB v)
def full (b : List UInt8) : List UInt8 := b ++ pad (UInt64.ofNat b.length)
/-- SHA-256. -/
def sum (b : List UInt8) : List UInt8 := dig (hs (full b) ((full b).length / 64))

theorem length_dig (v : V8) : (dig v).length = 32 := by simp [dig]
theorem length_sum (b : List UInt8) : (sum b).length = 32 := length_dig _

theorem full_mod (b : List UInt8) (h : b.length < 18446744073709551616) : (full b).length % 64 = 0 := by
  unfold full
  rw [List.length_append, length_pad, UInt64.toNat_ofNat', Nat.mod_eq_of_lt h]
  unfold zs
  omega

theorem full_le (b : List UInt8) : (full b).length ≤ b.length + 72 := by
  unfold full
  have := zs_lt (UInt64.ofNat b.length).toNat
  rw [List.length_append, length_pad]
  omega
end SH

section
variable {m : Mem} {wI : World}

theorem c_rsum {bv : Value} {b : List UInt8} (him : Im m wI) (hb : SlM m bv 1 b.length (bs b)) (hl : b.length ≤ 1099511627776) :
    Ret Try.prog 88 #[bv] wI fun v w' => Tch wI w' [] [] ∧ v = arr (sum b) := by
  have st := St.start him
  have hb0 := hb
  obtain ⟨_, ba, bc, rfl, _⟩ := hb
  have hfl := full_le b
  have hfm := full_mod b (by omega)
  refine ret_of Try.call88 Try.func88 rfl Try.ntmps88 Try.results88 rfl ?_
  refine wc_seq ?_
  refine wc_region ?_
  refine wl_alloc TF.z23 st rfl ?_
  intro b2 w st
  refine wl_nil ?_
  refine then_go ?_
  refine wc_seq ?_
  refine wc_region ?_
  refine wl_val (v_assign' (by conv => (lhs; whnf))) rfl ?_
  refine wl_nil ?_
  refine then_go ?_
  refine wc_seq ?_
  have st := nilRow st 5 1
  change St _ _ _ _ _ (rowE _ _ 1 ([] : List UInt8).length (bs []) :: _) at st
  refine wc_region ?_
  refine wl_val (v_move' (by conv => (lhs; whnf))) rfl ?_
  refine wl_val (v_move' (by conv => (lhs; whnf))) rfl ?_
  refine wl_appB (l2 := b) st Try.underlying41 Try.underlying41 (.inr ⟨_, rfl⟩) TF.t5 TF.z5 rfl rfl (hb0.src st.im (one_bs _)) (by simp; omega) (by simp; omega) rfl ?_
  intro v10 w st hv10
  rw [List.nil_append] at st
  refine wl_val (v_assign' (by conv => (lhs; whnf))) rfl ?_
  refine wl_nil ?_
  refine then_go ?_
  refine wc_seq ?_
  refine wc_region ?_
  refine wl_val (v_move' (by conv => (lhs; whnf))) rfl ?_
  refine wl_val (v_move' (by conv => (lhs; whnf))) rfl ?_
  refine wl_val (v_len_s Try.underlying41 rfl) rfl ?_
  refine wl_val (v_convi_64 (n := b.length) Try.underlying3 Try.underlying24 rfl) rfl ?_
  refine wl_call rfl (c_rpad st.im) rfl ?_
  rintro v15 w ⟨t, m1, hg1, hi1, hp⟩
  have st := st.grown hg1 t hi1
  refine wl_appB (l2 := pad (UInt64.ofNat b.length)) st Try.underlying41 Try.underlying41 (.inr ⟨_, rfl⟩) TF.t5 TF.z5 rfl rfl (hp.src st.im (one_bs _)) (by unfold full at hfl; rw [List.length_append] at hfl; omega) (by unfold full at hfl; rw [List.length_append] at hfl; omega) rfl ?_
  intro v16 w st hv16
  rw [show b ++ pad (UInt64.ofNat b.length) = full b from rfl] at st
  have h9 : 9 ≤ (full b).length := by unfold full; rw [List.length_append, length_pad]; omega
  obtain ⟨g, cap, rfl⟩ := row_len (st.at (i := 0) rfl) (by omega)
  obtain ⟨m2, hg2, hm2, st2⟩ := st.freezeR (i := 0) rfl (by simp)
  have hrow := row_SlM (m := m2) (st.at (i := 0) rfl) hm2
  have st := st2
  change St _ _ _ _ _ [_] at st
  obtain ⟨_, _, _, hvv, hkc, _⟩ := id hrow
  cases hvv
  refine wl_val (v_assign' (by conv => (lhs; whnf))) rfl ?_
  refine wl_nil ?_
  refine then_go ?_
  refine wc_seq ?_
  refine wc_region ?_
  refine wl_call rfl (c_first st.im) rfl ?_
  rintro v17 w ⟨t, rfl⟩
  have st := st.pure t
  refine wl_alloc TF.z128 st rfl ?_
  intro b4 w st
  refine wl_storeW (cs := (ws h0.l).toArray) 0 st rfl TF.t128 rfl rfl rfl rfl (by simpa using one_ws _) ?_
  intro w st
  refine wl_nil ?_
  refine then_go ?_
  refine wc_seq ?_
  refine wc_seq ?_
  refine wc_region ?_
  refine wl_val (v_assign' (by conv => (lhs; whnf))) rfl ?_
  refine wl_nil ?_
  refine then_go ?_
  refine wc_block ?_
  refine wc_loop (S := Nat) (fun q r w' => ∃ k, q + k = (full b).length / 64 ∧ r 2 = .pointer (some ⟨b2, 0, none⟩) ∧ r 3 = .slice (some ⟨g, 0, none⟩) (full b).length cap ∧ r 4 = .pointer (some ⟨b4, 0, none⟩) ∧ r 5 = .int .i64 (64 * k : Nat) ∧
    St m m2 [] wI w' [K.blk b4 (ws (hs (full b) k).l).toArray 128, K.blk b2 (Array.replicate 32 (u8 0)) 23]) id ((full b).length / 64) ⟨0, rfl, rfl, rfl, rfl, rfl, st⟩ ?_
  rintro q r w2 ⟨k, hqk, h2, h3, h4, h5, st⟩
  refine wc_o 2 h2 (wc_o 3 h3 (wc_o 4 h4 (wc_o 5 h5 ?_)))
  refine wc_seq ?_
  refine wc_seq ?_
  refine wc_region ?_
  refine wl_val (v_move' (by conv => (lhs; whnf))) rfl ?_
  refine wl_val (v_add' (c := ((64 * k + 64 : Nat) : Int)) rfl rfl (by omega) (by omega) (by omega)) rfl ?_
  refine wl_val (v_move' (by conv => (lhs; whnf))) rfl ?_
  refine wl_val (v_len_s Try.underlying41 rfl) rfl ?_
  refine wl_val (v_leq rfl rfl) rfl ?_
  refine wl_nil ?_
  refine then_go ?_
  refine wc_if rfl (fun h22 => ?_) (fun h22 => ?_)
  · refine wc_skip ?_
    refine then_go ?_
    refine wc_seq ?_
    refine wc_block ?_
    have hk : 64 * k + 64 ≤ (full b).length := by omega
    have hsub := hrow.subB (64 * k) (64 * k + 64) (by omega) hk
    rw [show 64 * k + 64 - 64 * k = 64 by omega] at hsub
    refine wc_draw TF.mixed ?_
    have st := st.pure (touch_drew _)
    refine fl_ld 0 rfl (v_load rfl (st.reads 0 rfl TF.t128 (getV_all (c := (ws (hs (full b) k).l).toArray) rfl))) (by kernel_rfl) ?_
    refine fl_val 1 rfl (fun _ => (v_move' (by conv => (lhs; whnf)))) rfl (by kernel_rfl) ?_
    refine fl_val 2 rfl (fun _ => (v_move' (by conv => (lhs; whnf)))) rfl (by kernel_rfl) ?_
    refine fl_val 3 rfl (fun _ => (v_move' (by conv => (lhs; whnf)))) rfl (by kernel_rfl) ?_
    refine fl_val 4 rfl (fun _ => (v_add' (c := ((64 * k + 64 : Nat) : Int)) rfl rfl (by omega) (by omega) (by omega))) rfl (by kernel_rfl) ?_
    refine fl_val 5 rfl (fun _ => (v_slice_s (l := 64 * k) (h := 64 * k + 64) Try.underlying41 TF.t5 rfl ⟨_, _, rfl, rfl⟩ ⟨_, _, rfl, rfl⟩ (by omega) (by omega))) rfl (by kernel_rfl) ?_
    refine fl_eff1 6 [4, 3, 2, 1] [] (by kernel_rfl) ⟨obl_ld rfl rfl rfl (v_load rfl (st.reads 0 rfl TF.t128 (getV_all (c := (ws (hs (full b) k).l).toArray) rfl))), trivial⟩ rfl ?_
    rw [show 64 * k + 64 - 64 * k = 64 by omega]
    refine wl_call rfl (c_block st.im hsub (by simp; omega)) rfl ?_
    rintro v31 w ⟨t, rfl⟩
    have st := st.pure t
    refine wl_nil ⟨rfl, ?_⟩
    refine fl_eff1 7 [] [] (by kernel_rfl) trivial rfl ?_
    refine wl_storeW (cs := (ws (hs (full b) (k + 1)).l).toArray) 0 st rfl TF.t128 rfl rfl rfl rfl (by simpa using one_ws _) ?_
    intro w st
    refine wl_nil ⟨rfl, ?_⟩
    refine fl_nil (by kernel_rfl) trivial ?_
    refine block_go (then_go ?_)
    refine wc_region ?_
    refine wl_val (v_move' (by conv => (lhs; whnf))) rfl ?_
    refine wl_val (v_add' (c := ((64 * (k + 1) : Nat) : Int)) rfl rfl (by omega) (by omega) (by omega)) rfl ?_
    refine wl_val (v_assign' (by conv => (lhs; whnf))) rfl ?_
    refine wl_nil ?_
    refine then_go ?_
    exact ⟨q - 1, by simp; omega, k + 1, by omega, rfl, rfl, rfl, rfl, st⟩
  · refine wc_exit (then_exit (then_exit (block_hit ?_)))
    refine then_go ?_
    refine wc_seq ?_
    refine wc_region ?_
    refine wl_alloc TF.z23 st rfl ?_
    intro b6 w st
    refine wl_nil ?_
    refine then_go ?_
    refine wc_seq ?_
    refine wc_seq ?_
    refine wc_region ?_
    refine wl_val (v_assign' (by conv => (lhs; whnf))) rfl ?_
    refine wl_nil ?_
    refine then_go ?_
    refine wc_block ?_
    have hkf : k = (full b).length / 64 := by omega
    obtain ⟨vf, hvf⟩ : ∃ vf, vf = hs (full b) k := ⟨_, rfl⟩
    have hsm : sum b = dig vf := by rw [hvf, hkf]; rfl
    rw [← hvf] at st
    refine wc_loop (S := Nat) (fun q r w' => ∃ i, q + i = 32 ∧ r 2 = .pointer (some ⟨b2, 0, none⟩) ∧ r 4 = .pointer (some ⟨b4, 0, none⟩) ∧ r 6 = .pointer (some ⟨b6, 0, none⟩) ∧ r 7 = .int .i64 i ∧
      St m m2 [] wI w' [K.blk b6 (bs ((List.range i).map (digB vf)) ++ List.replicate (32 - i) (u8 0)).toArray 23, K.blk b4 (ws vf.l).toArray 128, K.blk b2 (Array.replicate 32 (u8 0)) 23]) id 32 ⟨0, rfl, rfl, rfl, rfl, rfl, st⟩ ?_
    rintro q2 r w3 ⟨i, hqi, h2, h4, h6, h7, st⟩
    refine wc_o 2 h2 (wc_o 4 h4 (wc_o 6 h6 (wc_o 7 h7 ?_)))
    refine wc_seq ?_
    refine wc_seq ?_
    refine wc_region ?_
    refine wl_val (v_move' (by conv => (lhs; whnf))) rfl ?_
    refine wl_val (v_lss rfl rfl) rfl ?_
    refine wl_nil ?_
    refine then_go ?_
    refine wc_if rfl (fun h33 => ?_) (fun h33 => ?_)
    · refine wc_skip ?_
      refine then_go ?_
      refine wc_seq ?_
      refine wc_block ?_
      have hi : i < 32 := by omega
      refine wc_region ?_
      refine wl_val (v_move' (by conv => (lhs; whnf))) rfl ?_
      refine wl_val (v_move' (by conv => (lhs; whnf))) rfl ?_
      refine wl_val (v_quo' (c := ((i / 4 : Nat) : Int)) rfl rfl (by omega) (by omega) (by omega) (by omega)) rfl ?_
      refine wl_val (v_iaa (i / 4) Try.underlying128 TF.t127 rfl rfl (by first | rfl | omega) (by first | omega | (dsimp only at *; omega))) rfl ?_
      refine wl_val (v_load rfl (st.reads (v := u32 (vf.l.getD (i / 4) 0)) 1 rfl TF.t127 (getV_wse (j := i / 4) (by omega) (by rw [length_l]; omega)))) rfl ?_
      refine wl_val (v_move' (by conv => (lhs; whnf))) rfl ?_
      refine wl_val (v_rem' (c := ((i % 4 : Nat) : Int)) rfl rfl (by omega) (by omega) (by omega)) rfl ?_
      refine wl_val (v_mul' (c := ((8 * (i % 4) : Nat) : Int)) rfl rfl (by omega) (by omega) (by omega)) rfl ?_
      refine wl_val (v_sub' (c := ((24 - 8 * (i % 4) : Nat) : Int)) rfl rfl (by omega) (by omega) (by omega)) rfl ?_
      refine wl_val (v_conv Try.underlying3 Try.underlying131 rfl) rfl ?_
      rw [wrap_u64_small (by omega)]
      refine wl_val (v_shr32 (24 - 8 * (i % 4)) rfl rfl (by first | omega | decide | (dsimp only at *; omega))) rfl ?_
      refine wl_val (v_conv32_8 Try.underlying127 Try.underlying5 rfl) rfl ?_
      refine wl_val (v_iaa i Try.underlying23 TF.t5 rfl rfl (by first | rfl | omega) (by first | omega | (dsimp only at *; omega))) rfl ?_
      refine wl_store1 (v := u8 (digB vf i)) 0 st rfl TF.t5 rfl rfl rfl (by simp [bs]; omega) ?_
      intro w st
      refine wl_nil ?_
      refine block_go (then_go ?_)
      refine wc_region ?_
      refine wl_val (v_move' (by conv => (lhs; whnf))) rfl ?_
      refine wl_val (v_add' rfl rfl rfl (by first | omega | (dsimp only at *; omega)) (by first | omega | (dsimp only at *; omega))) rfl ?_
      refine wl_val (v_assign' (by conv => (lhs; whnf))) rfl ?_
      refine wl_nil ?_
      refine then_go ?_
      refine ⟨q2 - 1, by simp; omega, i + 1, by omega, rfl, rfl, rfl, rfl, ?_⟩
      have e : (bs ((List.range i).map (digB vf)) ++ List.replicate (32 - i) (u8 0)).toArray.setIfInBounds (0 + i * 1) (u8 (digB vf i)) = (bs ((List.range (i + 1)).map (digB vf)) ++ List.replicate (32 - (i + 1)) (u8 0)).toArray := by
        rw [show 32 - i = (32 - (i + 1)) + 1 by omega, List.replicate_succ, set_app (by simp [bs]), List.range_succ]
        simp [bs]
      rw [← e]
      exact st
    · refine wc_exit (then_exit (then_exit (block_hit ?_)))
      refine then_go ?_
      refine wc_seq ?_
      have hi32 : i = 32 := by omega
      subst hi32
      have e : (bs ((List.range 32).map (digB vf)) ++ List.replicate (32 - 32) (u8 0)).toArray = (bs (sum b)).toArray := by rw [hsm]; simp [dig]
      rw [e] at st
      refine wc_region ?_
      refine wl_val (v_load rfl (st.reads 0 rfl TF.t23 (getV_all (by simp [bs, length_sum])))) rfl ?_
      refine wl_storeW (cs := (bs (sum b)).toArray) 2 st rfl TF.t23 rfl rfl (by simp [bs, length_sum]) rfl (by simpa using one_bs _) ?_
      intro w st
      refine wl_nil ?_
      refine then_go ?_
      refine wc_ret ?_
      exact ret1c rfl (st.reads 2 rfl TF.t23 (getV_all (by simp [bs, length_sum]))) ⟨(st.keepOnly (l := []) (List.nil_sublist _)).touch, rfl⟩
end
end Go.Proofs.Ytjjpakjgppmmdaa

/-
  SHA-256: the program's mix.
-/
namespace Go.Proofs.Ytjjpakjgppmmdaa
open Go Go.RowKit K SH

namespace SH
/-- What the program keeps of a hash. -/
def hashC (v : V8) (bk : List UInt8) (hv : Int) (n : UInt64) : Array Value := (ws v.l ++ bs bk ++ [.int .i64 hv, u64 n]).toArray
theorem getV_state (v : V8) (bk : List UInt8) (hv : Int) (n : UInt64) : getV true 8 (hashC v bk hv n) 0 = some (arr32 v.l) :=
  getV_seg (a := []) (b := ws v.l) (c := bs bk ++ [.int .i64 hv, u64 n]) (by simp) rfl rfl
end SH

section
variable {m m0 : Mem} {F : List Nat} {w0 w wI : World} {Es : List Ent}

theorem c_spreadS {b : Nat} {v : V8} {bk : List UInt8} {hv : Int} {n : UInt64} {t : TypeId} (st : St m0 m F w0 w Es) (i : Nat) (hi : Es[i]? = some (K.blk b (hashC v bk hv n) t)) (hl : bk.length = 64) :
    Ret Try.prog 115 #[.pointer (some ⟨b, 8, none⟩)] w fun v w' => Tch w w' [] [] ∧ v = arr32 (sched bk) := by
  obtain ⟨ml, himl, _, hbl, _⟩ := st.lend (i := i) hi
  exact c_spread himl hbl (pre := ws v.l) (post := [.int .i64 hv, u64 n]) rfl rfl hl

theorem c_mix {b : Nat} {v : V8} {bk : List UInt8} {hv : Int} {n : UInt64} (him : Im m wI) (hE : (K.blk b (hashC v bk hv n) 145).holds wI) (hm : m b = none) (hl : bk.length = 64) :
    Ret Try.prog 112 #[.pointer (some ⟨b, 0, none⟩)] wI fun _ w' => Tch wI w' [b] [b] ∧ (K.blk b (hashC (comp v bk) bk 0 n) 145).holds w' := by
  have st := St.startE him hE (by simpa [K.blk] using hm)
  refine ret_of Try.call112 Try.func112 rfl Try.ntmps112 Try.results112 rfl ?_
  refine wc_seq ?_
  refine wc_draw TF.mixed ?_
  have st := st.pure (touch_drew _)
  show FL _ _ ?ops0 ?post0 [] [] [] _ _
  have fin : ∀ (r : Fr) (w : World) (b2 b3 b4 : Nat), r 0 = .pointer (some ⟨b, 0, none⟩) → r 2 = .pointer (some ⟨b2, 0, none⟩) → r 3 = .pointer (some ⟨b3, 0, none⟩) → r 4 = .pointer (some ⟨b4, 0, none⟩) → r 15 = arr32 (sched bk) → r 16 = arr32 kk → r 17 = .pointer (some ⟨b, 0, none⟩) → r 18 = .pointer (some ⟨b, 0, none⟩) → r 19 = .pointer (some ⟨b, 0, none⟩) → r 20 = arr32 v.l →
    St m m [b] wI w [K.blk b4 (Array.replicate 8 (u32 0)) 128, K.blk b3 (Array.replicate 64 (u32 0)) 138, K.blk b2 (Array.replicate 64 (u32 0)) 138, K.blk b (hashC v bk hv n) 145] → FL Try.prog 115 ?ops0 ?post0 [11, 10, 9, 4, 3, 8, 7, 6, 5, 2, 1, 0] [7, 6, 5, 1, 0] [8] r w := by
    clear st
    rintro r w b2 b3 b4 h0 h2 h3 h4 h15 h16 h17 h18 h19 h20 st
    refine fl_o 0 h0 (fl_o 2 h2 (fl_o 3 h3 (fl_o 4 h4 (fl_o 15 h15 (fl_o 16 h16 (fl_o 17 h17 (fl_o 18 h18 (fl_o 19 h19 (fl_o 20 h20 ?_)))))))))
    refine fl_eff1 12 [7, 6, 5] [8] (by kernel_rfl) ⟨obl_ld rfl rfl rfl (v_load rfl (by first | exact st.reads 0 rfl TF.t128 (getV_state ..) | exact st.reads 1 rfl TF.t128 (getV_state ..) | exact st.reads 2 rfl TF.t128 (getV_state ..) | exact st.reads 3 rfl TF.t128 (getV_state ..))), trivial⟩ rfl ?_
    refine wl_storeW (cs := (ws (sched bk)).toArray) 2 st rfl TF.t138 rfl rfl (by simp [ws, length_sched]) rfl (by simpa using one_ws _) ?_
    intro w st
    refine wl_nil ⟨rfl, ?_⟩
    refine fl_eff1 13 [7, 6, 5] [8] (by kernel_rfl) ⟨obl_ld rfl rfl rfl (v_load rfl (by first | exact st.reads 0 rfl TF.t128 (getV_state ..) | exact st.reads 1 rfl TF.t128 (getV_state ..) | exact st.reads 2 rfl TF.t128 (getV_state ..) | exact st.reads 3 rfl TF.t128 (getV_state ..))), trivial⟩ rfl ?_
    refine wl_storeW (cs := (ws kk).toArray) 1 st rfl TF.t138 rfl rfl rfl rfl (by simpa using one_ws _) ?_
    intro w st
    refine wl_nil ⟨rfl, ?_⟩
    refine fl_eff1 14 [] [] (by kernel_rfl) ⟨obl_ld rfl rfl rfl (v_load rfl (by first | exact st.reads 0 rfl TF.t128 (getV_state ..) | exact st.reads 1 rfl TF.t128 (getV_state ..) | exact st.reads 2 rfl TF.t128 (getV_state ..) | exact st.reads 3 rfl TF.t128 (getV_state ..))), trivial⟩ rfl ?_
    refine wl_storeW (cs := (ws v.l).toArray) 0 st rfl TF.t128 rfl rfl rfl rfl (by simpa using one_ws _) ?_
    intro w st
    refine wl_nil ⟨rfl, ?_⟩
    refine fl_nil (by kernel_rfl) trivial ?_
    refine then_go ?_
    refine wc_seq ?_
    refine wc_seq ?_
    refine wc_region ?_
    refine wl_val (v_move' (by conv => (lhs; whnf))) rfl ?_
    refine wl_nil ?_
    refine then_go ?_
    refine wc_block ?_
    refine wc_loop (S := Nat) (fun q r w' => ∃ j, q + j = 64 ∧ r 0 = .pointer (some ⟨b, 0, none⟩) ∧ r 2 = .pointer (some ⟨b2, 0, none⟩) ∧ r 3 = .pointer (some ⟨b3, 0, none⟩) ∧ r 4 = .pointer (some ⟨b4, 0, none⟩) ∧ r 21 = .int .i64 j ∧
      St m m [b] wI w' [K.blk b4 (ws (rnds j v (sched bk)).l).toArray 128, K.blk b3 (ws kk).toArray 138, K.blk b2 (ws (sched bk)).toArray 138, K.blk b (hashC v bk hv n) 145]) id 64 ⟨0, rfl, rfl, rfl, rfl, rfl, rfl, st⟩ ?_
    rintro q r w2 ⟨j, hqj, h0, h2, h3, h4, h21, st⟩
    refine wc_o 0 h0 (wc_o 2 h2 (wc_o 3 h3 (wc_o 4 h4 (wc_o 21 h21 ?_))))
    refine wc_seq ?_
    refine wc_region ?_
    refine wl_val (v_lss rfl rfl) rfl ?_
    refine wl_nil ?_
    refine then_go ?_
    refine wc_seq ?_
    refine wc_if rfl (fun h22 => ?_) (fun h22 => ?_)
    · refine wc_skip ?_
      refine then_go ?_
      refine wc_seq ?_
      refine wc_block ?_
      refine wc_seq ?_
      refine wc_region ?_
      refine wl_val (v_move' (by conv => (lhs; whnf))) rfl ?_
      refine wl_val (v_assign' (by conv => (lhs; whnf))) rfl ?_
      refine wl_nil ?_
      refine then_go ?_
      refine wc_seq ?_
      have hj : j < 64 := by omega
      obtain ⟨u, hu⟩ : ∃ u, u = rnds j v (sched bk) := ⟨_, rfl⟩
      obtain ⟨kj, hkj⟩ : ∃ x, x = kk.getD j 0 := ⟨_, rfl⟩
      obtain ⟨wj, hwj⟩ : ∃ x, x = (sched bk).getD j 0 := ⟨_, rfl⟩
      rw [← hu] at st
      refine wc_draw TF.mixed ?_
      have st := st.pure (touch_drew _)
      refine fl_val 0 rfl (fun _ => (v_iaa 0 Try.underlying128 TF.t127 rfl rfl (by first | rfl | omega) (by first | omega | (dsimp only at *; omega)))) rfl (by kernel_rfl) ?_
      refine fl_ld 1 rfl (v_load rfl (st.reads (v := u32 u.a) 0 rfl TF.t127 rfl)) (by kernel_rfl) ?_
      refine fl_val 2 rfl (fun _ => (v_iaa 4 Try.underlying128 TF.t127 rfl rfl (by first | rfl | omega) (by first | omega | (dsimp only at *; omega)))) rfl (by kernel_rfl) ?_
      refine fl_ld 3 rfl (v_load rfl (st.reads (v := u32 u.e) 0 rfl TF.t127 rfl)) (by kernel_rfl) ?_
      refine fl_eff1 4 [2] [3] (by kernel_rfl) ⟨obl_ld rfl rfl rfl (v_load rfl (st.reads (v := u32 u.e) 0 rfl TF.t127 rfl)), obl_ld rfl rfl rfl (v_load rfl (st.reads (v := u32 u.a) 0 rfl TF.t127 rfl)), trivial⟩ rfl ?_
      refine wl_val (v_assign' (by conv => (lhs; whnf))) rfl ?_
      refine wl_nil ⟨rfl, ?_⟩
      refine fl_eff1 5 [] [] (by kernel_rfl) ⟨obl_ld rfl rfl rfl (v_load rfl (st.reads (v := u32 u.e) 0 rfl TF.t127 rfl)), trivial⟩ rfl ?_
      refine wl_val (v_assign' (by conv => (lhs; whnf))) rfl ?_
      refine wl_nil ⟨rfl, ?_⟩
      refine fl_nil (by kernel_rfl) trivial ?_
      refine then_go ?_
      refine wc_seq ?_
      refine wc_draw TF.mixed ?_
      have st := st.pure (touch_drew _)
      refine fl_val 0 rfl (fun _ => (v_iaa 7 Try.underlying128 TF.t127 rfl rfl (by first | rfl | omega) (by first | omega | (dsimp only at *; omega)))) rfl (by kernel_rfl) ?_
      refine fl_ld 1 rfl (v_load rfl (st.reads (v := u32 u.h) 0 rfl TF.t127 rfl)) (by kernel_rfl) ?_
      refine fl_val 2 rfl (fun _ => (v_move' (by conv => (lhs; whnf)))) rfl (by kernel_rfl) ?_
      refine fl_val 4 rfl (fun _ => (v_move' (by conv => (lhs; whnf)))) rfl (by kernel_rfl) ?_
      refine fl_val 7 rfl (fun _ => (v_move' (by conv => (lhs; whnf)))) rfl (by kernel_rfl) ?_
      refine fl_val 11 rfl (fun _ => (v_move' (by conv => (lhs; whnf)))) rfl (by kernel_rfl) ?_
      refine fl_val 12 rfl (fun _ => (v_iaa 5 Try.underlying128 TF.t127 rfl rfl (by first | rfl | omega) (by first | omega | (dsimp only at *; omega)))) rfl (by kernel_rfl) ?_
      refine fl_ld 13 rfl (v_load rfl (st.reads (v := u32 u.f) 0 rfl TF.t127 rfl)) (by kernel_rfl) ?_
      refine fl_val 14 rfl (fun _ => (v_and32 rfl rfl)) rfl (by kernel_rfl) ?_
      refine fl_val 15 rfl (fun _ => (v_move' (by conv => (lhs; whnf)))) rfl (by kernel_rfl) ?_
      refine fl_val 16 rfl (fun _ => (v_not32 Try.underlying127 rfl)) rfl (by kernel_rfl) ?_
      refine fl_val 17 rfl (fun _ => (v_iaa 6 Try.underlying128 TF.t127 rfl rfl (by first | rfl | omega) (by first | omega | (dsimp only at *; omega)))) rfl (by kernel_rfl) ?_
      refine fl_ld 18 rfl (v_load rfl (st.reads (v := u32 u.g) 0 rfl TF.t127 rfl)) (by kernel_rfl) ?_
      refine fl_val 19 rfl (fun _ => (v_and32 rfl rfl)) rfl (by kernel_rfl) ?_
      refine fl_val 20 rfl (fun _ => (v_xor32 rfl rfl)) rfl (by kernel_rfl) ?_
      refine fl_val 22 rfl (fun _ => (v_move' (by conv => (lhs; whnf)))) rfl (by kernel_rfl) ?_
      refine fl_val 23 rfl (fun _ => (v_iaa j Try.underlying138 TF.t127 rfl rfl (by first | rfl | omega) (by first | omega | (dsimp only at *; omega)))) rfl (by kernel_rfl) ?_
      refine fl_ld 24 rfl (v_load rfl (st.reads (v := u32 kj) 1 rfl TF.t127 (by rw [hkj]; exact getV_wse (j := j) (by omega) (by rw [length_kk]; omega)))) (by kernel_rfl) ?_
      refine fl_val 26 rfl (fun _ => (v_move' (by conv => (lhs; whnf)))) rfl (by kernel_rfl) ?_
      refine fl_val 27 rfl (fun _ => (v_iaa j Try.underlying138 TF.t127 rfl rfl (by first | rfl | omega) (by first | omega | (dsimp only at *; omega)))) rfl (by kernel_rfl) ?_
      refine fl_ld 28 rfl (v_load rfl (st.reads (v := u32 wj) 2 rfl TF.t127 (by rw [hwj]; exact getV_wse (j := j) (by omega) (by rw [length_sched]; omega)))) (by kernel_rfl) ?_
      refine fl_eff1 3 [27, 26, 23, 22, 20, 19, 17, 16, 15, 14, 12, 11, 7, 4, 0] [28, 24, 18, 13, 1] (by kernel_rfl) ⟨obl_ld rfl rfl rfl (v_load rfl (st.reads (v := u32 wj) 2 rfl TF.t127 (by rw [hwj]; exact getV_wse (j := j) (by omega) (by rw [length_sched]; omega)))), obl_ld rfl rfl rfl (v_load rfl (st.reads (v := u32 kj) 1 rfl TF.t127 (by rw [hkj]; exact getV_wse (j := j) (by omega) (by rw [length_kk]; omega)))), obl_ld rfl rfl rfl (v_load rfl (st.reads (v := u32 u.g) 0 rfl TF.t127 rfl)), obl_ld rfl rfl rfl (v_load rfl (st.reads (v := u32 u.f) 0 rfl TF.t127 rfl)), obl_ld rfl rfl rfl (v_load rfl (st.reads (v := u32 u.h) 0 rfl TF.t127 rfl)), trivial⟩ rfl ?_
      refine wl_call rfl (c_rotl 6 (by decide) (by decide) (by decide)) rfl ?_
      rintro v31 w ⟨rfl, rfl⟩
      refine wl_nil ⟨rfl, ?_⟩
      refine fl_eff1 5 [27, 26, 23, 22, 20, 19, 17, 16, 15, 14, 12, 11, 7, 0] [28, 24, 18, 13, 1] (by kernel_rfl) ⟨obl_ld rfl rfl rfl (v_load rfl (st.reads (v := u32 wj) 2 rfl TF.t127 (by rw [hwj]; exact getV_wse (j := j) (by omega) (by rw [length_sched]; omega)))), obl_ld rfl rfl rfl (v_load rfl (st.reads (v := u32 kj) 1 rfl TF.t127 (by rw [hkj]; exact getV_wse (j := j) (by omega) (by rw [length_kk]; omega)))), obl_ld rfl rfl rfl (v_load rfl (st.reads (v := u32 u.g) 0 rfl TF.t127 rfl)), obl_ld rfl rfl rfl (v_load rfl (st.reads (v := u32 u.f) 0 rfl TF.t127 rfl)), obl_ld rfl rfl rfl (v_load rfl (st.reads (v := u32 u.h) 0 rfl TF.t127 rfl)), trivial⟩ rfl ?_
      refine wl_call rfl (c_rotl 11 (by decide) (by decide) (by decide)) rfl ?_
      rintro v33 w ⟨rfl, rfl⟩
      refine wl_nil ⟨rfl, ?_⟩
      refine fl_val 6 rfl (fun _ => (v_xor32 rfl rfl)) rfl (by kernel_rfl) ?_
      refine fl_eff1 8 [6, 27, 26, 23, 22, 20, 19, 17, 16, 15, 14, 12, 11, 0] [28, 24, 18, 13, 1] (by kernel_rfl) ⟨obl_ld rfl rfl rfl (v_load rfl (st.reads (v := u32 wj) 2 rfl TF.t127 (by rw [hwj]; exact getV_wse (j := j) (by omega) (by rw [length_sched]; omega)))), obl_ld rfl rfl rfl (v_load rfl (st.reads (v := u32 kj) 1 rfl TF.t127 (by rw [hkj]; exact getV_wse (j := j) (by omega) (by rw [length_kk]; omega)))), obl_ld rfl rfl rfl (v_load rfl (st.reads (v := u32 u.g) 0 rfl TF.t127 rfl)), obl_ld rfl rfl rfl (v_load rfl (st.reads (v := u32 u.f) 0 rfl TF.t127 rfl)), obl_ld rfl rfl rfl (v_load rfl (st.reads (v := u32 u.h) 0 rfl TF.t127 rfl)), trivial⟩ rfl ?_
      refine wl_call rfl (c_rotl 25 (by decide) (by decide) (by decide)) rfl ?_
      rintro v36 w ⟨rfl, rfl⟩
      refine wl_nil ⟨rfl, ?_⟩
      refine fl_val 9 rfl (fun _ => (v_xor32 rfl rfl)) rfl (by kernel_rfl) ?_
      refine fl_val 10 rfl (fun _ => (v_add32 rfl rfl)) rfl (by kernel_rfl) ?_
      refine fl_val 21 rfl (fun _ => (v_add32 rfl rfl)) rfl (by kernel_rfl) ?_
      refine fl_val 25 rfl (fun _ => (v_add32 rfl rfl)) rfl (by kernel_rfl) ?_
      refine fl_val 29 rfl (fun _ => (v_add32 rfl rfl)) rfl (by kernel_rfl) ?_
      refine fl_eff1 30 [] [] (by kernel_rfl) ⟨obl_ld rfl rfl rfl (v_load rfl (st.reads (v := u32 wj) 2 rfl TF.t127 (by rw [hwj]; exact getV_wse (j := j) (by omega) (by rw [length_sched]; omega)))), obl_ld rfl rfl rfl (v_load rfl (st.reads (v := u32 kj) 1 rfl TF.t127 (by rw [hkj]; exact getV_wse (j := j) (by omega) (by rw [length_kk]; omega)))), obl_ld rfl rfl rfl (v_load rfl (st.reads (v := u32 u.g) 0 rfl TF.t127 rfl)), obl_ld rfl rfl rfl (v_load rfl (st.reads (v := u32 u.f) 0 rfl TF.t127 rfl)), obl_ld rfl rfl rfl (v_load rfl (st.reads (v := u32 u.h) 0 rfl TF.t127 rfl)), trivial⟩ rfl ?_
      refine wl_val (v_assign' (by conv => (lhs; whnf))) rfl ?_
      refine wl_nil ⟨rfl, ?_⟩
      refine fl_nil (by kernel_rfl) trivial ?_
      refine then_go ?_
      refine wc_seq ?_
      refine wc_draw TF.mixed ?_
      have st := st.pure (touch_drew _)
      refine fl_val 0 rfl (fun _ => (v_move' (by conv => (lhs; whnf)))) rfl (by kernel_rfl) ?_
      refine fl_val 2 rfl (fun _ => (v_move' (by conv => (lhs; whnf)))) rfl (by kernel_rfl) ?_
      refine fl_val 5 rfl (fun _ => (v_move' (by conv => (lhs; whnf)))) rfl (by kernel_rfl) ?_
      refine fl_val 8 rfl (fun _ => (v_move' (by conv => (lhs; whnf)))) rfl (by kernel_rfl) ?_
      refine fl_val 9 rfl (fun _ => (v_iaa 1 Try.underlying128 TF.t127 rfl rfl (by first | rfl | omega) (by first | omega | (dsimp only at *; omega)))) rfl (by kernel_rfl) ?_
      refine fl_ld 10 rfl (v_load rfl (st.reads (v := u32 u.b) 0 rfl TF.t127 rfl)) (by kernel_rfl) ?_
      refine fl_val 11 rfl (fun _ => (v_and32 rfl rfl)) rfl (by kernel_rfl) ?_
      refine fl_val 12 rfl (fun _ => (v_move' (by conv => (lhs; whnf)))) rfl (by kernel_rfl) ?_
      refine fl_val 13 rfl (fun _ => (v_iaa 2 Try.underlying128 TF.t127 rfl rfl (by first | rfl | omega) (by first | omega | (dsimp only at *; omega)))) rfl (by kernel_rfl) ?_
      refine fl_ld 14 rfl (v_load rfl (st.reads (v := u32 u.c) 0 rfl TF.t127 rfl)) (by kernel_rfl) ?_
      refine fl_val 15 rfl (fun _ => (v_and32 rfl rfl)) rfl (by kernel_rfl) ?_
      refine fl_val 16 rfl (fun _ => (v_xor32 rfl rfl)) rfl (by kernel_rfl) ?_
      refine fl_val 17 rfl (fun _ => (v_iaa 1 Try.underlying128 TF.t127 rfl rfl (by first | rfl | omega) (by first | omega | (dsimp only at *; omega)))) rfl (by kernel_rfl) ?_
      refine fl_ld 18 rfl (v_load rfl (st.reads (v := u32 u.b) 0 rfl TF.t127 rfl)) (by kernel_rfl) ?_
      refine fl_val 19 rfl (fun _ => (v_iaa 2 Try.underlying128 TF.t127 rfl rfl (by first | rfl | omega) (by first | omega | (dsimp only at *; omega)))) rfl (by kernel_rfl) ?_
      refine fl_ld 20 rfl (v_load rfl (st.reads (v := u32 u.c) 0 rfl TF.t127 rfl)) (by kernel_rfl) ?_
      refine fl_val 21 rfl (fun _ => (v_and32 rfl rfl)) rfl (by kernel_rfl) ?_
      refine fl_val 22 rfl (fun _ => (v_xor32 rfl rfl)) rfl (by kernel_rfl) ?_
      refine fl_eff1 1 [22, 21, 19, 17, 16, 15, 13, 12, 11, 9, 8, 5, 2] [20, 18, 14, 10] (by kernel_rfl) ⟨obl_ld rfl rfl rfl (v_load rfl (st.reads (v := u32 u.c) 0 rfl TF.t127 rfl)), obl_ld rfl rfl rfl (v_load rfl (st.reads (v := u32 u.b) 0 rfl TF.t127 rfl)), obl_ld rfl rfl rfl (v_load rfl (st.reads (v := u32 u.c) 0 rfl TF.t127 rfl)), obl_ld rfl rfl rfl (v_load rfl (st.reads (v := u32 u.b) 0 rfl TF.t127 rfl)), trivial⟩ rfl ?_
      refine wl_call rfl (c_rotl 2 (by decide) (by decide) (by decide)) rfl ?_
      rintro v59 w ⟨rfl, rfl⟩
      refine wl_nil ⟨rfl, ?_⟩
      refine fl_eff1 3 [22, 21, 19, 17, 16, 15, 13, 12, 11, 9, 8, 5] [20, 18, 14, 10] (by kernel_rfl) ⟨obl_ld rfl rfl rfl (v_load rfl (st.reads (v := u32 u.c) 0 rfl TF.t127 rfl)), obl_ld rfl rfl rfl (v_load rfl (st.reads (v := u32 u.b) 0 rfl TF.t127 rfl)), obl_ld rfl rfl rfl (v_load rfl (st.reads (v := u32 u.c) 0 rfl TF.t127 rfl)), obl_ld rfl rfl rfl (v_load rfl (st.reads (v := u32 u.b) 0 rfl TF.t127 rfl)), trivial⟩ rfl ?_
      refine wl_call rfl (c_rotl 13 (by decide) (by decide) (by decide)) rfl ?_
      rintro v61 w ⟨rfl, rfl⟩
      refine wl_nil ⟨rfl, ?_⟩
      refine fl_val 4 rfl (fun _ => (v_xor32 rfl rfl)) rfl (by kernel_rfl) ?_
      refine fl_eff1 6 [4, 22, 21, 19, 17, 16, 15, 13, 12, 11, 9, 8] [20, 18, 14, 10] (by kernel_rfl) ⟨obl_ld rfl rfl rfl (v_load rfl (st.reads (v := u32 u.c) 0 rfl TF.t127 rfl)), obl_ld rfl rfl rfl (v_load rfl (st.reads (v := u32 u.b) 0 rfl TF.t127 rfl)), obl_ld rfl rfl rfl (v_load rfl (st.reads (v := u32 u.c) 0 rfl TF.t127 rfl)), obl_ld rfl rfl rfl (v_load rfl (st.reads (v := u32 u.b) 0 rfl TF.t127 rfl)), trivial⟩ rfl ?_
      refine wl_call rfl (c_rotl 22 (by decide) (by decide) (by decide)) rfl ?_
      rintro v64 w ⟨rfl, rfl⟩
      refine wl_nil ⟨rfl, ?_⟩
      refine fl_val 7 rfl (fun _ => (v_xor32 rfl rfl)) rfl (by kernel_rfl) ?_
      refine fl_val 23 rfl (fun _ => (v_add32 rfl rfl)) rfl (by kernel_rfl) ?_
      refine fl_eff1 24 [] [] (by kernel_rfl) ⟨obl_ld rfl rfl rfl (v_load rfl (st.reads (v := u32 u.c) 0 rfl TF.t127 rfl)), obl_ld rfl rfl rfl (v_load rfl (st.reads (v := u32 u.b) 0 rfl TF.t127 rfl)), obl_ld rfl rfl rfl (v_load rfl (st.reads (v := u32 u.c) 0 rfl TF.t127 rfl)), obl_ld rfl rfl rfl (v_load rfl (st.reads (v := u32 u.b) 0 rfl TF.t127 rfl)), trivial⟩ rfl ?_
      refine wl_val (v_assign' (by conv => (lhs; whnf))) rfl ?_
      refine wl_nil ⟨rfl, ?_⟩
      refine fl_nil (by kernel_rfl) trivial ?_
      refine then_go ?_
      refine wc_seq ?_
      refine wc_draw TF.mixed ?_
      have st := st.pure (touch_drew _)
      refine fl_val 0 rfl (fun _ => (v_sla 1 8 Try.underlying128 TF.t127 rfl ⟨_, _, rfl, rfl⟩ rfl (by omega) (by omega) (by omega))) rfl (by kernel_rfl) ?_
      refine fl_val 1 rfl (fun _ => (v_sla 0 7 Try.underlying128 TF.t127 rfl rfl ⟨_, _, rfl, rfl⟩ (by omega) (by omega) (by omega))) rfl (by kernel_rfl) ?_
      refine fl_eff1 2 [] [] (by kernel_rfl) trivial rfl ?_
      refine wl_copy (size := 1) (b := b4) (off := 0 + 1 * 1) (len := 8 - 1) (cap := 8 - 1) (j := 7) (news := ws [u.a, u.b, u.c, u.d, u.e, u.f, u.g]) 0 st rfl Try.underlying148 TF.t127 rfl rfl (st.srcArr (off := 0) 0 rfl rfl (fun j x hj => by rw [Nat.zero_add]; match j, hj with | 0, hj => exact hj | 1, hj => exact hj | 2, hj => exact hj | 3, hj => exact hj | 4, hj => exact hj | 5, hj => exact hj | 6, hj => exact hj | j + 7, hj => exact absurd hj (by simp [ws])) (one_ws _)) (by simp [ws, V8.l]) rfl ?_
      intro w st
      refine wl_nil ⟨rfl, ?_⟩
      refine fl_nil (by kernel_rfl) trivial ?_
      have e : setSeg (ws u.l).toArray (0 + 1 * 1) ((ws [u.a, u.b, u.c, u.d, u.e, u.f, u.g]).take (min 7 (8 - 1) * 1)) = (ws [u.a, u.a, u.b, u.c, u.d, u.e, u.f, u.g]).toArray := rfl
      change St _ _ _ _ _ [K.blk b4 (setSeg (ws u.l).toArray (0 + 1 * 1) ((ws [u.a, u.b, u.c, u.d, u.e, u.f, u.g]).take (min 7 (8 - 1) * 1))) _, _, _, _] at st
      rw [e] at st
      refine then_go ?_
      refine wc_region ?_
      refine wl_val (v_move' (by conv => (lhs; whnf))) rfl ?_
      refine wl_val (v_move' (by conv => (lhs; whnf))) rfl ?_
      refine wl_val (v_add32 rfl rfl) rfl ?_
      refine wl_val (v_iaa 4 Try.underlying128 TF.t127 rfl rfl (by first | rfl | omega) (by first | omega | (dsimp only at *; omega))) rfl ?_
      refine wl_val (v_load rfl (st.reads (v := u32 u.d) 0 rfl TF.t127 rfl)) rfl ?_
      refine wl_val (v_move' (by conv => (lhs; whnf))) rfl ?_
      refine wl_val (v_add32 rfl rfl) rfl ?_
      refine wl_val (v_iaa 0 Try.underlying128 TF.t127 rfl rfl (by first | rfl | omega) (by first | omega | (dsimp only at *; omega))) rfl ?_
      refine wl_store1 (v := u32 (t1 u kj wj + t2 u)) 0 st rfl TF.t127 rfl rfl rfl (by simp [ws]) ?_
      intro w st
      refine wl_val (v_iaa 4 Try.underlying128 TF.t127 rfl rfl (by first | rfl | omega) (by first | omega | (dsimp only at *; omega))) rfl ?_
      refine wl_store1 (v := u32 (u.d + t1 u kj wj)) 0 st rfl TF.t127 rfl rfl rfl (by simp [ws]) ?_
      intro w st
      refine wl_nil ?_
      have e : (((ws [u.a, u.a, u.b, u.c, u.d, u.e, u.f, u.g]).toArray.setIfInBounds (0 + 0 * 1) (u32 (t1 u kj wj + t2 u))).setIfInBounds (0 + 4 * 1) (u32 (u.d + t1 u kj wj))) = (ws (rnd u kj wj).l).toArray := rfl
      change St _ _ _ _ _ [K.blk b4 (((ws [u.a, u.a, u.b, u.c, u.d, u.e, u.f, u.g]).toArray.setIfInBounds (0 + 0 * 1) (u32 (t1 u kj wj + t2 u))).setIfInBounds (0 + 4 * 1) (u32 (u.d + t1 u kj wj))) _, _, _, _] at st
      rw [e, show rnd u kj wj = rnds (j + 1) v (sched bk) by rw [hu, hkj, hwj]; rfl] at st
      refine block_go (then_go ?_)
      refine wc_region ?_
      refine wl_val (v_add' rfl rfl rfl (by first | omega | (dsimp only at *; omega)) (by first | omega | (dsimp only at *; omega))) rfl ?_
      refine wl_val (v_move' (by conv => (lhs; whnf))) rfl ?_
      refine wl_nil ?_
      refine then_go ?_
      exact ⟨q - 1, by simp; omega, j + 1, by omega, rfl, rfl, rfl, rfl, rfl, st⟩
    · refine wc_exit (then_exit (then_exit (block_hit ?_)))
      refine then_go ?_
      refine wc_seq ?_
      refine wc_seq ?_
      have hj64 : j = 64 := by omega
      subst hj64
      obtain ⟨u, hu⟩ : ∃ u, u = rnds 64 v (sched bk) := ⟨_, rfl⟩
      rw [← hu] at st
      have e0 : hashC v bk hv n = (ws (addI v u 0) ++ (bs bk ++ [.int .i64 hv, u64 n])).toArray := by simp [hashC, addI_zero]
      rw [e0] at st
      refine wc_region ?_
      refine wl_val (v_load rfl (st.reads 0 rfl TF.t128 (getV_all (c := (ws u.l).toArray) rfl))) rfl ?_
      refine wl_val (v_move' (by conv => (lhs; whnf))) rfl ?_
      refine wl_nil ?_
      refine then_go ?_
      refine wc_block ?_
      refine wc_loop (S := Nat) (fun q r w' => ∃ i, q + i = 8 ∧ r 0 = .pointer (some ⟨b, 0, none⟩) ∧ r 95 = arr32 u.l ∧ r 96 = .int .i64 i ∧
        St m m [b] wI w' [K.blk b4 (ws u.l).toArray 128, K.blk b3 (ws kk).toArray 138, K.blk b2 (ws (sched bk)).toArray 138, K.blk b (ws (addI v u i) ++ (bs bk ++ [.int .i64 hv, u64 n])).toArray 145]) id 8 ⟨0, rfl, rfl, rfl, rfl, st⟩ ?_
      rintro q2 r w3 ⟨i, hqi, h0, h95, h96, st⟩
      refine wc_o 0 h0 (wc_o 95 h95 (wc_o 96 h96 ?_))
      refine wc_seq ?_
      refine wc_region ?_
      refine wl_val (v_lss rfl rfl) rfl ?_
      refine wl_nil ?_
      refine then_go ?_
      refine wc_seq ?_
      refine wc_if rfl (fun h97 => ?_) (fun h97 => ?_)
      · refine wc_skip ?_
        refine then_go ?_
        refine wc_seq ?_
        refine wc_block ?_
        refine wc_seq ?_
        have hi : i < 8 := by omega
        refine wc_region ?_
        refine wl_val (v_move' (by conv => (lhs; whnf))) rfl ?_
        refine wl_val (v_index_a (v := u32 (u.l.getD i 0)) Try.underlying128 TF.t127 rfl rfl (by omega) (by omega) (getV_wse (j := i) (by simp) (by rw [length_l]; omega))) rfl ?_
        refine wl_val (v_assign' (by conv => (lhs; whnf))) rfl ?_
        refine wl_val (v_assign' (by conv => (lhs; whnf))) rfl ?_
        refine wl_nil ?_
        refine then_go ?_
        refine wc_draw TF.mixed ?_
        have st := st.pure (touch_drew _)
        refine fl_val 0 rfl (fun _ => (v_move' (by conv => (lhs; whnf)))) rfl (by kernel_rfl) ?_
        refine fl_val 1 rfl (fun _ => (v_move' (by conv => (lhs; whnf)))) rfl (by kernel_rfl) ?_
        refine fl_val 2 rfl (fun _ => (v_nil rfl)) rfl (by kernel_rfl) ?_
        refine fl_val 3 rfl (fun _ => (v_fa TF.f145_0 rfl)) rfl (by kernel_rfl) ?_
        refine fl_val 4 rfl (fun _ => (v_iaa i Try.underlying128 TF.t127 rfl rfl (by first | rfl | omega) (by first | omega | (dsimp only at *; omega)))) rfl (by kernel_rfl) ?_
        refine fl_ld 5 rfl (v_load rfl (st.reads (v := u32 (v.l.getD i 0)) 3 rfl TF.t127 (by rw [← addI_at v u i hi]; exact getV_ws (j := i) (by omega) (by rw [length_addI]; omega)))) (by kernel_rfl) ?_
        refine fl_val 6 rfl (fun _ => (v_move' (by conv => (lhs; whnf)))) rfl (by kernel_rfl) ?_
        refine fl_val 7 rfl (fun _ => (v_add32 rfl rfl)) rfl (by kernel_rfl) ?_
        refine fl_val 8 rfl (fun _ => (v_nil rfl)) rfl (by kernel_rfl) ?_
        refine fl_val 9 rfl (fun _ => (v_fa TF.f145_0 rfl)) rfl (by kernel_rfl) ?_
        refine fl_val 10 rfl (fun _ => (v_iaa i Try.underlying128 TF.t127 rfl rfl (by first | rfl | omega) (by first | omega | (dsimp only at *; omega)))) rfl (by kernel_rfl) ?_
        refine fl_eff1 11 [9, 8] [] (by kernel_rfl) ⟨obl_ld rfl rfl rfl (v_load rfl (st.reads (v := u32 (v.l.getD i 0)) 3 rfl TF.t127 (by rw [← addI_at v u i hi]; exact getV_ws (j := i) (by omega) (by rw [length_addI]; omega)))), trivial⟩ rfl ?_
        refine wl_store1 (v := u32 (v.l.getD i 0 + u.l.getD i 0)) 3 st rfl TF.t127 rfl rfl rfl (by simp [ws, length_addI]; omega) ?_
        intro w st
        refine wl_nil ⟨rfl, ?_⟩
        refine fl_nil (by kernel_rfl) trivial ?_
        refine block_go (then_go ?_)
        refine wc_region ?_
        refine wl_val (v_add' rfl rfl rfl (by first | omega | (dsimp only at *; omega)) (by first | omega | (dsimp only at *; omega))) rfl ?_
        refine wl_val (v_move' (by conv => (lhs; whnf))) rfl ?_
        refine wl_nil ?_
        refine then_go ?_
        refine ⟨q2 - 1, by simp; omega, i + 1, by omega, rfl, rfl, rfl, ?_⟩
        have e := set_ws (L := addI v u i) (X := bs bk ++ [.int .i64 hv, u64 n]) (o := 0 + 0 + i * 1) (i := i) (y := v.l.getD i 0 + u.l.getD i 0) (by omega) (by rw [length_addI]; omega)
        rw [addI_succ] at e
        rw [← e]
        exact st
      · refine wc_exit (then_exit (then_exit (block_hit ?_)))
        refine then_go ?_
        have hi8 : i = 8 := by omega
        subst hi8
        rw [addI_all, hu] at st
        refine wc_region ?_
        refine wl_val (v_move' (by conv => (lhs; whnf))) rfl ?_
        refine wl_val (v_nil rfl) rfl ?_
        refine wl_val (v_fa TF.f145_2 rfl) rfl ?_
        refine wl_store1 (v := .int .i64 0) 3 st rfl TF.t3 rfl rfl rfl (by simp [ws, bs, hl, length_l]) ?_
        intro w st
        refine wl_nil ?_
        have e : (ws (v.add (rnds 64 v (sched bk))).l ++ (bs bk ++ [.int .i64 hv, u64 n])).toArray.setIfInBounds (0 + 72) (.int .i64 0) = hashC (comp v bk) bk 0 n := by
          have := set_app (A := ws (v.add (rnds 64 v (sched bk))).l ++ bs bk) (B := [u64 n]) (x := .int .i64 0) (y := .int .i64 hv) (n := 0 + 72) (by simp [ws, bs, hl, length_l])
          rw [← List.append_assoc]
          rw [show [Value.int .i64 hv, u64 n] = Value.int .i64 hv :: [u64 n] from rfl, this]
          rfl
        have hfin := st.at (i := 3) rfl
        rw [e] at hfin
        exact end0 ⟨st.touch, hfin⟩
  refine fl_val 0 rfl (fun _ => (v_move' (by conv => (lhs; whnf)))) rfl (by kernel_rfl) ?_
  refine fl_val 1 rfl (fun _ => (v_nil rfl)) rfl (by kernel_rfl) ?_
  refine fl_val 2 rfl (fun _ => (v_fa TF.f145_1 rfl)) rfl (by kernel_rfl) ?_
  refine fl_val 5 rfl (fun _ => (v_move' (by conv => (lhs; whnf)))) rfl (by kernel_rfl) ?_
  refine fl_val 6 rfl (fun _ => (v_nil rfl)) rfl (by kernel_rfl) ?_
  refine fl_val 7 rfl (fun _ => (v_fa TF.f145_0 rfl)) rfl (by kernel_rfl) ?_
  refine fl_ld 8 rfl (v_load rfl (by first | exact st.reads 0 rfl TF.t128 (getV_state ..) | exact st.reads 1 rfl TF.t128 (getV_state ..) | exact st.reads 2 rfl TF.t128 (getV_state ..) | exact st.reads 3 rfl TF.t128 (getV_state ..))) (by kernel_rfl) ?_
  refine fl_effs [3, 9, 10, 11] (by kernel_rfl) ⟨obl_ld rfl rfl rfl (v_load rfl (by first | exact st.reads 0 rfl TF.t128 (getV_state ..) | exact st.reads 1 rfl TF.t128 (getV_state ..) | exact st.reads 2 rfl TF.t128 (getV_state ..) | exact st.reads 3 rfl TF.t128 (getV_state ..))), trivial⟩ (all4 ?_ ?_ ?_ ?_)
  · refine stepE 3 (pure' := [7, 6, 5, 1, 0]) (lds' := [8]) rfl (by kernel_rfl) (by kernel_rfl) ?_
    refine wl_call rfl (by first | exact c_spreadS st 0 rfl hl | exact c_spreadS st 1 rfl hl | exact c_spreadS st 2 rfl hl | exact c_spreadS st 3 rfl hl) rfl ?_
    rintro v15 w ⟨t, rfl⟩
    have st := st.pure t
    refine wl_nil ⟨rfl, ?_⟩
    refine fl_effs [4, 9, 10, 11] (by kernel_rfl) ⟨obl_ld rfl rfl rfl (v_load rfl (by first | exact st.reads 0 rfl TF.t128 (getV_state ..) | exact st.reads 1 rfl TF.t128 (getV_state ..) | exact st.reads 2 rfl TF.t128 (getV_state ..) | exact st.reads 3 rfl TF.t128 (getV_state ..))), trivial⟩ (all4 ?_ ?_ ?_ ?_)
    · refine stepE 4 (pure' := [7, 6, 5, 1, 0]) (lds' := [8]) rfl (by kernel_rfl) (by kernel_rfl) ?_
      refine wl_call rfl (c_factors st.im) rfl ?_
      rintro v16 w ⟨t, rfl⟩
      have st := st.pure t
      refine wl_nil ⟨rfl, ?_⟩
      refine fl_effs [9, 10, 11] (by kernel_rfl) ⟨obl_ld rfl rfl rfl (v_load rfl (by first | exact st.reads 0 rfl TF.t128 (getV_state ..) | exact st.reads 1 rfl TF.t128 (getV_state ..) | exact st.reads 2 rfl TF.t128 (getV_state ..) | exact st.reads 3 rfl TF.t128 (getV_state ..))), trivial⟩ (all3 ?_ ?_ ?_)
      · refine stepE 9 (pure' := [7, 6, 5, 1, 0]) (lds' := [8]) rfl (by kernel_rfl) (by kernel_rfl) ?_
        refine wl_alloc TF.z138 st rfl ?_
        intro b2 w st
        refine wl_nil ⟨rfl, ?_⟩
        refine fl_effs [10, 11] (by kernel_rfl) ⟨obl_ld rfl rfl rfl (v_load rfl (by first | exact st.reads 0 rfl TF.t128 (getV_state ..) | exact st.reads 1 rfl TF.t128 (getV_state ..) | exact st.reads 2 rfl TF.t128 (getV_state ..) | exact st.reads 3 rfl TF.t128 (getV_state ..))), trivial⟩ (all2 ?_ ?_)
        · refine stepE 10 (pure' := [7, 6, 5, 1, 0]) (lds' := [8]) rfl (by kernel_rfl) (by kernel_rfl) ?_
          refine wl_alloc TF.z138 st rfl ?_
          intro b3 w st
          refine wl_nil ⟨rfl, ?_⟩
          refine fl_eff1 11 [7, 6, 5, 1, 0] [8] (by kernel_rfl) ⟨obl_ld rfl rfl rfl (v_load rfl (by first | exact st.reads 0 rfl TF.t128 (getV_state ..) | exact st.reads 1 rfl TF.t128 (getV_state ..) | exact st.reads 2 rfl TF.t128 (getV_state ..) | exact st.reads 3 rfl TF.t128 (getV_state ..))), trivial⟩ rfl ?_
          refine wl_alloc TF.z128 st rfl ?_
          intro b4 w st
          refine wl_nil ⟨rfl, ?_⟩
          refine FL.permB [11, 10, 9, 4, 3, 8, 7, 6, 5, 2, 1, 0] [7, 6, 5, 1, 0] [8] (by kernel_rfl) ?_
          exact fin _ _ _ _ _ rfl rfl rfl rfl rfl rfl rfl rfl rfl rfl (by first | exact st | exact st.perm p3_2 | exact st.perm p3_3 | exact st.perm p3_4 | exact st.perm p3_5 | exact st.perm p3_6)
        · refine stepE 11 (pure' := [7, 6, 5, 1, 0]) (lds' := [8]) rfl (by kernel_rfl) (by kernel_rfl) ?_
          refine wl_alloc TF.z128 st rfl ?_
          intro b4 w st
          refine wl_nil ⟨rfl, ?_⟩
          refine fl_eff1 10 [7, 6, 5, 1, 0] [8] (by kernel_rfl) ⟨obl_ld rfl rfl rfl (v_load rfl (by first | exact st.reads 0 rfl TF.t128 (getV_state ..) | exact st.reads 1 rfl TF.t128 (getV_state ..) | exact st.reads 2 rfl TF.t128 (getV_state ..) | exact st.reads 3 rfl TF.t128 (getV_state ..))), trivial⟩ rfl ?_
          refine wl_alloc TF.z138 st rfl ?_
          intro b3 w st
          refine wl_nil ⟨rfl, ?_⟩
          refine FL.permB [11, 10, 9, 4, 3, 8, 7, 6, 5, 2, 1, 0] [7, 6, 5, 1, 0] [8] (by kernel_rfl) ?_
          exact fin _ _ _ _ _ rfl rfl rfl rfl rfl rfl rfl rfl rfl rfl (by first | exact st | exact st.perm p3_2 | exact st.perm p3_3 | exact st.perm p3_4 | exact st.perm p3_5 | exact st.perm p3_6)
      · refine stepE 10 (pure' := [7, 6, 5, 1, 0]) (lds' := [8]) rfl (by kernel_rfl) (by kernel_rfl) ?_
        refine wl_alloc TF.z138 st rfl ?_
        intro b3 w st
        refine wl_nil ⟨rfl, ?_⟩
        refine fl_effs [9, 11] (by kernel_rfl) ⟨obl_ld rfl rfl rfl (v_load rfl (by first | exact st.reads 0 rfl TF.t128 (getV_state ..) | exact st.reads 1 rfl TF.t128 (getV_state ..) | exact st.reads 2 rfl TF.t128 (getV_state ..) | exact st.reads 3 rfl TF.t128 (getV_state ..))), trivial⟩ (all2 ?_ ?_)
        · refine stepE 9 (pure' := [7, 6, 5, 1, 0]) (lds' := [8]) rfl (by kernel_rfl) (by kernel_rfl) ?_
          refine wl_alloc TF.z138 st rfl ?_
          intro b2 w st
          refine wl_nil ⟨rfl, ?_⟩
          refine fl_eff1 11 [7, 6, 5, 1, 0] [8] (by kernel_rfl) ⟨obl_ld rfl rfl rfl (v_load rfl (by first | exact st.reads 0 rfl TF.t128 (getV_state ..) | exact st.reads 1 rfl TF.t128 (getV_state ..) | exact st.reads 2 rfl TF.t128 (getV_state ..) | exact st.reads 3 rfl TF.t128 (getV_state ..))), trivial⟩ rfl ?_
          refine wl_alloc TF.z128 st rfl ?_
          intro b4 w st
          refine wl_nil ⟨rfl, ?_⟩
          refine FL.permB [11, 10, 9, 4, 3, 8, 7, 6, 5, 2, 1, 0] [7, 6, 5, 1, 0] [8] (by kernel_rfl) ?_
          exact fin _ _ _ _ _ rfl rfl rfl rfl rfl rfl rfl rfl rfl rfl (by first | exact st | exact st.perm p3_2 | exact st.perm p3_3 | exact st.perm p3_4 | exact st.perm p3_5 | exact st.perm p3_6)
        · refine stepE 11 (pure' := [7, 6, 5, 1, 0]) (lds' := [8]) rfl (by kernel_rfl) (by kernel_rfl) ?_
          refine wl_alloc TF.z128 st rfl ?_
          intro b4 w st
          refine wl_nil ⟨rfl, ?_⟩
          refine fl_eff1 9 [7, 6, 5, 1, 0] [8] (by kernel_rfl) ⟨obl_ld rfl rfl rfl (v_load rfl (by first | exact st.reads 0 rfl TF.t128 (getV_state ..) | exact st.reads 1 rfl TF.t128 (getV_state ..) | exact st.reads 2 rfl TF.t128 (getV_state ..) | exact st.reads 3 rfl TF.t128 (getV_state ..))), trivial⟩ rfl ?_
          refine wl_alloc TF.z138 st rfl ?_
          intro b2 w st
          refine wl_nil ⟨rfl, ?_⟩
          refine FL.permB [11, 10, 9, 4, 3, 8, 7, 6, 5, 2, 1, 0] [7, 6, 5, 1, 0] [8] (by kernel_rfl) ?_
          exact fin _ _ _ _ _ rfl rfl rfl rfl rfl rfl rfl rfl rfl rfl (by first | exact st | exact st.perm p3_2 | exact st.perm p3_3 | exact st.perm p3_4 | exact st.perm p3_5 | exact st.perm p3_6)
      · refine stepE 11 (pure' := [7, 6, 5, 1, 0]) (lds' := [8]) rfl (by kernel_rfl) (by kernel_rfl) ?_
        refine wl_alloc TF.z128 st rfl ?_
        intro b4 w st
        refine wl_nil ⟨rfl, ?_⟩
        refine fl_effs [9, 10] (by kernel_rfl) ⟨obl_ld rfl rfl rfl (v_load rfl (by first | exact st.reads 0 rfl TF.t128 (getV_state ..) | exact st.reads 1 rfl TF.t128 (getV_state ..) | exact st.reads 2 rfl TF.t128 (getV_state ..) | exact st.reads 3 rfl TF.t128 (getV_state ..))), trivial⟩ (all2 ?_ ?_)
        · refine stepE 9 (pure' := [7, 6, 5, 1, 0]) (lds' := [8]) rfl (by kernel_rfl) (by kernel_rfl) ?_
          refine wl_alloc TF.z138 st rfl ?_
          intro b2 w st
          refine wl_nil ⟨rfl, ?_⟩
          refine fl_eff1 10 [7, 6, 5, 1, 0] [8] (by kernel_rfl) ⟨obl_ld rfl rfl rfl (v_load rfl (by first | exact st.reads 0 rfl TF.t128 (getV_state ..) | exact st.reads 1 rfl TF.t128 (getV_state ..) | exact st.reads 2 rfl TF.t128 (getV_state ..) | exact st.reads 3 rfl TF.t128 (getV_state ..))), trivial⟩ rfl ?_
          refine wl_alloc TF.z138 st rfl ?_
          intro b3 w st
          refine wl_nil ⟨rfl, ?_⟩
          refine FL.permB [11, 10, 9, 4, 3, 8, 7, 6, 5, 2, 1, 0] [7, 6, 5, 1, 0] [8] (by kernel_rfl) ?_
          exact fin _ _ _ _ _ rfl rfl rfl rfl rfl rfl rfl rfl rfl rfl (by first | exact st | exact st.perm p3_2 | exact st.perm p3_3 | exact st.perm p3_4 | exact st.perm p3_5 | exact st.perm p3_6)
        · refine stepE 10 (pure' := [7, 6, 5, 1, 0]) (lds' := [8]) rfl (by kernel_rfl) (by kernel_rfl) ?_
          refine wl_alloc TF.z138 st rfl ?_
          intro b3 w st
          refine wl_nil ⟨rfl, ?_⟩
          refine fl_eff1 9 [7, 6, 5, 1, 0] [8] (by kernel_rfl) ⟨obl_ld rfl rfl rfl (v_load rfl (by first | exact st.reads 0 rfl TF.t128 (getV_state ..) | exact st.reads 1 rfl TF.t128 (getV_state ..) | exact st.reads 2 rfl TF.t128 (getV_state ..) | exact st.reads 3 rfl TF.t128 (getV_state ..))), trivial⟩ rfl ?_
          refine wl_alloc TF.z138 st rfl ?_
          intro b2 w st
          refine wl_nil ⟨rfl, ?_⟩
          refine FL.permB [11, 10, 9, 4, 3, 8, 7, 6, 5, 2, 1, 0] [7, 6, 5, 1, 0] [8] (by kernel_rfl) ?_
          exact fin _ _ _ _ _ rfl rfl rfl rfl rfl rfl rfl rfl rfl rfl (by first | exact st | exact st.perm p3_2 | exact st.perm p3_3 | exact st.perm p3_4 | exact st.perm p3_5 | exact st.perm p3_6)
    · refine stepE 9 (pure' := [7, 6, 5, 1, 0]) (lds' := [8]) rfl (by kernel_rfl) (by kernel_rfl) ?_
      refine wl_alloc TF.z138 st rfl ?_
      intro b2 w st
      refine wl_nil ⟨rfl, ?_⟩
      refine fl_effs [4, 10, 11] (by kernel_rfl) ⟨obl_ld rfl rfl rfl (v_load rfl (by first | exact st.reads 0 rfl TF.t128 (getV_state ..) | exact st.reads 1 rfl TF.t128 (getV_state ..) | exact st.reads 2 rfl TF.t128 (getV_state ..) | exact st.reads 3 rfl TF.t128 (getV_state ..))), trivial⟩ (all3 ?_ ?_ ?_)
      · refine stepE 4 (pure' := [7, 6, 5, 1, 0]) (lds' := [8]) rfl (by kernel_rfl) (by kernel_rfl) ?_
        refine wl_call rfl (c_factors st.im) rfl ?_
        rintro v16 w ⟨t, rfl⟩
        have st := st.pure t
        refine wl_nil ⟨rfl, ?_⟩
        refine fl_effs [10, 11] (by kernel_rfl) ⟨obl_ld rfl rfl rfl (v_load rfl (by first | exact st.reads 0 rfl TF.t128 (getV_state ..) | exact st.reads 1 rfl TF.t128 (getV_state ..) | exact st.reads 2 rfl TF.t128 (getV_state ..) | exact st.reads 3 rfl TF.t128 (getV_state ..))), trivial⟩ (all2 ?_ ?_)
        · refine stepE 10 (pure' := [7, 6, 5, 1, 0]) (lds' := [8]) rfl (by kernel_rfl) (by kernel_rfl) ?_
          refine wl_alloc TF.z138 st rfl ?_
          intro b3 w st
          refine wl_nil ⟨rfl, ?_⟩
          refine fl_eff1 11 [7, 6, 5, 1, 0] [8] (by kernel_rfl) ⟨obl_ld rfl rfl rfl (v_load rfl (by first | exact st.reads 0 rfl TF.t128 (getV_state ..) | exact st.reads 1 rfl TF.t128 (getV_state ..) | exact st.reads 2 rfl TF.t128 (getV_state ..) | exact st.reads 3 rfl TF.t128 (getV_state ..))), trivial⟩ rfl ?_
          refine wl_alloc TF.z128 st rfl ?_
          intro b4 w st
          refine wl_nil ⟨rfl, ?_⟩
          refine FL.permB [11, 10, 9, 4, 3, 8, 7, 6, 5, 2, 1, 0] [7, 6, 5, 1, 0] [8] (by kernel_rfl) ?_
          exact fin _ _ _ _ _ rfl rfl rfl rfl rfl rfl rfl rfl rfl rfl (by first | exact st | exact st.perm p3_2 | exact st.perm p3_3 | exact st.perm p3_4 | exact st.perm p3_5 | exact st.perm p3_6)
        · refine stepE 11 (pure' := [7, 6, 5, 1, 0]) (lds' := [8]) rfl (by kernel_rfl) (by kernel_rfl) ?_
          refine wl_alloc TF.z128 st rfl ?_
          intro b4 w st
          refine wl_nil ⟨rfl, ?_⟩
          refine fl_eff1 10 [7, 6, 5, 1, 0] [8] (by kernel_rfl) ⟨obl_ld rfl rfl rfl (v_load rfl (by first | exact st.reads 0 rfl TF.t128 (getV_state ..) | exact st.reads 1 rfl TF.t128 (getV_state ..) | exact st.reads 2 rfl TF.t128 (getV_state ..) | exact st.reads 3 rfl TF.t128 (getV_state ..))), trivial⟩ rfl ?_
          refine wl_alloc TF.z138 st rfl ?_
          intro b3 w st
          refine wl_nil ⟨rfl, ?_⟩
          refine FL.permB [11, 10, 9, 4, 3, 8, 7, 6, 5, 2, 1, 0] [7, 6, 5, 1, 0] [8] (by kernel_rfl) ?_
          exact fin _ _ _ _ _ rfl rfl rfl rfl rfl rfl rfl rfl rfl rfl (by first | exact st | exact st.perm p3_2 | exact st.perm p3_3 | exact st.perm p3_4 | exact st.perm p3_5 | exact st.perm p3_6)
      · refine stepE 10 (pure' := [7, 6, 5, 1, 0]) (lds' := [8]) rfl (by kernel_rfl) (by kernel_rfl) ?_
        refine wl_alloc TF.z138 st rfl ?_
        intro b3 w st
        refine wl_nil ⟨rfl, ?_⟩
        refine fl_effs [4, 11] (by kernel_rfl) ⟨obl_ld rfl rfl rfl (v_load rfl (by first | exact st.reads 0 rfl TF.t128 (getV_state ..) | exact st.reads 1 rfl TF.t128 (getV_state ..) | exact st.reads 2 rfl TF.t128 (getV_state ..) | exact st.reads 3 rfl TF.t128 (getV_state ..))), trivial⟩ (all2 ?_ ?_)
        · refine stepE 4 (pure' := [7, 6, 5, 1, 0]) (lds' := [8]) rfl (by kernel_rfl) (by kernel_rfl) ?_
          refine wl_call rfl (c_factors st.im) rfl ?_
          rintro v16 w ⟨t, rfl⟩
          have st := st.pure t
          refine wl_nil ⟨rfl, ?_⟩
          refine fl_eff1 11 [7, 6, 5, 1, 0] [8] (by kernel_rfl) ⟨obl_ld rfl rfl rfl (v_load rfl (by first | exact st.reads 0 rfl TF.t128 (getV_state ..) | exact st.reads 1 rfl TF.t128 (getV_state ..) | exact st.reads 2 rfl TF.t128 (getV_state ..) | exact st.reads 3 rfl TF.t128 (getV_state ..))), trivial⟩ rfl ?_
          refine wl_alloc TF.z128 st rfl ?_
          intro b4 w st
          refine wl_nil ⟨rfl, ?_⟩
          refine FL.permB [11, 10, 9, 4, 3, 8, 7, 6, 5, 2, 1, 0] [7, 6, 5, 1, 0] [8] (by kernel_rfl) ?_
          exact fin _ _ _ _ _ rfl rfl rfl rfl rfl rfl rfl rfl rfl rfl (by first | exact st | exact st.perm p3_2 | exact st.perm p3_3 | exact st.perm p3_4 | exact st.perm p3_5 | exact st.perm p3_6)
        · refine stepE 11 (pure' := [7, 6, 5, 1, 0]) (lds' := [8]) rfl (by kernel_rfl) (by kernel_rfl) ?_
          refine wl_alloc TF.z128 st rfl ?_
          intro b4 w st
          refine wl_nil ⟨rfl, ?_⟩
          refine fl_eff1 4 [7, 6, 5, 1, 0] [8] (by kernel_rfl) ⟨obl_ld rfl rfl rfl (v_load rfl (by first | exact st.reads 0 rfl TF.t128 (getV_state ..) | exact st.reads 1 rfl TF.t128 (getV_state ..) | exact st.reads 2 rfl TF.t128 (getV_state ..) | exact st.reads 3 rfl TF.t128 (getV_state ..))), trivial⟩ rfl ?_
          refine wl_call rfl (c_factors st.im) rfl ?_
          rintro v16 w ⟨t, rfl⟩
          have st := st.pure t
          refine wl_nil ⟨rfl, ?_⟩
          refine FL.permB [11, 10, 9, 4, 3, 8, 7, 6, 5, 2, 1, 0] [7, 6, 5, 1, 0] [8] (by kernel_rfl) ?_
          exact fin _ _ _ _ _ rfl rfl rfl rfl rfl rfl rfl rfl rfl rfl (by first | exact st | exact st.perm p3_2 | exact st.perm p3_3 | exact st.perm p3_4 | exact st.perm p3_5 | exact st.perm p3_6)
      · refine stepE 11 (pure' := [7, 6, 5, 1, 0]) (lds' := [8]) rfl (by kernel_rfl) (by kernel_rfl) ?_
        refine wl_alloc TF.z128 st rfl ?_
        intro b4 w st
        refine wl_nil ⟨rfl, ?_⟩
        refine fl_effs [4, 10] (by kernel_rfl) ⟨obl_ld rfl rfl rfl (v_load rfl (by first | exact st.reads 0 rfl TF.t128 (getV_state ..) | exact st.reads 1 rfl TF.t128 (getV_state ..) | exact st.reads 2 rfl TF.t128 (getV_state ..) | exact st.reads 3 rfl TF.t128 (getV_state ..))), trivial⟩ (all2 ?_ ?_)
        · refine stepE 4 (pure' := [7, 6, 5, 1, 0]) (lds' := [8]) rfl (by kernel_rfl) (by kernel_rfl) ?_
          refine wl_call rfl (c_factors st.im) rfl ?_
          rintro v16 w ⟨t, rfl⟩
          have st := st.pure t
          refine wl_nil ⟨rfl, ?_⟩
          refine fl_eff1 10 [7, 6, 5, 1, 0] [8] (by kernel_rfl) ⟨obl_ld rfl rfl rfl (v_load rfl (by first | exact st.reads 0 rfl TF.t128 (getV_state ..) | exact st.reads 1 rfl TF.t128 (getV_state ..) | exact st.reads 2 rfl TF.t128 (getV_state ..) | exact st.reads 3 rfl TF.t128 (getV_state ..))), trivial⟩ rfl ?_
          refine wl_alloc TF.z138 st rfl ?_
          intro b3 w st
          refine wl_nil ⟨rfl, ?_⟩
          refine FL.permB [11, 10, 9, 4, 3, 8, 7, 6, 5, 2, 1, 0] [7, 6, 5, 1, 0] [8] (by kernel_rfl) ?_
          exact fin _ _ _ _ _ rfl rfl rfl rfl rfl rfl rfl rfl rfl rfl (by first | exact st | exact st.perm p3_2 | exact st.perm p3_3 | exact st.perm p3_4 | exact st.perm p3_5 | exact st.perm p3_6)
        · refine stepE 10 (pure' := [7, 6, 5, 1, 0]) (lds' := [8]) rfl (by kernel_rfl) (by kernel_rfl) ?_
          refine wl_alloc TF.z138 st rfl ?_
          intro b3 w st
          refine wl_nil ⟨rfl, ?_⟩
          refine fl_eff1 4 [7, 6, 5, 1, 0] [8] (by kernel_rfl) ⟨obl_ld rfl rfl rfl (v_load rfl (by first | exact st.reads 0 rfl TF.t128 (getV_state ..) | exact st.reads 1 rfl TF.t128 (getV_state ..) | exact st.reads 2 rfl TF.t128 (getV_state ..) | exact st.reads 3 rfl TF.t128 (getV_state ..))), trivial⟩ rfl ?_
          refine wl_call rfl (c_factors st.im) rfl ?_
          rintro v16 w ⟨t, rfl⟩
          have st := st.pure t
          refine wl_nil ⟨rfl, ?_⟩
          refine FL.permB [11, 10, 9, 4, 3, 8, 7, 6, 5, 2, 1, 0] [7, 6, 5, 1, 0] [8] (by kernel_rfl) ?_
          exact fin _ _ _ _ _ rfl rfl rfl rfl rfl rfl rfl rfl rfl rfl (by first | exact st | exact st.perm p3_2 | exact st.perm p3_3 | exact st.perm p3_4 | exact st.perm p3_5 | exact st.perm p3_6)
    · refine stepE 10 (pure' := [7, 6, 5, 1, 0]) (lds' := [8]) rfl (by kernel_rfl) (by kernel_rfl) ?_
      refine wl_alloc TF.z138 st rfl ?_
      intro b3 w st
      refine wl_nil ⟨rfl, ?_⟩
      refine fl_effs [4, 9, 11] (by kernel_rfl) ⟨obl_ld rfl rfl rfl (v_load rfl (by first | exact st.reads 0 rfl TF.t128 (getV_state ..) | exact st.reads 1 rfl TF.t128 (getV_state ..) | exact st.reads 2 rfl TF.t128 (getV_state ..) | exact st.reads 3 rfl TF.t128 (getV_state ..))), trivial⟩ (all3 ?_ ?_ ?_)
      · refine stepE 4 (pure' := [7, 6, 5, 1, 0]) (lds' := [8]) rfl (by kernel_rfl) (by kernel_rfl) ?_
        refine wl_call rfl (c_factors st.im) rfl ?_
        rintro v16 w ⟨t, rfl⟩
        have st := st.pure t
        refine wl_nil ⟨rfl, ?_⟩
        refine fl_effs [9, 11] (by kernel_rfl) ⟨obl_ld rfl rfl rfl (v_load rfl (by first | exact st.reads 0 rfl TF.t128 (getV_state ..) | exact st.reads 1 rfl TF.t128 (getV_state ..) | exact st.reads 2 rfl TF.t128 (getV_state ..) | exact st.reads 3 rfl TF.t128 (getV_state ..))), trivial⟩ (all2 ?_ ?_)
        · refine stepE 9 (pure' := [7, 6, 5, 1, 0]) (lds' := [8]) rfl (by kernel_rfl) (by kernel_rfl) ?_
          refine wl_alloc TF.z138 st rfl ?_
          intro b2 w st
          refine wl_nil ⟨rfl, ?_⟩
          refine fl_eff1 11 [7, 6, 5, 1, 0] [8] (by kernel_rfl) ⟨obl_ld rfl rfl rfl (v_load rfl (by first | exact st.reads 0 rfl TF.t128 (getV_state ..) | exact st.reads 1 rfl TF.t128 (getV_state ..) | exact st.reads 2 rfl TF.t128 (getV_state ..) | exact st.reads 3 rfl TF.t128 (getV_state ..))), trivial⟩ rfl ?_
          refine wl_alloc TF.z128 st rfl ?_
          intro b4 w st
          refine wl_nil ⟨rfl, ?_⟩
          refine FL.permB [11, 10, 9, 4, 3, 8, 7, 6, 5, 2, 1, 0] [7, 6, 5, 1, 0] [8] (by kernel_rfl) ?_
          exact fin _ _ _ _ _ rfl rfl rfl rfl rfl rfl rfl rfl rfl rfl (by first | exact st | exact st.perm p3_2 | exact st.perm p3_3 | exact st.perm p3_4 | exact st.perm p3_5 | exact st.perm p3_6)
        · refine stepE 11 (pure' := [7, 6, 5, 1, 0]) (lds' := [8]) rfl (by kernel_rfl) (by kernel_rfl) ?_
          refine wl_alloc TF.z128 st rfl ?_
          intro b4 w st
          refine wl_nil ⟨rfl, ?_⟩
          refine fl_eff1 9 [7, 6, 5, 1, 0] [8] (by kernel_rfl) ⟨obl_ld rfl rfl rfl (v_load rfl (by first | exact st.reads 0 rfl TF.t128 (getV_state ..) | exact st.reads 1 rfl TF.t128 (getV_state ..) | exact st.reads 2 rfl TF.t128 (getV_state ..) | exact st.reads 3 rfl TF.t128 (getV_state ..))), trivial⟩ rfl ?_
          refine wl_alloc TF.z138 st rfl ?_
          intro b2 w st
          refine wl_nil ⟨rfl, ?_⟩
          refine FL.permB [11, 10, 9, 4, 3, 8, 7, 6, 5, 2, 1, 0] [7, 6, 5, 1, 0] [8] (by kernel_rfl) ?_
          exact fin _ _ _ _ _ rfl rfl rfl rfl rfl rfl rfl rfl rfl rfl (by first | exact st | exact st.perm p3_2 | exact st.perm p3_3 | exact st.perm p3_4 | exact st.perm p3_5 | exact st.perm p3_6)
      · refine stepE 9 (pure' := [7, 6, 5, 1, 0]) (lds' := [8]) rfl (by kernel_rfl) (by kernel_rfl) ?_
        refine wl_alloc TF.z138 st rfl ?_
        intro b2 w st
        refine wl_nil ⟨rfl, ?_⟩
        refine fl_effs [4, 11] (by kernel_rfl) ⟨obl_ld rfl rfl rfl (v_load rfl (by first | exact st.reads 0 rfl TF.t128 (getV_state ..) | exact st.reads 1 rfl TF.t128 (getV_state ..) | exact st.reads 2 rfl TF.t128 (getV_state ..) | exact st.reads 3 rfl TF.t128 (getV_state ..))), trivial⟩ (all2 ?_ ?_)
        · refine stepE 4 (pure' := [7, 6, 5, 1, 0]) (lds' := [8]) rfl (by kernel_rfl) (by kernel_rfl) ?_
          refine wl_call rfl (c_factors st.im) rfl ?_
          rintro v16 w ⟨t, rfl⟩
          have st := st.pure t
          refine wl_nil ⟨rfl, ?_⟩
          refine fl_eff1 11 [7, 6, 5, 1, 0] [8] (by kernel_rfl) ⟨obl_ld rfl rfl rfl (v_load rfl (by first | exact st.reads 0 rfl TF.t128 (getV_state ..) | exact st.reads 1 rfl TF.t128 (getV_state ..) | exact st.reads 2 rfl TF.t128 (getV_state ..) | exact st.reads 3 rfl TF.t128 (getV_state ..))), trivial⟩ rfl ?_
          refine wl_alloc TF.z128 st rfl ?_
          intro b4 w st
          refine wl_nil ⟨rfl, ?_⟩
          refine FL.permB [11, 10, 9, 4, 3, 8, 7, 6, 5, 2, 1, 0] [7, 6, 5, 1, 0] [8] (by kernel_rfl) ?_
          exact fin _ _ _ _ _ rfl rfl rfl rfl rfl rfl rfl rfl rfl rfl (by first | exact st | exact st.perm p3_2 | exact st.perm p3_3 | exact st.perm p3_4 | exact st.perm p3_5 | exact st.perm p3_6)
        · refine stepE 11 (pure' := [7, 6, 5, 1, 0]) (lds' := [8]) rfl (by kernel_rfl) (by kernel_rfl) ?_
          refine wl_alloc TF.z128 st rfl ?_
          intro b4 w st
          refine wl_nil ⟨rfl, ?_⟩
          refine fl_eff1 4 [7, 6, 5, 1, 0] [8] (by kernel_rfl) ⟨obl_ld rfl rfl rfl (v_load rfl (by first | exact st.reads 0 rfl TF.t128 (getV_state ..) | exact st.reads 1 rfl TF.t128 (getV_state ..) | exact st.reads 2 rfl TF.t128 (getV_state ..) | exact st.reads 3 rfl TF.t128 (getV_state ..))), trivial⟩ rfl ?_
          refine wl_call rfl (c_factors st.im) rfl ?_
          rintro v16 w ⟨t, rfl⟩
          have st := st.pure t
          refine wl_nil ⟨rfl, ?_⟩
          refine FL.permB [11, 10, 9, 4, 3, 8, 7, 6, 5, 2, 1, 0] [7, 6, 5, 1, 0] [8] (by kernel_rfl) ?_
          exact fin _ _ _ _ _ rfl rfl rfl rfl rfl rfl rfl rfl rfl rfl (by first | exact st | exact st.perm p3_2 | exact st.perm p3_3 | exact st.perm p3_4 | exact st.perm p3_5 | exact st.perm p3_6)
      · refine stepE 11 (pure' := [7, 6, 5, 1, 0]) (lds' := [8]) rfl (by kernel_rfl) (by kernel_rfl) ?_
        refine wl_alloc TF.z128 st rfl ?_
        intro b4 w st
        refine wl_nil ⟨rfl, ?_⟩
        refine fl_effs [4, 9] (by kernel_rfl) ⟨obl_ld rfl rfl rfl (v_load rfl (by first | exact st.reads 0 rfl TF.t128 (getV_state ..) | exact st.reads 1 rfl TF.t128 (getV_state ..) | exact st.reads 2 rfl TF.t128 (getV_state ..) | exact st.reads 3 rfl TF.t128 (getV_state ..))), trivial⟩ (all2 ?_ ?_)
        · refine stepE 4 (pure' := [7, 6, 5, 1, 0]) (lds' := [8]) rfl (by kernel_rfl) (by kernel_rfl) ?_
          refine wl_call rfl (c_factors st.im) rfl ?_
          rintro v16 w ⟨t, rfl⟩
          have st := st.pure t
          refine wl_nil ⟨rfl, ?_⟩
          refine fl_eff1 9 [7, 6, 5, 1, 0] [8] (by kernel_rfl) ⟨obl_ld rfl rfl rfl (v_load rfl (by first | exact st.reads 0 rfl TF.t128 (getV_state ..) | exact st.reads 1 rfl TF.t128 (getV_state ..) | exact st.reads 2 rfl TF.t128 (getV_state ..) | exact st.reads 3 rfl TF.t128 (getV_state ..))), trivial⟩ rfl ?_
          refine wl_alloc TF.z138 st rfl ?_
          intro b2 w st
          refine wl_nil ⟨rfl, ?_⟩
          refine FL.permB [11, 10, 9, 4, 3, 8, 7, 6, 5, 2, 1, 0] [7, 6, 5, 1, 0] [8] (by kernel_rfl) ?_
          exact fin _ _ _ _ _ rfl rfl rfl rfl rfl rfl rfl rfl rfl rfl (by first | exact st | exact st.perm p3_2 | exact st.perm p3_3 | exact st.perm p3_4 | exact st.perm p3_5 | exact st.perm p3_6)
        · refine stepE 9 (pure' := [7, 6, 5, 1, 0]) (lds' := [8]) rfl (by kernel_rfl) (by kernel_rfl) ?_
          refine wl_alloc TF.z138 st rfl ?_
          intro b2 w st
          refine wl_nil ⟨rfl, ?_⟩
          refine fl_eff1 4 [7, 6, 5, 1, 0] [8] (by kernel_rfl) ⟨obl_ld rfl rfl rfl (v_load rfl (by first | exact st.reads 0 rfl TF.t128 (getV_state ..) | exact st.reads 1 rfl TF.t128 (getV_state ..) | exact st.reads 2 rfl TF.t128 (getV_state ..) | exact st.reads 3 rfl TF.t128 (getV_state ..))), trivial⟩ rfl ?_
          refine wl_call rfl (c_factors st.im) rfl ?_
          rintro v16 w ⟨t, rfl⟩
          have st := st.pure t
          refine wl_nil ⟨rfl, ?_⟩
          refine FL.permB [11, 10, 9, 4, 3, 8, 7, 6, 5, 2, 1, 0] [7, 6, 5, 1, 0] [8] (by kernel_rfl) ?_
          exact fin _ _ _ _ _ rfl rfl rfl rfl rfl rfl rfl rfl rfl rfl (by first | exact st | exact st.perm p3_2 | exact st.perm p3_3 | exact st.perm p3_4 | exact st.perm p3_5 | exact st.perm p3_6)
    · refine stepE 11 (pure' := [7, 6, 5, 1, 0]) (lds' := [8]) rfl (by kernel_rfl) (by kernel_rfl) ?_
      refine wl_alloc TF.z128 st rfl ?_
      intro b4 w st
      refine wl_nil ⟨rfl, ?_⟩
      refine fl_effs [4, 9, 10] (by kernel_rfl) ⟨obl_ld rfl rfl rfl (v_load rfl (by first | exact st.reads 0 rfl TF.t128 (getV_state ..) | exact st.reads 1 rfl TF.t128 (getV_state ..) | exact st.reads 2 rfl TF.t128 (getV_state ..) | exact st.reads 3 rfl TF.t128 (getV_state ..))), trivial⟩ (all3 ?_ ?_ ?_)
      · refine stepE 4 (pure' := [7, 6, 5, 1, 0]) (lds' := [8]) rfl (by kernel_rfl) (by kernel_rfl) ?_
        refine wl_call rfl (c_factors st.im) rfl ?_
        rintro v16 w ⟨t, rfl⟩
        have st := st.pure t
        refine wl_nil ⟨rfl, ?_⟩
        refine fl_effs [9, 10] (by kernel_rfl) ⟨obl_ld rfl rfl rfl (v_load rfl (by first | exact st.reads 0 rfl TF.t128 (getV_state ..) | exact st.reads 1 rfl TF.t128 (getV_state ..) | exact st.reads 2 rfl TF.t128 (getV_state ..) | exact st.reads 3 rfl TF.t128 (getV_state ..))), trivial⟩ (all2 ?_ ?_)
        · refine stepE 9 (pure' := [7, 6, 5, 1, 0]) (lds' := [8]) rfl (by kernel_rfl) (by kernel_rfl) ?_
          refine wl_alloc TF.z138 st rfl ?_
          intro b2 w st
          refine wl_nil ⟨rfl, ?_⟩
          refine fl_eff1 10 [7, 6, 5, 1, 0] [8] (by kernel_rfl) ⟨obl_ld rfl rfl rfl (v_load rfl (by first | exact st.reads 0 rfl TF.t128 (getV_state ..) | exact st.reads 1 rfl TF.t128 (getV_state ..) | exact st.reads 2 rfl TF.t128 (getV_state ..) | exact st.reads 3 rfl TF.t128 (getV_state ..))), trivial⟩ rfl ?_
          refine wl_alloc TF.z138 st rfl ?_
          intro b3 w st
          refine wl_nil ⟨rfl, ?_⟩
          refine FL.permB [11, 10, 9, 4, 3, 8, 7, 6, 5, 2, 1, 0] [7, 6, 5, 1, 0] [8] (by kernel_rfl) ?_
          exact fin _ _ _ _ _ rfl rfl rfl rfl rfl rfl rfl rfl rfl rfl (by first | exact st | exact st.perm p3_2 | exact st.perm p3_3 | exact st.perm p3_4 | exact st.perm p3_5 | exact st.perm p3_6)
        · refine stepE 10 (pure' := [7, 6, 5, 1, 0]) (lds' := [8]) rfl (by kernel_rfl) (by kernel_rfl) ?_
          refine wl_alloc TF.z138 st rfl ?_
          intro b3 w st
          refine wl_nil ⟨rfl, ?_⟩
          refine fl_eff1 9 [7, 6, 5, 1, 0] [8] (by kernel_rfl) ⟨obl_ld rfl rfl rfl (v_load rfl (by first | exact st.reads 0 rfl TF.t128 (getV_state ..) | exact st.reads 1 rfl TF.t128 (getV_state ..) | exact st.reads 2 rfl TF.t128 (getV_state ..) | exact st.reads 3 rfl TF.t128 (getV_state ..))), trivial⟩ rfl ?_
          refine wl_alloc TF.z138 st rfl ?_
          intro b2 w st
          refine wl_nil ⟨rfl, ?_⟩
          refine FL.permB [11, 10, 9, 4, 3, 8, 7, 6, 5, 2, 1, 0] [7, 6, 5, 1, 0] [8] (by kernel_rfl) ?_
          exact fin _ _ _ _ _ rfl rfl rfl rfl rfl rfl rfl rfl rfl rfl (by first | exact st | exact st.perm p3_2 | exact st.perm p3_3 | exact st.perm p3_4 | exact st.perm p3_5 | exact st.perm p3_6)
      · refine stepE 9 (pure' := [7, 6, 5, 1, 0]) (lds' := [8]) rfl (by kernel_rfl) (by kernel_rfl) ?_
        refine wl_alloc TF.z138 st rfl ?_
        intro b2 w st
        refine wl_nil ⟨rfl, ?_⟩
        refine fl_effs [4, 10] (by kernel_rfl) ⟨obl_ld rfl rfl rfl (v_load rfl (by first | exact st.reads 0 rfl TF.t128 (getV_state ..) | exact st.reads 1 rfl TF.t128 (getV_state ..) | exact st.reads 2 rfl TF.t128 (getV_state ..) | exact st.reads 3 rfl TF.t128 (getV_state ..))), trivial⟩ (all2 ?_ ?_)
        · refine stepE 4 (pure' := [7, 6, 5, 1, 0]) (lds' := [8]) rfl (by kernel_rfl) (by kernel_rfl) ?_
          refine wl_call rfl (c_factors st.im) rfl ?_
          rintro v16 w ⟨t, rfl⟩
          have st := st.pure t
          refine wl_nil ⟨rfl, ?_⟩
          refine fl_eff1 10 [7, 6, 5, 1, 0] [8] (by kernel_rfl) ⟨obl_ld rfl rfl rfl (v_load rfl (by first | exact st.reads 0 rfl TF.t128 (getV_state ..) | exact st.reads 1 rfl TF.t128 (getV_state ..) | exact st.reads 2 rfl TF.t128 (getV_state ..) | exact st.reads 3 rfl TF.t128 (getV_state ..))), trivial⟩ rfl ?_
          refine wl_alloc TF.z138 st rfl ?_
          intro b3 w st
          refine wl_nil ⟨rfl, ?_⟩
          refine FL.permB [11, 10, 9, 4, 3, 8, 7, 6, 5, 2, 1, 0] [7, 6, 5, 1, 0] [8] (by kernel_rfl) ?_
          exact fin _ _ _ _ _ rfl rfl rfl rfl rfl rfl rfl rfl rfl rfl (by first | exact st | exact st.perm p3_2 | exact st.perm p3_3 | exact st.perm p3_4 | exact st.perm p3_5 | exact st.perm p3_6)
        · refine stepE 10 (pure' := [7, 6, 5, 1, 0]) (lds' := [8]) rfl (by kernel_rfl) (by kernel_rfl) ?_
          refine wl_alloc TF.z138 st rfl ?_
          intro b3 w st
          refine wl_nil ⟨rfl, ?_⟩
          refine fl_eff1 4 [7, 6, 5, 1, 0] [8] (by kernel_rfl) ⟨obl_ld rfl rfl rfl (v_load rfl (by first | exact st.reads 0 rfl TF.t128 (getV_state ..) | exact st.reads 1 rfl TF.t128 (getV_state ..) | exact st.reads 2 rfl TF.t128 (getV_state ..) | exact st.reads 3 rfl TF.t128 (getV_state ..))), trivial⟩ rfl ?_
          refine wl_call rfl (c_factors st.im) rfl ?_
          rintro v16 w ⟨t, rfl⟩
          have st := st.pure t
          refine wl_nil ⟨rfl, ?_⟩
          refine FL.permB [11, 10, 9, 4, 3, 8, 7, 6, 5, 2, 1, 0] [7, 6, 5, 1, 0] [8] (by kernel_rfl) ?_
          exact fin _ _ _ _ _ rfl rfl rfl rfl rfl rfl rfl rfl rfl rfl (by first | exact st | exact st.perm p3_2 | exact st.perm p3_3 | exact st.perm p3_4 | exact st.perm p3_5 | exact st.perm p3_6)
      · refine stepE 10 (pure' := [7, 6, 5, 1, 0]) (lds' := [8]) rfl (by kernel_rfl) (by kernel_rfl) ?_
        refine wl_alloc TF.z138 st rfl ?_
        intro b3 w st
        refine wl_nil ⟨rfl, ?_⟩
        refine fl_effs [4, 9] (by kernel_rfl) ⟨obl_ld rfl rfl rfl (v_load rfl (by first | exact st.reads 0 rfl TF.t128 (getV_state ..) | exact st.reads 1 rfl TF.t128 (getV_state ..) | exact st.reads 2 rfl TF.t128 (getV_state ..) | exact st.reads 3 rfl TF.t128 (getV_state ..))), trivial⟩ (all2 ?_ ?_)
        · refine stepE 4 (pure' := [7, 6, 5, 1, 0]) (lds' := [8]) rfl (by kernel_rfl) (by kernel_rfl) ?_
          refine wl_call rfl (c_factors st.im) rfl ?_
          rintro v16 w ⟨t, rfl⟩
          have st := st.pure t
          refine wl_nil ⟨rfl, ?_⟩
          refine fl_eff1 9 [7, 6, 5, 1, 0] [8] (by kernel_rfl) ⟨obl_ld rfl rfl rfl (v_load rfl (by first | exact st.reads 0 rfl TF.t128 (getV_state ..) | exact st.reads 1 rfl TF.t128 (getV_state ..) | exact st.reads 2 rfl TF.t128 (getV_state ..) | exact st.reads 3 rfl TF.t128 (getV_state ..))), trivial⟩ rfl ?_
          refine wl_alloc TF.z138 st rfl ?_
          intro b2 w st
          refine wl_nil ⟨rfl, ?_⟩
          refine FL.permB [11, 10, 9, 4, 3, 8, 7, 6, 5, 2, 1, 0] [7, 6, 5, 1, 0] [8] (by kernel_rfl) ?_
          exact fin _ _ _ _ _ rfl rfl rfl rfl rfl rfl rfl rfl rfl rfl (by first | exact st | exact st.perm p3_2 | exact st.perm p3_3 | exact st.perm p3_4 | exact st.perm p3_5 | exact st.perm p3_6)
        · refine stepE 9 (pure' := [7, 6, 5, 1, 0]) (lds' := [8]) rfl (by kernel_rfl) (by kernel_rfl) ?_
          refine wl_alloc TF.z138 st rfl ?_
          intro b2 w st
          refine wl_nil ⟨rfl, ?_⟩
          refine fl_eff1 4 [7, 6, 5, 1, 0] [8] (by kernel_rfl) ⟨obl_ld rfl rfl rfl (v_load rfl (by first | exact st.reads 0 rfl TF.t128 (getV_state ..) | exact st.reads 1 rfl TF.t128 (getV_state ..) | exact st.reads 2 rfl TF.t128 (getV_state ..) | exact st.reads 3 rfl TF.t128 (getV_state ..))), trivial⟩ rfl ?_
          refine wl_call rfl (c_factors st.im) rfl ?_
          rintro v16 w ⟨t, rfl⟩
          have st := st.pure t
          refine wl_nil ⟨rfl, ?_⟩
          refine FL.permB [11, 10, 9, 4, 3, 8, 7, 6, 5, 2, 1, 0] [7, 6, 5, 1, 0] [8] (by kernel_rfl) ?_
          exact fin _ _ _ _ _ rfl rfl rfl rfl rfl rfl rfl rfl rfl rfl (by first | exact st | exact st.perm p3_2 | exact st.perm p3_3 | exact st.perm p3_4 | exact st.perm p3_5 | exact st.perm p3_6)
  · refine stepE 9 (pure' := [7, 6, 5, 2, 1, 0]) (lds' := [8]) rfl (by kernel_rfl) (by kernel_rfl) ?_
    refine wl_alloc TF.z138 st rfl ?_
    intro b2 w st
    refine wl_nil ⟨rfl, ?_⟩
    refine fl_effs [3, 10, 11] (by kernel_rfl) ⟨obl_ld rfl rfl rfl (v_load rfl (by first | exact st.reads 0 rfl TF.t128 (getV_state ..) | exact st.reads 1 rfl TF.t128 (getV_state ..) | exact st.reads 2 rfl TF.t128 (getV_state ..) | exact st.reads 3 rfl TF.t128 (getV_state ..))), trivial⟩ (all3 ?_ ?_ ?_)
    · refine stepE 3 (pure' := [7, 6, 5, 1, 0]) (lds' := [8]) rfl (by kernel_rfl) (by kernel_rfl) ?_
      refine wl_call rfl (by first | exact c_spreadS st 0 rfl hl | exact c_spreadS st 1 rfl hl | exact c_spreadS st 2 rfl hl | exact c_spreadS st 3 rfl hl) rfl ?_
      rintro v15 w ⟨t, rfl⟩
      have st := st.pure t
      refine wl_nil ⟨rfl, ?_⟩
      refine fl_effs [4, 10, 11] (by kernel_rfl) ⟨obl_ld rfl rfl rfl (v_load rfl (by first | exact st.reads 0 rfl TF.t128 (getV_state ..) | exact st.reads 1 rfl TF.t128 (getV_state ..) | exact st.reads 2 rfl TF.t128 (getV_state ..) | exact st.reads 3 rfl TF.t128 (getV_state ..))), trivial⟩ (all3 ?_ ?_ ?_)
      · refine stepE 4 (pure' := [7, 6, 5, 1, 0]) (lds' := [8]) rfl (by kernel_rfl) (by kernel_rfl) ?_
        refine wl_call rfl (c_factors st.im) rfl ?_
        rintro v16 w ⟨t, rfl⟩
        have st := st.pure t
        refine wl_nil ⟨rfl, ?_⟩
        refine fl_effs [10, 11] (by kernel_rfl) ⟨obl_ld rfl rfl rfl (v_load rfl (by first | exact st.reads 0 rfl TF.t128 (getV_state ..) | exact st.reads 1 rfl TF.t128 (getV_state ..) | exact st.reads 2 rfl TF.t128 (getV_state ..) | exact st.reads 3 rfl TF.t128 (getV_state ..))), trivial⟩ (all2 ?_ ?_)
        · refine stepE 10 (pure' := [7, 6, 5, 1, 0]) (lds' := [8]) rfl (by kernel_rfl) (by kernel_rfl) ?_
          refine wl_alloc TF.z138 st rfl ?_
          intro b3 w st
          refine wl_nil ⟨rfl, ?_⟩
          refine fl_eff1 11 [7, 6, 5, 1, 0] [8] (by kernel_rfl) ⟨obl_ld rfl rfl rfl (v_load rfl (by first | exact st.reads 0 rfl TF.t128 (getV_state ..) | exact st.reads 1 rfl TF.t128 (getV_state ..) | exact st.reads 2 rfl TF.t128 (getV_state ..) | exact st.reads 3 rfl TF.t128 (getV_state ..))), trivial⟩ rfl ?_
          refine wl_alloc TF.z128 st rfl ?_
          intro b4 w st
          refine wl_nil ⟨rfl, ?_⟩
          refine FL.permB [11, 10, 9, 4, 3, 8, 7, 6, 5, 2, 1, 0] [7, 6, 5, 1, 0] [8] (by kernel_rfl) ?_
          exact fin _ _ _ _ _ rfl rfl rfl rfl rfl rfl rfl rfl rfl rfl (by first | exact st | exact st.perm p3_2 | exact st.perm p3_3 | exact st.perm p3_4 | exact st.perm p3_5 | exact st.perm p3_6)
        · refine stepE 11 (pure' := [7, 6, 5, 1, 0]) (lds' := [8]) rfl (by kernel_rfl) (by kernel_rfl) ?_
          refine wl_alloc TF.z128 st rfl ?_
          intro b4 w st
          refine wl_nil ⟨rfl, ?_⟩
          refine fl_eff1 10 [7, 6, 5, 1, 0] [8] (by kernel_rfl) ⟨obl_ld rfl rfl rfl (v_load rfl (by first | exact st.reads 0 rfl TF.t128 (getV_state ..) | exact st.reads 1 rfl TF.t128 (getV_state ..) | exact st.reads 2 rfl TF.t128 (getV_state ..) | exact st.reads 3 rfl TF.t128 (getV_state ..))), trivial⟩ rfl ?_
          refine wl_alloc TF.z138 st rfl ?_
          intro b3 w st
          refine wl_nil ⟨rfl, ?_⟩
          refine FL.permB [11, 10, 9, 4, 3, 8, 7, 6, 5, 2, 1, 0] [7, 6, 5, 1, 0] [8] (by kernel_rfl) ?_
          exact fin _ _ _ _ _ rfl rfl rfl rfl rfl rfl rfl rfl rfl rfl (by first | exact st | exact st.perm p3_2 | exact st.perm p3_3 | exact st.perm p3_4 | exact st.perm p3_5 | exact st.perm p3_6)
      · refine stepE 10 (pure' := [7, 6, 5, 1, 0]) (lds' := [8]) rfl (by kernel_rfl) (by kernel_rfl) ?_
        refine wl_alloc TF.z138 st rfl ?_
        intro b3 w st
        refine wl_nil ⟨rfl, ?_⟩
        refine fl_effs [4, 11] (by kernel_rfl) ⟨obl_ld rfl rfl rfl (v_load rfl (by first | exact st.reads 0 rfl TF.t128 (getV_state ..) | exact st.reads 1 rfl TF.t128 (getV_state ..) | exact st.reads 2 rfl TF.t128 (getV_state ..) | exact st.reads 3 rfl TF.t128 (getV_state ..))), trivial⟩ (all2 ?_ ?_)
        · refine stepE 4 (pure' := [7, 6, 5, 1, 0]) (lds' := [8]) rfl (by kernel_rfl) (by kernel_rfl) ?_
          refine wl_call rfl (c_factors st.im) rfl ?_
          rintro v16 w ⟨t, rfl⟩
          have st := st.pure t
          refine wl_nil ⟨rfl, ?_⟩
          refine fl_eff1 11 [7, 6, 5, 1, 0] [8] (by kernel_rfl) ⟨obl_ld rfl rfl rfl (v_load rfl (by first | exact st.reads 0 rfl TF.t128 (getV_state ..) | exact st.reads 1 rfl TF.t128 (getV_state ..) | exact st.reads 2 rfl TF.t128 (getV_state ..) | exact st.reads 3 rfl TF.t128 (getV_state ..))), trivial⟩ rfl ?_
          refine wl_alloc TF.z128 st rfl ?_
          intro b4 w st
          refine wl_nil ⟨rfl, ?_⟩
          refine FL.permB [11, 10, 9, 4, 3, 8, 7, 6, 5, 2, 1, 0] [7, 6, 5, 1, 0] [8] (by kernel_rfl) ?_
          exact fin _ _ _ _ _ rfl rfl rfl rfl rfl rfl rfl rfl rfl rfl (by first | exact st | exact st.perm p3_2 | exact st.perm p3_3 | exact st.perm p3_4 | exact st.perm p3_5 | exact st.perm p3_6)
        · refine stepE 11 (pure' := [7, 6, 5, 1, 0]) (lds' := [8]) rfl (by kernel_rfl) (by kernel_rfl) ?_
          refine wl_alloc TF.z128 st rfl ?_
          intro b4 w st
          refine wl_nil ⟨rfl, ?_⟩
          refine fl_eff1 4 [7, 6, 5, 1, 0] [8] (by kernel_rfl) ⟨obl_ld rfl rfl rfl (v_load rfl (by first | exact st.reads 0 rfl TF.t128 (getV_state ..) | exact st.reads 1 rfl TF.t128 (getV_state ..) | exact st.reads 2 rfl TF.t128 (getV_state ..) | exact st.reads 3 rfl TF.t128 (getV_state ..))), trivial⟩ rfl ?_
          refine wl_call rfl (c_factors st.im) rfl ?_
          rintro v16 w ⟨t, rfl⟩
          have st := st.pure t
          refine wl_nil ⟨rfl, ?_⟩
          refine FL.permB [11, 10, 9, 4, 3, 8, 7, 6, 5, 2, 1, 0] [7, 6, 5, 1, 0] [8] (by kernel_rfl) ?_
          exact fin _ _ _ _ _ rfl rfl rfl rfl rfl rfl rfl rfl rfl rfl (by first | exact st | exact st.perm p3_2 | exact st.perm p3_3 | exact st.perm p3_4 | exact st.perm p3_5 | exact st.perm p3_6)
      · refine stepE 11 (pure' := [7, 6, 5, 1, 0]) (lds' := [8]) rfl (by kernel_rfl) (by kernel_rfl) ?_
        refine wl_alloc TF.z128 st rfl ?_
        intro b4 w st
        refine wl_nil ⟨rfl, ?_⟩
        refine fl_effs [4, 10] (by kernel_rfl) ⟨obl_ld rfl rfl rfl (v_load rfl (by first | exact st.reads 0 rfl TF.t128 (getV_state ..) | exact st.reads 1 rfl TF.t128 (getV_state ..) | exact st.reads 2 rfl TF.t128 (getV_state ..) | exact st.reads 3 rfl TF.t128 (getV_state ..))), trivial⟩ (all2 ?_ ?_)
        · refine stepE 4 (pure' := [7, 6, 5, 1, 0]) (lds' := [8]) rfl (by kernel_rfl) (by kernel_rfl) ?_
          refine wl_call rfl (c_factors st.im) rfl ?_
          rintro v16 w ⟨t, rfl⟩
          have st := st.pure t
          refine wl_nil ⟨rfl, ?_⟩
          refine fl_eff1 10 [7, 6, 5, 1, 0] [8] (by kernel_rfl) ⟨obl_ld rfl rfl rfl (v_load rfl (by first | exact st.reads 0 rfl TF.t128 (getV_state ..) | exact st.reads 1 rfl TF.t128 (getV_state ..) | exact st.reads 2 rfl TF.t128 (getV_state ..) | exact st.reads 3 rfl TF.t128 (getV_state ..))), trivial⟩ rfl ?_
          refine wl_alloc TF.z138 st rfl ?_
          intro b3 w st
          refine wl_nil ⟨rfl, ?_⟩
          refine FL.permB [11, 10, 9, 4, 3, 8, 7, 6, 5, 2, 1, 0] [7, 6, 5, 1, 0] [8] (by kernel_rfl) ?_
          exact fin _ _ _ _ _ rfl rfl rfl rfl rfl rfl rfl rfl rfl rfl (by first | exact st | exact st.perm p3_2 | exact st.perm p3_3 | exact st.perm p3_4 | exact st.perm p3_5 | exact st.perm p3_6)
        · refine stepE 10 (pure' := [7, 6, 5, 1, 0]) (lds' := [8]) rfl (by kernel_rfl) (by kernel_rfl) ?_
          refine wl_alloc TF.z138 st rfl ?_
          intro b3 w st
          refine wl_nil ⟨rfl, ?_⟩
          refine fl_eff1 4 [7, 6, 5, 1, 0] [8] (by kernel_rfl) ⟨obl_ld rfl rfl rfl (v_load rfl (by first | exact st.reads 0 rfl TF.t128 (getV_state ..) | exact st.reads 1 rfl TF.t128 (getV_state ..) | exact st.reads 2 rfl TF.t128 (getV_state ..) | exact st.reads 3 rfl TF.t128 (getV_state ..))), trivial⟩ rfl ?_
          refine wl_call rfl (c_factors st.im) rfl ?_
          rintro v16 w ⟨t, rfl⟩
          have st := st.pure t
          refine wl_nil ⟨rfl, ?_⟩
          refine FL.permB [11, 10, 9, 4, 3, 8, 7, 6, 5, 2, 1, 0] [7, 6, 5, 1, 0] [8] (by kernel_rfl) ?_
          exact fin _ _ _ _ _ rfl rfl rfl rfl rfl rfl rfl rfl rfl rfl (by first | exact st | exact st.perm p3_2 | exact st.perm p3_3 | exact st.perm p3_4 | exact st.perm p3_5 | exact st.perm p3_6)
    · refine stepE 10 (pure' := [7, 6, 5, 2, 1, 0]) (lds' := [8]) rfl (by kernel_rfl) (by kernel_rfl) ?_
      refine wl_alloc TF.z138 st rfl ?_
      intro b3 w st
      refine wl_nil ⟨rfl, ?_⟩
      refine fl_effs [3, 11] (by kernel_rfl) ⟨obl_ld rfl rfl rfl (v_load rfl (by first | exact st.reads 0 rfl TF.t128 (getV_state ..) | exact st.reads 1 rfl TF.t128 (getV_state ..) | exact st.reads 2 rfl TF.t128 (getV_state ..) | exact st.reads 3 rfl TF.t128 (getV_state ..))), trivial⟩ (all2 ?_ ?_)
      · refine stepE 3 (pure' := [7, 6, 5, 1, 0]) (lds' := [8]) rfl (by kernel_rfl) (by kernel_rfl) ?_
        refine wl_call rfl (by first | exact c_spreadS st 0 rfl hl | exact c_spreadS st 1 rfl hl | exact c_spreadS st 2 rfl hl | exact c_spreadS st 3 rfl hl) rfl ?_
        rintro v15 w ⟨t, rfl⟩
        have st := st.pure t
        refine wl_nil ⟨rfl, ?_⟩
        refine fl_effs [4, 11] (by kernel_rfl) ⟨obl_ld rfl rfl rfl (v_load rfl (by first | exact st.reads 0 rfl TF.t128 (getV_state ..) | exact st.reads 1 rfl TF.t128 (getV_state ..) | exact st.reads 2 rfl TF.t128 (getV_state ..) | exact st.reads 3 rfl TF.t128 (getV_state ..))), trivial⟩ (all2 ?_ ?_)
        · refine stepE 4 (pure' := [7, 6, 5, 1, 0]) (lds' := [8]) rfl (by kernel_rfl) (by kernel_rfl) ?_
          refine wl_call rfl (c_factors st.im) rfl ?_
          rintro v16 w ⟨t, rfl⟩
          have st := st.pure t
          refine wl_nil ⟨rfl, ?_⟩
          refine fl_eff1 11 [7, 6, 5, 1, 0] [8] (by kernel_rfl) ⟨obl_ld rfl rfl rfl (v_load rfl (by first | exact st.reads 0 rfl TF.t128 (getV_state ..) | exact st.reads 1 rfl TF.t128 (getV_state ..) | exact st.reads 2 rfl TF.t128 (getV_state ..) | exact st.reads 3 rfl TF.t128 (getV_state ..))), trivial⟩ rfl ?_
          refine wl_alloc TF.z128 st rfl ?_
          intro b4 w st
          refine wl_nil ⟨rfl, ?_⟩
          refine FL.permB [11, 10, 9, 4, 3, 8, 7, 6, 5, 2, 1, 0] [7, 6, 5, 1, 0] [8] (by kernel_rfl) ?_
          exact fin _ _ _ _ _ rfl rfl rfl rfl rfl rfl rfl rfl rfl rfl (by first | exact st | exact st.perm p3_2 | exact st.perm p3_3 | exact st.perm p3_4 | exact st.perm p3_5 | exact st.perm p3_6)
        · refine stepE 11 (pure' := [7, 6, 5, 1, 0]) (lds' := [8]) rfl (by kernel_rfl) (by kernel_rfl) ?_
          refine wl_alloc TF.z128 st rfl ?_
          intro b4 w st
          refine wl_nil ⟨rfl, ?_⟩
          refine fl_eff1 4 [7, 6, 5, 1, 0] [8] (by kernel_rfl) ⟨obl_ld rfl rfl rfl (v_load rfl (by first | exact st.reads 0 rfl TF.t128 (getV_state ..) | exact st.reads 1 rfl TF.t128 (getV_state ..) | exact st.reads 2 rfl TF.t128 (getV_state ..) | exact st.reads 3 rfl TF.t128 (getV_state ..))), trivial⟩ rfl ?_
          refine wl_call rfl (c_factors st.im) rfl ?_
          rintro v16 w ⟨t, rfl⟩
          have st := st.pure t
          refine wl_nil ⟨rfl, ?_⟩
          refine FL.permB [11, 10, 9, 4, 3, 8, 7, 6, 5, 2, 1, 0] [7, 6, 5, 1, 0] [8] (by kernel_rfl) ?_
          exact fin _ _ _ _ _ rfl rfl rfl rfl rfl rfl rfl rfl rfl rfl (by first | exact st | exact st.perm p3_2 | exact st.perm p3_3 | exact st.perm p3_4 | exact st.perm p3_5 | exact st.perm p3_6)
      · refine stepE 11 (pure' := [7, 6, 5, 2, 1, 0]) (lds' := [8]) rfl (by kernel_rfl) (by kernel_rfl) ?_
        refine wl_alloc TF.z128 st rfl ?_
        intro b4 w st
        refine wl_nil ⟨rfl, ?_⟩
        refine fl_eff1 3 [7, 6, 5, 1, 0] [8] (by kernel_rfl) ⟨obl_ld rfl rfl rfl (v_load rfl (by first | exact st.reads 0 rfl TF.t128 (getV_state ..) | exact st.reads 1 rfl TF.t128 (getV_state ..) | exact st.reads 2 rfl TF.t128 (getV_state ..) | exact st.reads 3 rfl TF.t128 (getV_state ..))), trivial⟩ rfl ?_
        refine wl_call rfl (by first | exact c_spreadS st 0 rfl hl | exact c_spreadS st 1 rfl hl | exact c_spreadS st 2 rfl hl | exact c_spreadS st 3 rfl hl) rfl ?_
        rintro v15 w ⟨t, rfl⟩
        have st := st.pure t
        refine wl_nil ⟨rfl, ?_⟩
        refine fl_eff1 4 [7, 6, 5, 1, 0] [8] (by kernel_rfl) ⟨obl_ld rfl rfl rfl (v_load rfl (by first | exact st.reads 0 rfl TF.t128 (getV_state ..) | exact st.reads 1 rfl TF.t128 (getV_state ..) | exact st.reads 2 rfl TF.t128 (getV_state ..) | exact st.reads 3 rfl TF.t128 (getV_state ..))), trivial⟩ rfl ?_
        refine wl_call rfl (c_factors st.im) rfl ?_
        rintro v16 w ⟨t, rfl⟩
        have st := st.pure t
        refine wl_nil ⟨rfl, ?_⟩
        refine FL.permB [11, 10, 9, 4, 3, 8, 7, 6, 5, 2, 1, 0] [7, 6, 5, 1, 0] [8] (by kernel_rfl) ?_
        exact fin _ _ _ _ _ rfl rfl rfl rfl rfl rfl rfl rfl rfl rfl (by first | exact st | exact st.perm p3_2 | exact st.perm p3_3 | exact st.perm p3_4 | exact st.perm p3_5 | exact st.perm p3_6)
    · refine stepE 11 (pure' := [7, 6, 5, 2, 1, 0]) (lds' := [8]) rfl (by kernel_rfl) (by kernel_rfl) ?_
      refine wl_alloc TF.z128 st rfl ?_
      intro b4 w st
      refine wl_nil ⟨rfl, ?_⟩
      refine fl_effs [3, 10] (by kernel_rfl) ⟨obl_ld rfl rfl rfl (v_load rfl (by first | exact st.reads 0 rfl TF.t128 (getV_state ..) | exact st.reads 1 rfl TF.t128 (getV_state ..) | exact st.reads 2 rfl TF.t128 (getV_state ..) | exact st.reads 3 rfl TF.t128 (getV_state ..))), trivial⟩ (all2 ?_ ?_)
      · refine stepE 3 (pure' := [7, 6, 5, 1, 0]) (lds' := [8]) rfl (by kernel_rfl) (by kernel_rfl) ?_
        refine wl_call rfl (by first | exact c_spreadS st 0 rfl hl | exact c_spreadS st 1 rfl hl | exact c_spreadS st 2 rfl hl | exact c_spreadS st 3 rfl hl) rfl ?_
        rintro v15 w ⟨t, rfl⟩
        have st := st.pure t
        refine wl_nil ⟨rfl, ?_⟩
        refine fl_effs [4, 10] (by kernel_rfl) ⟨obl_ld rfl rfl rfl (v_load rfl (by first | exact st.reads 0 rfl TF.t128 (getV_state ..) | exact st.reads 1 rfl TF.t128 (getV_state ..) | exact st.reads 2 rfl TF.t128 (getV_state ..) | exact st.reads 3 rfl TF.t128 (getV_state ..))), trivial⟩ (all2 ?_ ?_)
        · refine stepE 4 (pure' := [7, 6, 5, 1, 0]) (lds' := [8]) rfl (by kernel_rfl) (by kernel_rfl) ?_
          refine wl_call rfl (c_factors st.im) rfl ?_
          rintro v16 w ⟨t, rfl⟩
          have st := st.pure t
          refine wl_nil ⟨rfl, ?_⟩
          refine fl_eff1 10 [7, 6, 5, 1, 0] [8] (by kernel_rfl) ⟨obl_ld rfl rfl rfl (v_load rfl (by first | exact st.reads 0 rfl TF.t128 (getV_state ..) | exact st.reads 1 rfl TF.t128 (getV_state ..) | exact st.reads 2 rfl TF.t128 (getV_state ..) | exact st.reads 3 rfl TF.t128 (getV_state ..))), trivial⟩ rfl ?_
          refine wl_alloc TF.z138 st rfl ?_
          intro b3 w st
          refine wl_nil ⟨rfl, ?_⟩
          refine FL.permB [11, 10, 9, 4, 3, 8, 7, 6, 5, 2, 1, 0] [7, 6, 5, 1, 0] [8] (by kernel_rfl) ?_
          exact fin _ _ _ _ _ rfl rfl rfl rfl rfl rfl rfl rfl rfl rfl (by first | exact st | exact st.perm p3_2 | exact st.perm p3_3 | exact st.perm p3_4 | exact st.perm p3_5 | exact st.perm p3_6)
        · refine stepE 10 (pure' := [7, 6, 5, 1, 0]) (lds' := [8]) rfl (by kernel_rfl) (by kernel_rfl) ?_
          refine wl_alloc TF.z138 st rfl ?_
          intro b3 w st
          refine wl_nil ⟨rfl, ?_⟩
          refine fl_eff1 4 [7, 6, 5, 1, 0] [8] (by kernel_rfl) ⟨obl_ld rfl rfl rfl (v_load rfl (by first | exact st.reads 0 rfl TF.t128 (getV_state ..) | exact st.reads 1 rfl TF.t128 (getV_state ..) | exact st.reads 2 rfl TF.t128 (getV_state ..) | exact st.reads 3 rfl TF.t128 (getV_state ..))), trivial⟩ rfl ?_
          refine wl_call rfl (c_factors st.im) rfl ?_
          rintro v16 w ⟨t, rfl⟩
          have st := st.pure t
          refine wl_nil ⟨rfl, ?_⟩
          refine FL.permB [11, 10, 9, 4, 3, 8, 7, 6, 5, 2, 1, 0] [7, 6, 5, 1, 0] [8] (by kernel_rfl) ?_
          exact fin _ _ _ _ _ rfl rfl rfl rfl rfl rfl rfl rfl rfl rfl (by first | exact st | exact st.perm p3_2 | exact st.perm p3_3 | exact st.perm p3_4 | exact st.perm p3_5 | exact st.perm p3_6)
      · refine stepE 10 (pure' := [7, 6, 5, 2, 1, 0]) (lds' := [8]) rfl (by kernel_rfl) (by kernel_rfl) ?_
        refine wl_alloc TF.z138 st rfl ?_
        intro b3 w st
        refine wl_nil ⟨rfl, ?_⟩
        refine fl_eff1 3 [7, 6, 5, 1, 0] [8] (by kernel_rfl) ⟨obl_ld rfl rfl rfl (v_load rfl (by first | exact st.reads 0 rfl TF.t128 (getV_state ..) | exact st.reads 1 rfl TF.t128 (getV_state ..) | exact st.reads 2 rfl TF.t128 (getV_state ..) | exact st.reads 3 rfl TF.t128 (getV_state ..))), trivial⟩ rfl ?_
        refine wl_call rfl (by first | exact c_spreadS st 0 rfl hl | exact c_spreadS st 1 rfl hl | exact c_spreadS st 2 rfl hl | exact c_spreadS st 3 rfl hl) rfl ?_
        rintro v15 w ⟨t, rfl⟩
        have st := st.pure t
        refine wl_nil ⟨rfl, ?_⟩
        refine fl_eff1 4 [7, 6, 5, 1, 0] [8] (by kernel_rfl) ⟨obl_ld rfl rfl rfl (v_load rfl (by first | exact st.reads 0 rfl TF.t128 (getV_state ..) | exact st.reads 1 rfl TF.t128 (getV_state ..) | exact st.reads 2 rfl TF.t128 (getV_state ..) | exact st.reads 3 rfl TF.t128 (getV_state ..))), trivial⟩ rfl ?_
        refine wl_call rfl (c_factors st.im) rfl ?_
        rintro v16 w ⟨t, rfl⟩
        have st := st.pure t
        refine wl_nil ⟨rfl, ?_⟩
        refine FL.permB [11, 10, 9, 4, 3, 8, 7, 6, 5, 2, 1, 0] [7, 6, 5, 1, 0] [8] (by kernel_rfl) ?_
        exact fin _ _ _ _ _ rfl rfl rfl rfl rfl rfl rfl rfl rfl rfl (by first | exact st | exact st.perm p3_2 | exact st.perm p3_3 | exact st.perm p3_4 | exact st.perm p3_5 | exact st.perm p3_6)
  · refine stepE 10 (pure' := [7, 6, 5, 2, 1, 0]) (lds' := [8]) rfl (by kernel_rfl) (by kernel_rfl) ?_
    refine wl_alloc TF.z138 st rfl ?_
    intro b3 w st
    refine wl_nil ⟨rfl, ?_⟩
    refine fl_effs [3, 9, 11] (by kernel_rfl) ⟨obl_ld rfl rfl rfl (v_load rfl (by first | exact st.reads 0 rfl TF.t128 (getV_state ..) | exact st.reads 1 rfl TF.t128 (getV_state ..) | exact st.reads 2 rfl TF.t128 (getV_state ..) | exact st.reads 3 rfl TF.t128 (getV_state ..))), trivial⟩ (all3 ?_ ?_ ?_)
    · refine stepE 3 (pure' := [7, 6, 5, 1, 0]) (lds' := [8]) rfl (by kernel_rfl) (by kernel_rfl) ?_
      refine wl_call rfl (by first | exact c_spreadS st 0 rfl hl | exact c_spreadS st 1 rfl hl | exact c_spreadS st 2 rfl hl | exact c_spreadS st 3 rfl hl) rfl ?_
      rintro v15 w ⟨t, rfl⟩
      have st := st.pure t
      refine wl_nil ⟨rfl, ?_⟩
      refine fl_effs [4, 9, 11] (by kernel_rfl) ⟨obl_ld rfl rfl rfl (v_load rfl (by first | exact st.reads 0 rfl TF.t128 (getV_state ..) | exact st.reads 1 rfl TF.t128 (getV_state ..) | exact st.reads 2 rfl TF.t128 (getV_state ..) | exact st.reads 3 rfl TF.t128 (getV_state ..))), trivial⟩ (all3 ?_ ?_ ?_)
      · refine stepE 4 (pure' := [7, 6, 5, 1, 0]) (lds' := [8]) rfl (by kernel_rfl) (by kernel_rfl) ?_
        refine wl_call rfl (c_factors st.im) rfl ?_
        rintro v16 w ⟨t, rfl⟩
        have st := st.pure t
        refine wl_nil ⟨rfl, ?_⟩
        refine fl_effs [9, 11] (by kernel_rfl) ⟨obl_ld rfl rfl rfl (v_load rfl (by first | exact st.reads 0 rfl TF.t128 (getV_state ..) | exact st.reads 1 rfl TF.t128 (getV_state ..) | exact st.reads 2 rfl TF.t128 (getV_state ..) | exact st.reads 3 rfl TF.t128 (getV_state ..))), trivial⟩ (all2 ?_ ?_)
        · refine stepE 9 (pure' := [7, 6, 5, 1, 0]) (lds' := [8]) rfl (by kernel_rfl) (by kernel_rfl) ?_
          refine wl_alloc TF.z138 st rfl ?_
          intro b2 w st
          refine wl_nil ⟨rfl, ?_⟩
          refine fl_eff1 11 [7, 6, 5, 1, 0] [8] (by kernel_rfl) ⟨obl_ld rfl rfl rfl (v_load rfl (by first | exact st.reads 0 rfl TF.t128 (getV_state ..) | exact st.reads 1 rfl TF.t128 (getV_state ..) | exact st.reads 2 rfl TF.t128 (getV_state ..) | exact st.reads 3 rfl TF.t128 (getV_state ..))), trivial⟩ rfl ?_
          refine wl_alloc TF.z128 st rfl ?_
          intro b4 w st
          refine wl_nil ⟨rfl, ?_⟩
          refine FL.permB [11, 10, 9, 4, 3, 8, 7, 6, 5, 2, 1, 0] [7, 6, 5, 1, 0] [8] (by kernel_rfl) ?_
          exact fin _ _ _ _ _ rfl rfl rfl rfl rfl rfl rfl rfl rfl rfl (by first | exact st | exact st.perm p3_2 | exact st.perm p3_3 | exact st.perm p3_4 | exact st.perm p3_5 | exact st.perm p3_6)
        · refine stepE 11 (pure' := [7, 6, 5, 1, 0]) (lds' := [8]) rfl (by kernel_rfl) (by kernel_rfl) ?_
          refine wl_alloc TF.z128 st rfl ?_
          intro b4 w st
          refine wl_nil ⟨rfl, ?_⟩
          refine fl_eff1 9 [7, 6, 5, 1, 0] [8] (by kernel_rfl) ⟨obl_ld rfl rfl rfl (v_load rfl (by first | exact st.reads 0 rfl TF.t128 (getV_state ..) | exact st.reads 1 rfl TF.t128 (getV_state ..) | exact st.reads 2 rfl TF.t128 (getV_state ..) | exact st.reads 3 rfl TF.t128 (getV_state ..))), trivial⟩ rfl ?_
          refine wl_alloc TF.z138 st rfl ?_
          intro b2 w st
          refine wl_nil ⟨rfl, ?_⟩
          refine FL.permB [11, 10, 9, 4, 3, 8, 7, 6, 5, 2, 1, 0] [7, 6, 5, 1, 0] [8] (by kernel_rfl) ?_
          exact fin _ _ _ _ _ rfl rfl rfl rfl rfl rfl rfl rfl rfl rfl (by first | exact st | exact st.perm p3_2 | exact st.perm p3_3 | exact st.perm p3_4 | exact st.perm p3_5 | exact st.perm p3_6)
      · refine stepE 9 (pure' := [7, 6, 5, 1, 0]) (lds' := [8]) rfl (by kernel_rfl) (by kernel_rfl) ?_
        refine wl_alloc TF.z138 st rfl ?_
        intro b2 w st
        refine wl_nil ⟨rfl, ?_⟩
        refine fl_effs [4, 11] (by kernel_rfl) ⟨obl_ld rfl rfl rfl (v_load rfl (by first | exact st.reads 0 rfl TF.t128 (getV_state ..) | exact st.reads 1 rfl TF.t128 (getV_state ..) | exact st.reads 2 rfl TF.t128 (getV_state ..) | exact st.reads 3 rfl TF.t128 (getV_state ..))), trivial⟩ (all2 ?_ ?_)
        · refine stepE 4 (pure' := [7, 6, 5, 1, 0]) (lds' := [8]) rfl (by kernel_rfl) (by kernel_rfl) ?_
          refine wl_call rfl (c_factors st.im) rfl ?_
          rintro v16 w ⟨t, rfl⟩
          have st := st.pure t
          refine wl_nil ⟨rfl, ?_⟩
          refine fl_eff1 11 [7, 6, 5, 1, 0] [8] (by kernel_rfl) ⟨obl_ld rfl rfl rfl (v_load rfl (by first | exact st.reads 0 rfl TF.t128 (getV_state ..) | exact st.reads 1 rfl TF.t128 (getV_state ..) | exact st.reads 2 rfl TF.t128 (getV_state ..) | exact st.reads 3 rfl TF.t128 (getV_state ..))), trivial⟩ rfl ?_
          refine wl_alloc TF.z128 st rfl ?_
          intro b4 w st
          refine wl_nil ⟨rfl, ?_⟩
          refine FL.permB [11, 10, 9, 4, 3, 8, 7, 6, 5, 2, 1, 0] [7, 6, 5, 1, 0] [8] (by kernel_rfl) ?_
          exact fin _ _ _ _ _ rfl rfl rfl rfl rfl rfl rfl rfl rfl rfl (by first | exact st | exact st.perm p3_2 | exact st.perm p3_3 | exact st.perm p3_4 | exact st.perm p3_5 | exact st.perm p3_6)
        · refine stepE 11 (pure' := [7, 6, 5, 1, 0]) (lds' := [8]) rfl (by kernel_rfl) (by kernel_rfl) ?_
          refine wl_alloc TF.z128 st rfl ?_
          intro b4 w st
          refine wl_nil ⟨rfl, ?_⟩
          refine fl_eff1 4 [7, 6, 5, 1, 0] [8] (by kernel_rfl) ⟨obl_ld rfl rfl rfl (v_load rfl (by first | exact st.reads 0 rfl TF.t128 (getV_state ..) | exact st.reads 1 rfl TF.t128 (getV_state ..) | exact st.reads 2 rfl TF.t128 (getV_state ..) | exact st.reads 3 rfl TF.t128 (getV_state ..))), trivial⟩ rfl ?_
          refine wl_call rfl (c_factors st.im) rfl ?_
          rintro v16 w ⟨t, rfl⟩
          have st := st.pure t
          refine wl_nil ⟨rfl, ?_⟩
          refine FL.permB [11, 10, 9, 4, 3, 8, 7, 6, 5, 2, 1, 0] [7, 6, 5, 1, 0] [8] (by kernel_rfl) ?_
          exact fin _ _ _ _ _ rfl rfl rfl rfl rfl rfl rfl rfl rfl rfl (by first | exact st | exact st.perm p3_2 | exact st.perm p3_3 | exact st.perm p3_4 | exact st.perm p3_5 | exact st.perm p3_6)
      · refine stepE 11 (pure' := [7, 6, 5, 1, 0]) (lds' := [8]) rfl (by kernel_rfl) (by kernel_rfl) ?_
        refine wl_alloc TF.z128 st rfl ?_
        intro b4 w st
        refine wl_nil ⟨rfl, ?_⟩
        refine fl_effs [4, 9] (by kernel_rfl) ⟨obl_ld rfl rfl rfl (v_load rfl (by first | exact st.reads 0 rfl TF.t128 (getV_state ..) | exact st.reads 1 rfl TF.t128 (getV_state ..) | exact st.reads 2 rfl TF.t128 (getV_state ..) | exact st.reads 3 rfl TF.t128 (getV_state ..))), trivial⟩ (all2 ?_ ?_)
        · refine stepE 4 (pure' := [7, 6, 5, 1, 0]) (lds' := [8]) rfl (by kernel_rfl) (by kernel_rfl) ?_
          refine wl_call rfl (c_factors st.im) rfl ?_
          rintro v16 w ⟨t, rfl⟩
          have st := st.pure t
          refine wl_nil ⟨rfl, ?_⟩
          refine fl_eff1 9 [7, 6, 5, 1, 0] [8] (by kernel_rfl) ⟨obl_ld rfl rfl rfl (v_load rfl (by first | exact st.reads 0 rfl TF.t128 (getV_state ..) | exact st.reads 1 rfl TF.t128 (getV_state ..) | exact st.reads 2 rfl TF.t128 (getV_state ..) | exact st.reads 3 rfl TF.t128 (getV_state ..))), trivial⟩ rfl ?_
          refine wl_alloc TF.z138 st rfl ?_
          intro b2 w st
          refine wl_nil ⟨rfl, ?_⟩
          refine FL.permB [11, 10, 9, 4, 3, 8, 7, 6, 5, 2, 1, 0] [7, 6, 5, 1, 0] [8] (by kernel_rfl) ?_
          exact fin _ _ _ _ _ rfl rfl rfl rfl rfl rfl rfl rfl rfl rfl (by first | exact st | exact st.perm p3_2 | exact st.perm p3_3 | exact st.perm p3_4 | exact st.perm p3_5 | exact st.perm p3_6)
        · refine stepE 9 (pure' := [7, 6, 5, 1, 0]) (lds' := [8]) rfl (by kernel_rfl) (by kernel_rfl) ?_
          refine wl_alloc TF.z138 st rfl ?_
          intro b2 w st
          refine wl_nil ⟨rfl, ?_⟩
          refine fl_eff1 4 [7, 6, 5, 1, 0] [8] (by kernel_rfl) ⟨obl_ld rfl rfl rfl (v_load rfl (by first | exact st.reads 0 rfl TF.t128 (getV_state ..) | exact st.reads 1 rfl TF.t128 (getV_state ..) | exact st.reads 2 rfl TF.t128 (getV_state ..) | exact st.reads 3 rfl TF.t128 (getV_state ..))), trivial⟩ rfl ?_
          refine wl_call rfl (c_factors st.im) rfl ?_
          rintro v16 w ⟨t, rfl⟩
          have st := st.pure t
          refine wl_nil ⟨rfl, ?_⟩
          refine FL.permB [11, 10, 9, 4, 3, 8, 7, 6, 5, 2, 1, 0] [7, 6, 5, 1, 0] [8] (by kernel_rfl) ?_
          exact fin _ _ _ _ _ rfl rfl rfl rfl rfl rfl rfl rfl rfl rfl (by first | exact st | exact st.perm p3_2 | exact st.perm p3_3 | exact st.perm p3_4 | exact st.perm p3_5 | exact st.perm p3_6)
    · refine stepE 9 (pure' := [7, 6, 5, 2, 1, 0]) (lds' := [8]) rfl (by kernel_rfl) (by kernel_rfl) ?_
      refine wl_alloc TF.z138 st rfl ?_
      intro b2 w st
      refine wl_nil ⟨rfl, ?_⟩
      refine fl_effs [3, 11] (by kernel_rfl) ⟨obl_ld rfl rfl rfl (v_load rfl (by first | exact st.reads 0 rfl TF.t128 (getV_state ..) | exact st.reads 1 rfl TF.t128 (getV_state ..) | exact st.reads 2 rfl TF.t128 (getV_state ..) | exact st.reads 3 rfl TF.t128 (getV_state ..))), trivial⟩ (all2 ?_ ?_)
      · refine stepE 3 (pure' := [7, 6, 5, 1, 0]) (lds' := [8]) rfl (by kernel_rfl) (by kernel_rfl) ?_
        refine wl_call rfl (by first | exact c_spreadS st 0 rfl hl | exact c_spreadS st 1 rfl hl | exact c_spreadS st 2 rfl hl | exact c_spreadS st 3 rfl hl) rfl ?_
        rintro v15 w ⟨t, rfl⟩
        have st := st.pure t
        refine wl_nil ⟨rfl, ?_⟩
        refine fl_effs [4, 11] (by kernel_rfl) ⟨obl_ld rfl rfl rfl (v_load rfl (by first | exact st.reads 0 rfl TF.t128 (getV_state ..) | exact st.reads 1 rfl TF.t128 (getV_state ..) | exact st.reads 2 rfl TF.t128 (getV_state ..) | exact st.reads 3 rfl TF.t128 (getV_state ..))), trivial⟩ (all2 ?_ ?_)
        · refine stepE 4 (pure' := [7, 6, 5, 1, 0]) (lds' := [8]) rfl (by kernel_rfl) (by kernel_rfl) ?_
          refine wl_call rfl (c_factors st.im) rfl ?_
          rintro v16 w ⟨t, rfl⟩
          have st := st.pure t
          refine wl_nil ⟨rfl, ?_⟩
          refine fl_eff1 11 [7, 6, 5, 1, 0] [8] (by kernel_rfl) ⟨obl_ld rfl rfl rfl (v_load rfl (by first | exact st.reads 0 rfl TF.t128 (getV_state ..) | exact st.reads 1 rfl TF.t128 (getV_state ..) | exact st.reads 2 rfl TF.t128 (getV_state ..) | exact st.reads 3 rfl TF.t128 (getV_state ..))), trivial⟩ rfl ?_
          refine wl_alloc TF.z128 st rfl ?_
          intro b4 w st
          refine wl_nil ⟨rfl, ?_⟩
          refine FL.permB [11, 10, 9, 4, 3, 8, 7, 6, 5, 2, 1, 0] [7, 6, 5, 1, 0] [8] (by kernel_rfl) ?_
          exact fin _ _ _ _ _ rfl rfl rfl rfl rfl rfl rfl rfl rfl rfl (by first | exact st | exact st.perm p3_2 | exact st.perm p3_3 | exact st.perm p3_4 | exact st.perm p3_5 | exact st.perm p3_6)
        · refine stepE 11 (pure' := [7, 6, 5, 1, 0]) (lds' := [8]) rfl (by kernel_rfl) (by kernel_rfl) ?_
          refine wl_alloc TF.z128 st rfl ?_
          intro b4 w st
          refine wl_nil ⟨rfl, ?_⟩
          refine fl_eff1 4 [7, 6, 5, 1, 0] [8] (by kernel_rfl) ⟨obl_ld rfl rfl rfl (v_load rfl (by first | exact st.reads 0 rfl TF.t128 (getV_state ..) | exact st.reads 1 rfl TF.t128 (getV_state ..) | exact st.reads 2 rfl TF.t128 (getV_state ..) | exact st.reads 3 rfl TF.t128 (getV_state ..))), trivial⟩ rfl ?_
          refine wl_call rfl (c_factors st.im) rfl ?_
          rintro v16 w ⟨t, rfl⟩
          have st := st.pure t
          refine wl_nil ⟨rfl, ?_⟩
          refine FL.permB [11, 10, 9, 4, 3, 8, 7, 6, 5, 2, 1, 0] [7, 6, 5, 1, 0] [8] (by kernel_rfl) ?_
          exact fin _ _ _ _ _ rfl rfl rfl rfl rfl rfl rfl rfl rfl rfl (by first | exact st | exact st.perm p3_2 | exact st.perm p3_3 | exact st.perm p3_4 | exact st.perm p3_5 | exact st.perm p3_6)
      · refine stepE 11 (pure' := [7, 6, 5, 2, 1, 0]) (lds' := [8]) rfl (by kernel_rfl) (by kernel_rfl) ?_
        refine wl_alloc TF.z128 st rfl ?_
        intro b4 w st
        refine wl_nil ⟨rfl, ?_⟩
        refine fl_eff1 3 [7, 6, 5, 1, 0] [8] (by kernel_rfl) ⟨obl_ld rfl rfl rfl (v_load rfl (by first | exact st.reads 0 rfl TF.t128 (getV_state ..) | exact st.reads 1 rfl TF.t128 (getV_state ..) | exact st.reads 2 rfl TF.t128 (getV_state ..) | exact st.reads 3 rfl TF.t128 (getV_state ..))), trivial⟩ rfl ?_
        refine wl_call rfl (by first | exact c_spreadS st 0 rfl hl | exact c_spreadS st 1 rfl hl | exact c_spreadS st 2 rfl hl | exact c_spreadS st 3 rfl hl) rfl ?_
        rintro v15 w ⟨t, rfl⟩
        have st := st.pure t
        refine wl_nil ⟨rfl, ?_⟩
        refine fl_eff1 4 [7, 6, 5, 1, 0] [8] (by kernel_rfl) ⟨obl_ld rfl rfl rfl (v_load rfl (by first | exact st.reads 0 rfl TF.t128 (getV_state ..) | exact st.reads 1 rfl TF.t128 (getV_state ..) | exact st.reads 2 rfl TF.t128 (getV_state ..) | exact st.reads 3 rfl TF.t128 (getV_state ..))), trivial⟩ rfl ?_
        refine wl_call rfl (c_factors st.im) rfl ?_
        rintro v16 w ⟨t, rfl⟩
        have st := st.pure t
        refine wl_nil ⟨rfl, ?_⟩
        refine FL.permB [11, 10, 9, 4, 3, 8, 7, 6, 5, 2, 1, 0] [7, 6, 5, 1, 0] [8] (by kernel_rfl) ?_
        exact fin _ _ _ _ _ rfl rfl rfl rfl rfl rfl rfl rfl rfl rfl (by first | exact st | exact st.perm p3_2 | exact st.perm p3_3 | exact st.perm p3_4 | exact st.perm p3_5 | exact st.perm p3_6)
    · refine stepE 11 (pure' := [7, 6, 5, 2, 1, 0]) (lds' := [8]) rfl (by kernel_rfl) (by kernel_rfl) ?_
      refine wl_alloc TF.z128 st rfl ?_
      intro b4 w st
      refine wl_nil ⟨rfl, ?_⟩
      refine fl_effs [3, 9] (by kernel_rfl) ⟨obl_ld rfl rfl rfl (v_load rfl (by first | exact st.reads 0 rfl TF.t128 (getV_state ..) | exact st.reads 1 rfl TF.t128 (getV_state ..) | exact st.reads 2 rfl TF.t128 (getV_state ..) | exact st.reads 3 rfl TF.t128 (getV_state ..))), trivial⟩ (all2 ?_ ?_)
      · refine stepE 3 (pure' := [7, 6, 5, 1, 0]) (lds' := [8]) rfl (by kernel_rfl) (by kernel_rfl) ?_
        refine wl_call rfl (by first | exact c_spreadS st 0 rfl hl | exact c_spreadS st 1 rfl hl | exact c_spreadS st 2 rfl hl | exact c_spreadS st 3 rfl hl) rfl ?_
        rintro v15 w ⟨t, rfl⟩
        have st := st.pure t
        refine wl_nil ⟨rfl, ?_⟩
        refine fl_effs [4, 9] (by kernel_rfl) ⟨obl_ld rfl rfl rfl (v_load rfl (by first | exact st.reads 0 rfl TF.t128 (getV_state ..) | exact st.reads 1 rfl TF.t128 (getV_state ..) | exact st.reads 2 rfl TF.t128 (getV_state ..) | exact st.reads 3 rfl TF.t128 (getV_state ..))), trivial⟩ (all2 ?_ ?_)
        · refine stepE 4 (pure' := [7, 6, 5, 1, 0]) (lds' := [8]) rfl (by kernel_rfl) (by kernel_rfl) ?_
          refine wl_call rfl (c_factors st.im) rfl ?_
          rintro v16 w ⟨t, rfl⟩
          have st := st.pure t
          refine wl_nil ⟨rfl, ?_⟩
          refine fl_eff1 9 [7, 6, 5, 1, 0] [8] (by kernel_rfl) ⟨obl_ld rfl rfl rfl (v_load rfl (by first | exact st.reads 0 rfl TF.t128 (getV_state ..) | exact st.reads 1 rfl TF.t128 (getV_state ..) | exact st.reads 2 rfl TF.t128 (getV_state ..) | exact st.reads 3 rfl TF.t128 (getV_state ..))), trivial⟩ rfl ?_
          refine wl_alloc TF.z138 st rfl ?_
          intro b2 w st
          refine wl_nil ⟨rfl, ?_⟩
          refine FL.permB [11, 10, 9, 4, 3, 8, 7, 6, 5, 2, 1, 0] [7, 6, 5, 1, 0] [8] (by kernel_rfl) ?_
          exact fin _ _ _ _ _ rfl rfl rfl rfl rfl rfl rfl rfl rfl rfl (by first | exact st | exact st.perm p3_2 | exact st.perm p3_3 | exact st.perm p3_4 | exact st.perm p3_5 | exact st.perm p3_6)
        · refine stepE 9 (pure' := [7, 6, 5, 1, 0]) (lds' := [8]) rfl (by kernel_rfl) (by kernel_rfl) ?_
          refine wl_alloc TF.z138 st rfl ?_
          intro b2 w st
          refine wl_nil ⟨rfl, ?_⟩
          refine fl_eff1 4 [7, 6, 5, 1, 0] [8] (by kernel_rfl) ⟨obl_ld rfl rfl rfl (v_load rfl (by first | exact st.reads 0 rfl TF.t128 (getV_state ..) | exact st.reads 1 rfl TF.t128 (getV_state ..) | exact st.reads 2 rfl TF.t128 (getV_state ..) | exact st.reads 3 rfl TF.t128 (getV_state ..))), trivial⟩ rfl ?_
          refine wl_call rfl (c_factors st.im) rfl ?_
          rintro v16 w ⟨t, rfl⟩
          have st := st.pure t
          refine wl_nil ⟨rfl, ?_⟩
          refine FL.permB [11, 10, 9, 4, 3, 8, 7, 6, 5, 2, 1, 0] [7, 6, 5, 1, 0] [8] (by kernel_rfl) ?_
          exact fin _ _ _ _ _ rfl rfl rfl rfl rfl rfl rfl rfl rfl rfl (by first | exact st | exact st.perm p3_2 | exact st.perm p3_3 | exact st.perm p3_4 | exact st.perm p3_5 | exact st.perm p3_6)
      · refine stepE 9 (pure' := [7, 6, 5, 2, 1, 0]) (lds' := [8]) rfl (by kernel_rfl) (by kernel_rfl) ?_
        refine wl_alloc TF.z138 st rfl ?_
        intro b2 w st
        refine wl_nil ⟨rfl, ?_⟩
        refine fl_eff1 3 [7, 6, 5, 1, 0] [8] (by kernel_rfl) ⟨obl_ld rfl rfl rfl (v_load rfl (by first | exact st.reads 0 rfl TF.t128 (getV_state ..) | exact st.reads 1 rfl TF.t128 (getV_state ..) | exact st.reads 2 rfl TF.t128 (getV_state ..) | exact st.reads 3 rfl TF.t128 (getV_state ..))), trivial⟩ rfl ?_
        refine wl_call rfl (by first | exact c_spreadS st 0 rfl hl | exact c_spreadS st 1 rfl hl | exact c_spreadS st 2 rfl hl | exact c_spreadS st 3 rfl hl) rfl ?_
        rintro v15 w ⟨t, rfl⟩
        have st := st.pure t
        refine wl_nil ⟨rfl, ?_⟩
        refine fl_eff1 4 [7, 6, 5, 1, 0] [8] (by kernel_rfl) ⟨obl_ld rfl rfl rfl (v_load rfl (by first | exact st.reads 0 rfl TF.t128 (getV_state ..) | exact st.reads 1 rfl TF.t128 (getV_state ..) | exact st.reads 2 rfl TF.t128 (getV_state ..) | exact st.reads 3 rfl TF.t128 (getV_state ..))), trivial⟩ rfl ?_
        refine wl_call rfl (c_factors st.im) rfl ?_
        rintro v16 w ⟨t, rfl⟩
        have st := st.pure t
        refine wl_nil ⟨rfl, ?_⟩
        refine FL.permB [11, 10, 9, 4, 3, 8, 7, 6, 5, 2, 1, 0] [7, 6, 5, 1, 0] [8] (by kernel_rfl) ?_
        exact fin _ _ _ _ _ rfl rfl rfl rfl rfl rfl rfl rfl rfl rfl (by first | exact st | exact st.perm p3_2 | exact st.perm p3_3 | exact st.perm p3_4 | exact st.perm p3_5 | exact st.perm p3_6)
  · refine stepE 11 (pure' := [7, 6, 5, 2, 1, 0]) (lds' := [8]) rfl (by kernel_rfl) (by kernel_rfl) ?_
    refine wl_alloc TF.z128 st rfl ?_
    intro b4 w st
    refine wl_nil ⟨rfl, ?_⟩
    refine fl_effs [3, 9, 10] (by kernel_rfl) ⟨obl_ld rfl rfl rfl (v_load rfl (by first | exact st.reads 0 rfl TF.t128 (getV_state ..) | exact st.reads 1 rfl TF.t128 (getV_state ..) | exact st.reads 2 rfl TF.t128 (getV_state ..) | exact st.reads 3 rfl TF.t128 (getV_state ..))), trivial⟩ (all3 ?_ ?_ ?_)
    · refine stepE 3 (pure' := [7, 6, 5, 1, 0]) (lds' := [8]) rfl (by kernel_rfl) (by kernel_rfl) ?_
      refine wl_call rfl (by first | exact c_spreadS st 0 rfl hl | exact c_spreadS st 1 rfl hl | exact c_spreadS st 2 rfl hl | exact c_spreadS st 3 rfl hl) rfl ?_
      rintro v15 w ⟨t, rfl⟩
      have st := st.pure t
      refine wl_nil ⟨rfl, ?_⟩
      refine fl_effs [4, 9, 10] (by kernel_rfl) ⟨obl_ld rfl rfl rfl (v_load rfl (by first | exact st.reads 0 rfl TF.t128 (getV_state ..) | exact st.reads 1 rfl TF.t128 (getV_state ..) | exact st.reads 2 rfl TF.t128 (getV_state ..) | exact st.reads 3 rfl TF.t128 (getV_state ..))), trivial⟩ (all3 ?_ ?_ ?_)
      · refine stepE 4 (pure' := [7, 6, 5, 1, 0]) (lds' := [8]) rfl (by kernel_rfl) (by kernel_rfl) ?_
        refine wl_call rfl (c_factors st.im) rfl ?_
        rintro v16 w ⟨t, rfl⟩
        have st := st.pure t
        refine wl_nil ⟨rfl, ?_⟩
        refine fl_effs [9, 10] (by kernel_rfl) ⟨obl_ld rfl rfl rfl (v_load rfl (by first | exact st.reads 0 rfl TF.t128 (getV_state ..) | exact st.reads 1 rfl TF.t128 (getV_state ..) | exact st.reads 2 rfl TF.t128 (getV_state ..) | exact st.reads 3 rfl TF.t128 (getV_state ..))), trivial⟩ (all2 ?_ ?_)
        · refine stepE 9 (pure' := [7, 6, 5, 1, 0]) (lds' := [8]) rfl (by kernel_rfl) (by kernel_rfl) ?_
          refine wl_alloc TF.z138 st rfl ?_
          intro b2 w st
          refine wl_nil ⟨rfl, ?_⟩
          refine fl_eff1 10 [7, 6, 5, 1, 0] [8] (by kernel_rfl) ⟨obl_ld rfl rfl rfl (v_load rfl (by first | exact st.reads 0 rfl TF.t128 (getV_state ..) | exact st.reads 1 rfl TF.t128 (getV_state ..) | exact st.reads 2 rfl TF.t128 (getV_state ..) | exact st.reads 3 rfl TF.t128 (getV_state ..))), trivial⟩ rfl ?_
          refine wl_alloc TF.z138 st rfl ?_
          intro b3 w st
          refine wl_nil ⟨rfl, ?_⟩
          refine FL.permB [11, 10, 9, 4, 3, 8, 7, 6, 5, 2, 1, 0] [7, 6, 5, 1, 0] [8] (by kernel_rfl) ?_
          exact fin _ _ _ _ _ rfl rfl rfl rfl rfl rfl rfl rfl rfl rfl (by first | exact st | exact st.perm p3_2 | exact st.perm p3_3 | exact st.perm p3_4 | exact st.perm p3_5 | exact st.perm p3_6)
        · refine stepE 10 (pure' := [7, 6, 5, 1, 0]) (lds' := [8]) rfl (by kernel_rfl) (by kernel_rfl) ?_
          refine wl_alloc TF.z138 st rfl ?_
          intro b3 w st
          refine wl_nil ⟨rfl, ?_⟩
          refine fl_eff1 9 [7, 6, 5, 1, 0] [8] (by kernel_rfl) ⟨obl_ld rfl rfl rfl (v_load rfl (by first | exact st.reads 0 rfl TF.t128 (getV_state ..) | exact st.reads 1 rfl TF.t128 (getV_state ..) | exact st.reads 2 rfl TF.t128 (getV_state ..) | exact st.reads 3 rfl TF.t128 (getV_state ..))), trivial⟩ rfl ?_
          refine wl_alloc TF.z138 st rfl ?_
          intro b2 w st
          refine wl_nil ⟨rfl, ?_⟩
          refine FL.permB [11, 10, 9, 4, 3, 8, 7, 6, 5, 2, 1, 0] [7, 6, 5, 1, 0] [8] (by kernel_rfl) ?_
          exact fin _ _ _ _ _ rfl rfl rfl rfl rfl rfl rfl rfl rfl rfl (by first | exact st | exact st.perm p3_2 | exact st.perm p3_3 | exact st.perm p3_4 | exact st.perm p3_5 | exact st.perm p3_6)
      · refine stepE 9 (pure' := [7, 6, 5, 1, 0]) (lds' := [8]) rfl (by kernel_rfl) (by kernel_rfl) ?_
        refine wl_alloc TF.z138 st rfl ?_
        intro b2 w st
        refine wl_nil ⟨rfl, ?_⟩
        refine fl_effs [4, 10] (by kernel_rfl) ⟨obl_ld rfl rfl rfl (v_load rfl (by first | exact st.reads 0 rfl TF.t128 (getV_state ..) | exact st.reads 1 rfl TF.t128 (getV_state ..) | exact st.reads 2 rfl TF.t128 (getV_state ..) | exact st.reads 3 rfl TF.t128 (getV_state ..))), trivial⟩ (all2 ?_ ?_)
        · refine stepE 4 (pure' := [7, 6, 5, 1, 0]) (lds' := [8]) rfl (by kernel_rfl) (by kernel_rfl) ?_
          refine wl_call rfl (c_factors st.im) rfl ?_
          rintro v16 w ⟨t, rfl⟩
          have st := st.pure t
          refine wl_nil ⟨rfl, ?_⟩
          refine fl_eff1 10 [7, 6, 5, 1, 0] [8] (by kernel_rfl) ⟨obl_ld rfl rfl rfl (v_load rfl (by first | exact st.reads 0 rfl TF.t128 (getV_state ..) | exact st.reads 1 rfl TF.t128 (getV_state ..) | exact st.reads 2 rfl TF.t128 (getV_state ..) | exact st.reads 3 rfl TF.t128 (getV_state ..))), trivial⟩ rfl ?_
          refine wl_alloc TF.z138 st rfl ?_
          intro b3 w st
          refine wl_nil ⟨rfl, ?_⟩
          refine FL.permB [11, 10, 9, 4, 3, 8, 7, 6, 5, 2, 1, 0] [7, 6, 5, 1, 0] [8] (by kernel_rfl) ?_
          exact fin _ _ _ _ _ rfl rfl rfl rfl rfl rfl rfl rfl rfl rfl (by first | exact st | exact st.perm p3_2 | exact st.perm p3_3 | exact st.perm p3_4 | exact st.perm p3_5 | exact st.perm p3_6)
        · refine stepE 10 (pure' := [7, 6, 5, 1, 0]) (lds' := [8]) rfl (by kernel_rfl) (by kernel_rfl) ?_
          refine wl_alloc TF.z138 st rfl ?_
          intro b3 w st
          refine wl_nil ⟨rfl, ?_⟩
          refine fl_eff1 4 [7, 6, 5, 1, 0] [8] (by kernel_rfl) ⟨obl_ld rfl rfl rfl (v_load rfl (by first | exact st.reads 0 rfl TF.t128 (getV_state ..) | exact st.reads 1 rfl TF.t128 (getV_state ..) | exact st.reads 2 rfl TF.t128 (getV_state ..) | exact st.reads 3 rfl TF.t128 (getV_state ..))), trivial⟩ rfl ?_
          refine wl_call rfl (c_factors st.im) rfl ?_
          rintro v16 w ⟨t, rfl⟩
          have st := st.pure t
          refine wl_nil ⟨rfl, ?_⟩
          refine FL.permB [11, 10, 9, 4, 3, 8, 7, 6, 5, 2, 1, 0] [7, 6, 5, 1, 0] [8] (by kernel_rfl) ?_
          exact fin _ _ _ _ _ rfl rfl rfl rfl rfl rfl rfl rfl rfl rfl (by first | exact st | exact st.perm p3_2 | exact st.perm p3_3 | exact st.perm p3_4 | exact st.perm p3_5 | exact st.perm p3_6)
      · refine stepE 10 (pure' := [7, 6, 5, 1, 0]) (lds' := [8]) rfl (by kernel_rfl) (by kernel_rfl) ?_
        refine wl_alloc TF.z138 st rfl ?_
        intro b3 w st
        refine wl_nil ⟨rfl, ?_⟩
        refine fl_effs [4, 9] (by kernel_rfl) ⟨obl_ld rfl rfl rfl (v_load rfl (by first | exact st.reads 0 rfl TF.t128 (getV_state ..) | exact st.reads 1 rfl TF.t128 (getV_state ..) | exact st.reads 2 rfl TF.t128 (getV_state ..) | exact st.reads 3 rfl TF.t128 (getV_state ..))), trivial⟩ (all2 ?_ ?_)
        · refine stepE 4 (pure' := [7, 6, 5, 1, 0]) (lds' := [8]) rfl (by kernel_rfl) (by kernel_rfl) ?_
          refine wl_call rfl (c_factors st.im) rfl ?_
          rintro v16 w ⟨t, rfl⟩
          have st := st.pure t
          refine wl_nil ⟨rfl, ?_⟩
          refine fl_eff1 9 [7, 6, 5, 1, 0] [8] (by kernel_rfl) ⟨obl_ld rfl rfl rfl (v_load rfl (by first | exact st.reads 0 rfl TF.t128 (getV_state ..) | exact st.reads 1 rfl TF.t128 (getV_state ..) | exact st.reads 2 rfl TF.t128 (getV_state ..) | exact st.reads 3 rfl TF.t128 (getV_state ..))), trivial⟩ rfl ?_
          refine wl_alloc TF.z138 st rfl ?_
          intro b2 w st
          refine wl_nil ⟨rfl, ?_⟩
          refine FL.permB [11, 10, 9, 4, 3, 8, 7, 6, 5, 2, 1, 0] [7, 6, 5, 1, 0] [8] (by kernel_rfl) ?_
          exact fin _ _ _ _ _ rfl rfl rfl rfl rfl rfl rfl rfl rfl rfl (by first | exact st | exact st.perm p3_2 | exact st.perm p3_3 | exact st.perm p3_4 | exact st.perm p3_5 | exact st.perm p3_6)
        · refine stepE 9 (pure' := [7, 6, 5, 1, 0]) (lds' := [8]) rfl (by kernel_rfl) (by kernel_rfl) ?_
          refine wl_alloc TF.z138 st rfl ?_
          intro b2 w st
          refine wl_nil ⟨rfl, ?_⟩
          refine fl_eff1 4 [7, 6, 5, 1, 0] [8] (by kernel_rfl) ⟨obl_ld rfl rfl rfl (v_load rfl (by first | exact st.reads 0 rfl TF.t128 (getV_state ..) | exact st.reads 1 rfl TF.t128 (getV_state ..) | exact st.reads 2 rfl TF.t128 (getV_state ..) | exact st.reads 3 rfl TF.t128 (getV_state ..))), trivial⟩ rfl ?_
          refine wl_call rfl (c_factors st.im) rfl ?_
          rintro v16 w ⟨t, rfl⟩
          have st := st.pure t
          refine wl_nil ⟨rfl, ?_⟩
          refine FL.permB [11, 10, 9, 4, 3, 8, 7, 6, 5, 2, 1, 0] [7, 6, 5, 1, 0] [8] (by kernel_rfl) ?_
          exact fin _ _ _ _ _ rfl rfl rfl rfl rfl rfl rfl rfl rfl rfl (by first | exact st | exact st.perm p3_2 | exact st.perm p3_3 | exact st.perm p3_4 | exact st.perm p3_5 | exact st.perm p3_6)
    · refine stepE 9 (pure' := [7, 6, 5, 2, 1, 0]) (lds' := [8]) rfl (by kernel_rfl) (by kernel_rfl) ?_
      refine wl_alloc TF.z138 st rfl ?_
      intro b2 w st
      refine wl_nil ⟨rfl, ?_⟩
      refine fl_effs [3, 10] (by kernel_rfl) ⟨obl_ld rfl rfl rfl (v_load rfl (by first | exact st.reads 0 rfl TF.t128 (getV_state ..) | exact st.reads 1 rfl TF.t128 (getV_state ..) | exact st.reads 2 rfl TF.t128 (getV_state ..) | exact st.reads 3 rfl TF.t128 (getV_state ..))), trivial⟩ (all2 ?_ ?_)
      · refine stepE 3 (pure' := [7, 6, 5, 1, 0]) (lds' := [8]) rfl (by kernel_rfl) (by kernel_rfl) ?_
        refine wl_call rfl (by first | exact c_spreadS st 0 rfl hl | exact c_spreadS st 1 rfl hl | exact c_spreadS st 2 rfl hl | exact c_spreadS st 3 rfl hl) rfl ?_
        rintro v15 w ⟨t, rfl⟩
        have st := st.pure t
        refine wl_nil ⟨rfl, ?_⟩
        refine fl_effs [4, 10] (by kernel_rfl) ⟨obl_ld rfl rfl rfl (v_load rfl (by first | exact st.reads 0 rfl TF.t128 (getV_state ..) | exact st.reads 1 rfl TF.t128 (getV_state ..) | exact st.reads 2 rfl TF.t128 (getV_state ..) | exact st.reads 3 rfl TF.t128 (getV_state ..))), trivial⟩ (all2 ?_ ?_)
        · refine stepE 4 (pure' := [7, 6, 5, 1, 0]) (lds' := [8]) rfl (by kernel_rfl) (by kernel_rfl) ?_
          refine wl_call rfl (c_factors st.im) rfl ?_
          rintro v16 w ⟨t, rfl⟩
          have st := st.pure t
          refine wl_nil ⟨rfl, ?_⟩
          refine fl_eff1 10 [7, 6, 5, 1, 0] [8] (by kernel_rfl) ⟨obl_ld rfl rfl rfl (v_load rfl (by first | exact st.reads 0 rfl TF.t128 (getV_state ..) | exact st.reads 1 rfl TF.t128 (getV_state ..) | exact st.reads 2 rfl TF.t128 (getV_state ..) | exact st.reads 3 rfl TF.t128 (getV_state ..))), trivial⟩ rfl ?_
          refine wl_alloc TF.z138 st rfl ?_
          intro b3 w st
          refine wl_nil ⟨rfl, ?_⟩
          refine FL.permB [11, 10, 9, 4, 3, 8, 7, 6, 5, 2, 1, 0] [7, 6, 5, 1, 0] [8] (by kernel_rfl) ?_
          exact fin _ _ _ _ _ rfl rfl rfl rfl rfl rfl rfl rfl rfl rfl (by first | exact st | exact st.perm p3_2 | exact st.perm p3_3 | exact st.perm p3_4 | exact st.perm p3_5 | exact st.perm p3_6)
        · refine stepE 10 (pure' := [7, 6, 5, 1, 0]) (lds' := [8]) rfl (by kernel_rfl) (by kernel_rfl) ?_
          refine wl_alloc TF.z138 st rfl ?_
          intro b3 w st
          refine wl_nil ⟨rfl, ?_⟩
          refine fl_eff1 4 [7, 6, 5, 1, 0] [8] (by kernel_rfl) ⟨obl_ld rfl rfl rfl (v_load rfl (by first | exact st.reads 0 rfl TF.t128 (getV_state ..) | exact st.reads 1 rfl TF.t128 (getV_state ..) | exact st.reads 2 rfl TF.t128 (getV_state ..) | exact st.reads 3 rfl TF.t128 (getV_state ..))), trivial⟩ rfl ?_
          refine wl_call rfl (c_factors st.im) rfl ?_
          rintro v16 w ⟨t, rfl⟩
          have st := st.pure t
          refine wl_nil ⟨rfl, ?_⟩
          refine FL.permB [11, 10, 9, 4, 3, 8, 7, 6, 5, 2, 1, 0] [7, 6, 5, 1, 0] [8] (by kernel_rfl) ?_
          exact fin _ _ _ _ _ rfl rfl rfl rfl rfl rfl rfl rfl rfl rfl (by first | exact st | exact st.perm p3_2 | exact st.perm p3_3 | exact st.perm p3_4 | exact st.perm p3_5 | exact st.perm p3_6)
      · refine stepE 10 (pure' := [7, 6, 5, 2, 1, 0]) (lds' := [8]) rfl (by kernel_rfl) (by kernel_rfl) ?_
        refine wl_alloc TF.z138 st rfl ?_
        intro b3 w st
        refine wl_nil ⟨rfl, ?_⟩
        refine fl_eff1 3 [7, 6, 5, 1, 0] [8] (by kernel_rfl) ⟨obl_ld rfl rfl rfl (v_load rfl (by first | exact st.reads 0 rfl TF.t128 (getV_state ..) | exact st.reads 1 rfl TF.t128 (getV_state ..) | exact st.reads 2 rfl TF.t128 (getV_state ..) | exact st.reads 3 rfl TF.t128 (getV_state ..))), trivial⟩ rfl ?_
        refine wl_call rfl (by first | exact c_spreadS st 0 rfl hl | exact c_spreadS st 1 rfl hl | exact c_spreadS st 2 rfl hl | exact c_spreadS st 3 rfl hl) rfl ?_
        rintro v15 w ⟨t, rfl⟩
        have st := st.pure t
        refine wl_nil ⟨rfl, ?_⟩
        refine fl_eff1 4 [7, 6, 5, 1, 0] [8] (by kernel_rfl) ⟨obl_ld rfl rfl rfl (v_load rfl (by first | exact st.reads 0 rfl TF.t128 (getV_state ..) | exact st.reads 1 rfl TF.t128 (getV_state ..) | exact st.reads 2 rfl TF.t128 (getV_state ..) | exact st.reads 3 rfl TF.t128 (getV_state ..))), trivial⟩ rfl ?_
        refine wl_call rfl (c_factors st.im) rfl ?_
        rintro v16 w ⟨t, rfl⟩
        have st := st.pure t
        refine wl_nil ⟨rfl, ?_⟩
        refine FL.permB [11, 10, 9, 4, 3, 8, 7, 6, 5, 2, 1, 0] [7, 6, 5, 1, 0] [8] (by kernel_rfl) ?_
        exact fin _ _ _ _ _ rfl rfl rfl rfl rfl rfl rfl rfl rfl rfl (by first | exact st | exact st.perm p3_2 | exact st.perm p3_3 | exact st.perm p3_4 | exact st.perm p3_5 | exact st.perm p3_6)
    · refine stepE 10 (pure' := [7, 6, 5, 2, 1, 0]) (lds' := [8]) rfl (by kernel_rfl) (by kernel_rfl) ?_
      refine wl_alloc TF.z138 st rfl ?_
      intro b3 w st
      refine wl_nil ⟨rfl, ?_⟩
      refine fl_effs [3, 9] (by kernel_rfl) ⟨obl_ld rfl rfl rfl (v_load rfl (by first | exact st.reads 0 rfl TF.t128 (getV_state ..) | exact st.reads 1 rfl TF.t128 (getV_state ..) | exact st.reads 2 rfl TF.t128 (getV_state ..) | exact st.reads 3 rfl TF.t128 (getV_state ..))), trivial⟩ (all2 ?_ ?_)
      · refine stepE 3 (pure' := [7, 6, 5, 1, 0]) (lds' := [8]) rfl (by kernel_rfl) (by kernel_rfl) ?_
        refine wl_call rfl (by first | exact c_spreadS st 0 rfl hl | exact c_spreadS st 1 rfl hl | exact c_spreadS st 2 rfl hl | exact c_spreadS st 3 rfl hl) rfl ?_
        rintro v15 w ⟨t, rfl⟩
        have st := st.pure t
        refine wl_nil ⟨rfl, ?_⟩
        refine fl_effs [4, 9] (by kernel_rfl) ⟨obl_ld rfl rfl rfl (v_load rfl (by first | exact st.reads 0 rfl TF.t128 (getV_state ..) | exact st.reads 1 rfl TF.t128 (getV_state ..) | exact st.reads 2 rfl TF.t128 (getV_state ..) | exact st.reads 3 rfl TF.t128 (getV_state ..))), trivial⟩ (all2 ?_ ?_)
        · refine stepE 4 (pure' := [7, 6, 5, 1, 0]) (lds' := [8]) rfl (by kernel_rfl) (by kernel_rfl) ?_
          refine wl_call rfl (c_factors st.im) rfl ?_
          rintro v16 w ⟨t, rfl⟩
          have st := st.pure t
          refine wl_nil ⟨rfl, ?_⟩
          refine fl_eff1 9 [7, 6, 5, 1, 0] [8] (by kernel_rfl) ⟨obl_ld rfl rfl rfl (v_load rfl (by first | exact st.reads 0 rfl TF.t128 (getV_state ..) | exact st.reads 1 rfl TF.t128 (getV_state ..) | exact st.reads 2 rfl TF.t128 (getV_state ..) | exact st.reads 3 rfl TF.t128 (getV_state ..))), trivial⟩ rfl ?_
          refine wl_alloc TF.z138 st rfl ?_
          intro b2 w st
          refine wl_nil ⟨rfl, ?_⟩
          refine FL.permB [11, 10, 9, 4, 3, 8, 7, 6, 5, 2, 1, 0] [7, 6, 5, 1, 0] [8] (by kernel_rfl) ?_
          exact fin _ _ _ _ _ rfl rfl rfl rfl rfl rfl rfl rfl rfl rfl (by first | exact st | exact st.perm p3_2 | exact st.perm p3_3 | exact st.perm p3_4 | exact st.perm p3_5 | exact st.perm p3_6)
        · refine stepE 9 (pure' := [7, 6, 5, 1, 0]) (lds' := [8]) rfl (by kernel_rfl) (by kernel_rfl) ?_
          refine wl_alloc TF.z138 st rfl ?_
          intro b2 w st
          refine wl_nil ⟨rfl, ?_⟩
          refine fl_eff1 4 [7, 6, 5, 1, 0] [8] (by kernel_rfl) ⟨obl_ld rfl rfl rfl (v_load rfl (by first | exact st.reads 0 rfl TF.t128 (getV_state ..) | exact st.reads 1 rfl TF.t128 (getV_state ..) | exact st.reads 2 rfl TF.t128 (getV_state ..) | exact st.reads 3 rfl TF.t128 (getV_state ..))), trivial⟩ rfl ?_
          refine wl_call rfl (c_factors st.im) rfl ?_
          rintro v16 w ⟨t, rfl⟩
          have st := st.pure t
          refine wl_nil ⟨rfl, ?_⟩
          refine FL.permB [11, 10, 9, 4, 3, 8, 7, 6, 5, 2, 1, 0] [7, 6, 5, 1, 0] [8] (by kernel_rfl) ?_
          exact fin _ _ _ _ _ rfl rfl rfl rfl rfl rfl rfl rfl rfl rfl (by first | exact st | exact st.perm p3_2 | exact st.perm p3_3 | exact st.perm p3_4 | exact st.perm p3_5 | exact st.perm p3_6)
      · refine stepE 9 (pure' := [7, 6, 5, 2, 1, 0]) (lds' := [8]) rfl (by kernel_rfl) (by kernel_rfl) ?_
        refine wl_alloc TF.z138 st rfl ?_
        intro b2 w st
        refine wl_nil ⟨rfl, ?_⟩
        refine fl_eff1 3 [7, 6, 5, 1, 0] [8] (by kernel_rfl) ⟨obl_ld rfl rfl rfl (v_load rfl (by first | exact st.reads 0 rfl TF.t128 (getV_state ..) | exact st.reads 1 rfl TF.t128 (getV_state ..) | exact st.reads 2 rfl TF.t128 (getV_state ..) | exact st.reads 3 rfl TF.t128 (getV_state ..))), trivial⟩ rfl ?_
        refine wl_call rfl (by first | exact c_spreadS st 0 rfl hl | exact c_spreadS st 1 rfl hl | exact c_spreadS st 2 rfl hl | exact c_spreadS st 3 rfl hl) rfl ?_
        rintro v15 w ⟨t, rfl⟩
        have st := st.pure t
        refine wl_nil ⟨rfl, ?_⟩
        refine fl_eff1 4 [7, 6, 5, 1, 0] [8] (by kernel_rfl) ⟨obl_ld rfl rfl rfl (v_load rfl (by first | exact st.reads 0 rfl TF.t128 (getV_state ..) | exact st.reads 1 rfl TF.t128 (getV_state ..) | exact st.reads 2 rfl TF.t128 (getV_state ..) | exact st.reads 3 rfl TF.t128 (getV_state ..))), trivial⟩ rfl ?_
        refine wl_call rfl (c_factors st.im) rfl ?_
        rintro v16 w ⟨t, rfl⟩
        have st := st.pure t
        refine wl_nil ⟨rfl, ?_⟩
        refine FL.permB [11, 10, 9, 4, 3, 8, 7, 6, 5, 2, 1, 0] [7, 6, 5, 1, 0] [8] (by kernel_rfl) ?_
        exact fin _ _ _ _ _ rfl rfl rfl rfl rfl rfl rfl rfl rfl rfl (by first | exact st | exact st.perm p3_2 | exact st.perm p3_3 | exact st.perm p3_4 | exact st.perm p3_5 | exact st.perm p3_6)
end
end Go.Proofs.Ytjjpakjgppmmdaa

/-
  SHA-256: the program's Write.
-/
namespace Go.Proofs.Ytjjpakjgppmmdaa
open Go Go.RowKit K SH

namespace SH
def spl (S : List UInt8) (o : Nat) (l : List UInt8) : List UInt8 := S.take o ++ l ++ S.drop (o + l.length)

theorem length_spl {S l : List UInt8} {o : Nat} (h : o + l.length ≤ S.length) : (spl S o l).length = S.length := by simp [spl]; omega

theorem hs_append (L y : List UInt8) : ∀ k, 64 * k ≤ L.length → hs (L ++ y) k = hs L k
  | 0, _ => rfl
  | k + 1, h => by
    have ih := hs_append L y k (by omega)
    have e : ((L ++ y).drop (64 * k)).take 64 = (L.drop (64 * k)).take 64 := by
      rw [List.drop_append_of_le_length (by omega), List.take_append_of_le_length (by simp; omega)]
    rw [hs, hs, ih, e]

/-- A hash to which this has been written: its state, its block, how much of that counts. -/
structure HSt (L : List UInt8) (v : V8) (bk : List UInt8) (hv : Nat) : Prop where
  st : v = hs L (L.length / 64)
  at_ : hv = L.length % 64
  len : bk.length = 64
  pre : bk.take hv = L.drop (64 * (L.length / 64))

theorem HSt.lt {L bk : List UInt8} {v : V8} {hv : Nat} (h : HSt L v bk hv) : hv < 64 := by rw [h.at_]; exact Nat.mod_lt _ (by decide)

theorem HSt.part {L bk y : List UInt8} {v : V8} {hv : Nat} (h : HSt L v bk hv) (hy : hv + y.length < 64) : HSt (L ++ y) v (spl bk hv y) (hv + y.length) := by
  have h1 := h.at_
  have hd : (L ++ y).length / 64 = L.length / 64 := by rw [List.length_append]; omega
  have hl := h.len
  refine ⟨?_, by rw [List.length_append]; omega, by rw [length_spl (by omega), hl], ?_⟩
  · rw [hd, hs_append _ _ _ (by omega)]
    exact h.st
  · rw [hd, List.drop_append_of_le_length (by omega), ← h.pre]
    unfold spl
    have hlt : (bk.take hv).length = hv := by simp; omega
    rw [List.take_append_of_le_length (by simp; omega), List.take_of_length_le (by simp; omega)]

theorem HSt.whole {L bk y : List UInt8} {v : V8} {hv : Nat} (h : HSt L v bk hv) (hy : hv + y.length = 64) : HSt (L ++ y) (comp v (spl bk hv y)) (spl bk hv y) 0 := by
  have h1 := h.at_
  have h2 := h.lt
  have hd : (L ++ y).length / 64 = L.length / 64 + 1 := by rw [List.length_append]; omega
  have hl := h.len
  have hsp : spl bk hv y = bk.take hv ++ y := by
    unfold spl
    rw [List.drop_eq_nil_of_le (by omega), List.append_nil]
  refine ⟨?_, by rw [List.length_append]; omega, by rw [length_spl (by omega), hl], ?_⟩
  · rw [hd, hs, hs_append _ _ _ (by omega), ← h.st, List.drop_append_of_le_length (by omega), ← h.pre, ← hsp, List.take_of_length_le (by rw [length_spl (by omega)]; omega)]
  · rw [hd, List.take_zero, List.drop_eq_nil_of_le (by rw [List.length_append]; omega)]

/-- A hash in memory, to which this has been written. -/
def HashAt (L : List UInt8) (c : Array Value) : Prop := ∃ v bk hv, c = hashC v bk (hv : Nat) (UInt64.ofNat L.length) ∧ HSt L v bk hv

theorem setSeg_hash {v : V8} {bk l : List UInt8} {hv : Int} {n : UInt64} {o : Nat} (h : o + l.length ≤ bk.length) : setSeg (hashC v bk hv n) (8 + o * 1) (bs l) = hashC v (spl bk o l) hv n := by
  have e1 : bs bk = bs (bk.take o) ++ bs ((bk.drop o).take l.length) ++ bs (bk.drop (o + l.length)) := by
    unfold bs
    rw [← List.map_append, ← List.map_append, List.append_assoc]
    congr 1
    rw [← List.drop_drop, List.take_append_drop, List.take_append_drop]
  have e2 : hashC v bk hv n = ((ws v.l ++ bs (bk.take o)) ++ bs ((bk.drop o).take l.length) ++ (bs (bk.drop (o + l.length)) ++ [.int .i64 hv, u64 n])).toArray := by
    unfold hashC
    rw [e1]
    simp
  rw [e2, setSeg_mid (by simp [ws, bs, length_l]; omega) (by simp [bs]; omega)]
  unfold hashC spl bs
  simp

theorem set_have {v : V8} {bk : List UInt8} {hv x : Int} {n : UInt64} (hl : bk.length = 64) : (hashC v bk hv n).setIfInBounds (0 + 72) (.int .i64 x) = hashC v bk x n := by
  unfold hashC
  have := set_app (A := ws v.l ++ bs bk) (B := [u64 n]) (x := .int .i64 x) (y := .int .i64 hv) (n := 0 + 72) (by simp [ws, bs, hl, length_l])
  exact this

theorem set_bytes {v : V8} {bk : List UInt8} {hv : Int} {n k : UInt64} (hl : bk.length = 64) : (hashC v bk hv n).setIfInBounds (0 + 73) (u64 k) = hashC v bk hv k := by
  unfold hashC
  have := set_app (A := ws v.l ++ bs bk ++ [.int .i64 hv]) (B := []) (x := u64 k) (y := u64 n) (n := 0 + 73) (by simp [ws, bs, hl, length_l])
  simpa using this

theorem getV_have {v : V8} {bk : List UInt8} {hv : Int} {n : UInt64} (hl : bk.length = 64) : getV false 1 (hashC v bk hv n) (0 + 72) = some (.int .i64 hv) := by
  unfold getV hashC
  simp only [Bool.false_eq_true, if_false]
  rw [List.getElem?_append_right (by simp [ws, bs, hl, length_l])]
  simp [ws, bs, hl, length_l]

theorem getV_bytes {v : V8} {bk : List UInt8} {hv : Int} {n : UInt64} (hl : bk.length = 64) : getV false 1 (hashC v bk hv n) (0 + 73) = some (u64 n) := by
  unfold getV hashC
  simp only [Bool.false_eq_true, if_false]
  rw [List.getElem?_append_right (by simp [ws, bs, hl, length_l])]
  simp [ws, bs, hl, length_l]

theorem size_hashC {v : V8} {bk : List UInt8} {hv : Int} {n : UInt64} (hl : bk.length = 64) : (hashC v bk hv n).size = 74 := by simp [hashC, ws, bs, hl, length_l]
end SH

section
variable {m : Mem} {wI : World}

theorem c_hwrite {b : Nat} {c : Array Value} {L x : List UInt8} {v : Value} (him : Im m wI) (hE : (K.blk b c 145).holds wI) (hm : m b = none) (hH : HashAt L c) (hx : SlM m v 1 x.length (bs x)) (hb : L.length + x.length ≤ 2199023255552) :
    Ret Try.prog 103 #[.pointer (some ⟨b, 0, none⟩), v] wI fun _ w' => ∃ c', Tch wI w' [b] [b] ∧ (K.blk b c' 145).holds w' ∧ HashAt (L ++ x) c' := by
  have st := St.startE him hE (by simpa [K.blk] using hm)
  obtain ⟨vs, bk, hv, rfl, hst⟩ := hH
  have hx0 := hx
  obtain ⟨_, xa, xc, rfl, _⟩ := hx
  refine ret_of Try.call103 Try.func103 rfl Try.ntmps103 Try.results103 rfl ?_
  refine wc_seq ?_
  refine wc_region ?_
  refine wl_val (v_move' (by conv => (lhs; whnf))) rfl ?_
  refine wl_val (v_nil rfl) rfl ?_
  refine wl_val (v_fa TF.f145_3 rfl) rfl ?_
  refine wl_val (v_load rfl (st.reads 0 rfl TF.t24 (getV_bytes hst.len))) rfl ?_
  refine wl_val (v_move' (by conv => (lhs; whnf))) rfl ?_
  refine wl_val (v_len_s Try.underlying41 rfl) rfl ?_
  refine wl_val (v_convi_64 (n := x.length) Try.underlying3 Try.underlying24 rfl) rfl ?_
  refine wl_val (v_add64 rfl rfl) rfl ?_
  refine wl_val (v_nil rfl) rfl ?_
  refine wl_val (v_fa TF.f145_3 rfl) rfl ?_
  refine wl_store1 (v := u64 (UInt64.ofNat L.length + UInt64.ofNat x.length)) 0 st rfl TF.t24 rfl rfl rfl (by rw [size_hashC hst.len]; omega) ?_
  intro w st
  refine wl_nil ?_
  refine then_go ?_
  refine wc_block ?_
  have e : (hashC vs bk (hv : Nat) (UInt64.ofNat L.length)).setIfInBounds (0 + 73) (u64 (UInt64.ofNat L.length + UInt64.ofNat x.length)) = hashC vs bk (hv : Nat) (UInt64.ofNat (L ++ x).length) := by
    rw [set_bytes hst.len, List.length_append, UInt64.ofNat_add]
  change St _ _ _ _ _ [K.blk b ((hashC vs bk (hv : Nat) (UInt64.ofNat L.length)).setIfInBounds (0 + 73) (u64 (UInt64.ofNat L.length + UInt64.ofNat x.length))) _] at st
  rw [e] at st
  refine wc_loop (S := Nat) (fun q r w' => ∃ y z vs bk hv v', x = y ++ z ∧ q = z.length ∧ r 0 = .pointer (some ⟨b, 0, none⟩) ∧ r 1 = v' ∧ SlM m v' 1 z.length (bs z) ∧ HSt (L ++ y) vs bk hv ∧ St m m [b] wI w' [K.blk b (hashC vs bk (hv : Nat) (UInt64.ofNat (L ++ x).length)) 145]) id x.length ⟨[], x, vs, bk, hv, _, rfl, rfl, rfl, rfl, hx0, by rw [List.append_nil]; exact hst, st⟩ ?_
  clear st hst
  rintro q r w2 ⟨y, z, vs, bk, hv, v', hxyz, hq, h0, h1, hz, hst, st⟩
  have hz0 := hz
  obtain ⟨_, za, zc, rfl, hzk, _⟩ := hz
  refine wc_o 0 h0 (wc_o 1 h1 ?_)
  refine wc_seq ?_
  refine wc_seq ?_
  refine wc_region ?_
  refine wl_val (v_move' (by conv => (lhs; whnf))) rfl ?_
  refine wl_val (v_len_s Try.underlying41 rfl) rfl ?_
  refine wl_val (v_gtr rfl rfl) rfl ?_
  refine wl_nil ?_
  refine then_go ?_
  refine wc_if rfl (fun h17 => ?_) (fun h17 => ?_)
  · refine wc_skip ?_
    refine then_go ?_
    refine wc_block ?_
    refine wc_seq ?_
    have hlt := hst.lt
    have hblen := hst.len
    have hLy : (L ++ y).length ≤ 2199023255552 := by rw [hxyz] at hb; simp at hb ⊢; omega
    have hzl : z.length ≤ 2199023255552 := by rw [hxyz] at hb; simp at hb ⊢; omega
    obtain ⟨k, hk⟩ : ∃ k, k = min z.length (64 - hv) := ⟨_, rfl⟩
    have hk1 : k ≤ z.length := by omega
    have hzt : (z.take k).length = k := by simp; omega
    refine wc_draw TF.mixed ?_
    have st := st.pure (touch_drew _)
    refine fl_val 0 rfl (fun _ => (v_move' (by conv => (lhs; whnf)))) rfl (by kernel_rfl) ?_
    refine fl_val 1 rfl (fun _ => (v_nil rfl)) rfl (by kernel_rfl) ?_
    refine fl_val 2 rfl (fun _ => (v_fa TF.f145_1 rfl)) rfl (by kernel_rfl) ?_
    refine fl_val 3 rfl (fun _ => (v_move' (by conv => (lhs; whnf)))) rfl (by kernel_rfl) ?_
    refine fl_val 4 rfl (fun _ => (v_nil rfl)) rfl (by kernel_rfl) ?_
    refine fl_val 5 rfl (fun _ => (v_fa TF.f145_2 rfl)) rfl (by kernel_rfl) ?_
    refine fl_ld 6 rfl (v_load rfl (by first | exact st.reads 0 rfl TF.t3 (getV_have hst.len) | exact st.reads 0 rfl TF.t3 (getV_have hsl))) (by kernel_rfl) ?_
    refine fl_val 7 rfl (fun _ => (v_sla hv 64 Try.underlying143 TF.t5 rfl ⟨_, _, rfl, rfl⟩ rfl (by omega) (by omega) (by omega))) rfl (by kernel_rfl) ?_
    refine fl_val 8 rfl (fun _ => (v_move' (by conv => (lhs; whnf)))) rfl (by kernel_rfl) ?_
    refine fl_eff1 9 [5, 4, 3, 2, 1, 0] [6] (by kernel_rfl) ⟨obl_ld rfl rfl rfl (v_load rfl (by first | exact st.reads 0 rfl TF.t3 (getV_have hst.len) | exact st.reads 0 rfl TF.t3 (getV_have hsl))), trivial⟩ rfl ?_
    refine wl_copy (size := 1) (b := b) (off := 0 + 8 + hv * 1) (len := 64 - hv) (cap := 64 - hv) (j := z.length) (news := bs z) 0 st rfl Try.underlying41 TF.t5 rfl rfl (hz0.src st.im (one_bs _)) (by rw [size_hashC hst.len]; omega) rfl ?_
    intro w st
    rw [← hk] at st ⊢
    have e : setSeg (hashC vs bk (hv : Nat) (UInt64.ofNat (L ++ x).length)) (0 + 8 + hv * 1) ((bs z).take (k * 1)) = hashC vs (spl bk hv (z.take k)) (hv : Nat) (UInt64.ofNat (L ++ x).length) := by
      rw [show (bs z).take (k * 1) = bs (z.take k) by rw [Nat.mul_one, bs, bs, List.map_take], show 0 + 8 + hv * 1 = 8 + hv * 1 by omega, setSeg_hash (by rw [hzt]; omega)]
    change St _ _ _ _ _ [K.blk b (setSeg (hashC vs bk (hv : Nat) (UInt64.ofNat (L ++ x).length)) (0 + 8 + hv * 1) ((bs z).take (k * 1))) _] at st
    rw [e] at st
    have hsl : (spl bk hv (z.take k)).length = 64 := by rw [length_spl (by rw [hzt]; omega), hblen]
    refine wl_nil ⟨rfl, ?_⟩
    refine fl_eff1 10 [] [] (by kernel_rfl) ⟨obl_ld rfl rfl rfl (v_load rfl (by first | exact st.reads 0 rfl TF.t3 (getV_have hst.len) | exact st.reads 0 rfl TF.t3 (getV_have hsl))), trivial⟩ rfl ?_
    refine wl_val (v_assign' (by conv => (lhs; whnf))) rfl ?_
    refine wl_nil ⟨rfl, ?_⟩
    refine fl_nil (by kernel_rfl) trivial ?_
    refine then_go ?_
    refine wc_seq ?_
    refine wc_draw TF.mixed ?_
    have st := st.pure (touch_drew _)
    refine fl_val 0 rfl (fun _ => (v_move' (by conv => (lhs; whnf)))) rfl (by kernel_rfl) ?_
    refine fl_val 1 rfl (fun _ => (v_move' (by conv => (lhs; whnf)))) rfl (by kernel_rfl) ?_
    refine fl_val 2 rfl (fun _ => (v_nil rfl)) rfl (by kernel_rfl) ?_
    refine fl_val 3 rfl (fun _ => (v_fa TF.f145_2 rfl)) rfl (by kernel_rfl) ?_
    refine fl_ld 4 rfl (v_load rfl (st.reads 0 rfl TF.t3 (getV_have hsl))) (by kernel_rfl) ?_
    refine fl_val 5 rfl (fun _ => (v_move' (by conv => (lhs; whnf)))) rfl (by kernel_rfl) ?_
    refine fl_val 6 rfl (fun _ => (v_add' (c := ((hv + k : Nat) : Int)) rfl rfl (by omega) (by omega) (by omega))) rfl (by kernel_rfl) ?_
    refine fl_val 7 rfl (fun _ => (v_move' (by conv => (lhs; whnf)))) rfl (by kernel_rfl) ?_
    refine fl_val 8 rfl (fun _ => (v_move' (by conv => (lhs; whnf)))) rfl (by kernel_rfl) ?_
    refine fl_val 9 rfl (fun _ => (v_slice_s (l := k) (h := z.length) Try.underlying41 TF.t5 rfl ⟨_, _, rfl, rfl⟩ rfl hk1 hzk)) rfl (by kernel_rfl) ?_
    refine fl_val 10 rfl (fun _ => (v_nil rfl)) rfl (by kernel_rfl) ?_
    refine fl_val 11 rfl (fun _ => (v_fa TF.f145_2 rfl)) rfl (by kernel_rfl) ?_
    refine fl_eff1 12 [10, 9, 8, 7] [] (by kernel_rfl) ⟨obl_ld rfl rfl rfl (v_load rfl (st.reads 0 rfl TF.t3 (getV_have hsl))), trivial⟩ rfl ?_
    refine wl_store1 (v := .int .i64 ((hv + k : Nat) : Int)) 0 st rfl TF.t3 rfl rfl rfl (by rw [size_hashC hsl]; omega) ?_
    intro w st
    have e3 := set_have (v := vs) (bk := spl bk hv (z.take k)) (hv := (hv : Nat)) (x := ((hv + k : Nat) : Int)) (n := UInt64.ofNat (L ++ x).length) hsl
    change St _ _ _ _ _ [K.blk b ((hashC vs (spl bk hv (z.take k)) (hv : Nat) (UInt64.ofNat (L ++ x).length)).setIfInBounds (0 + 72) (.int .i64 ((hv + k : Nat) : Int))) _] at st
    rw [e3] at st
    have hz2 := hz0.subB k z.length hk1 (Nat.le_refl _)
    have hzd : (z.drop k).take (z.length - k) = z.drop k := List.take_of_length_le (by simp)
    rw [hzd, show z.length - k = (z.drop k).length by simp] at hz2
    rw [show z.length - k = (z.drop k).length by simp]
    refine wl_nil ⟨rfl, ?_⟩
    refine fl_eff1 13 [] [] (by kernel_rfl) trivial rfl ?_
    refine wl_val (v_assign' (by conv => (lhs; whnf))) rfl ?_
    refine wl_nil ⟨rfl, ?_⟩
    refine fl_nil (by kernel_rfl) trivial ?_
    refine then_go ?_
    refine wc_seq ?_
    refine wc_region ?_
    refine wl_val (v_move' (by conv => (lhs; whnf))) rfl ?_
    refine wl_val (v_nil rfl) rfl ?_
    refine wl_val (v_fa TF.f145_2 rfl) rfl ?_
    refine wl_val (v_load rfl (st.reads 0 rfl TF.t3 (getV_have hsl))) rfl ?_
    refine wl_val (v_eql rfl rfl) rfl ?_
    refine wl_nil ?_
    refine then_go ?_
    refine wc_if rfl (fun h44 => ?_) (fun h44 => ?_)
    · refine wc_region ?_
      refine wl_val (v_move' (by conv => (lhs; whnf))) rfl ?_
      refine wl_call rfl (c_mix st.im (st.at (i := 0) rfl) (st.none (i := 0) rfl b (by simp [K.blk])) hsl) rfl ?_
      rintro v46 w ⟨t, hE2⟩
      have st := st.step 0 rfl t hE2
      change St _ _ _ _ _ [K.blk b (hashC (comp vs (spl bk hv (z.take k))) (spl bk hv (z.take k)) ((0 : Nat) : Int) (UInt64.ofNat (L ++ x).length)) _] at st
      refine wl_nil ?_
      refine block_go (then_go ?_)
      have hw := hst.whole (y := z.take k) (by rw [hzt]; omega)
      rw [List.append_assoc] at hw
      exact ⟨(z.drop k).length, by simp; omega, y ++ z.take k, z.drop k, _, _, 0, _, by rw [List.append_assoc, List.take_append_drop, hxyz], rfl, rfl, rfl, hz2, hw, st⟩
    · refine wc_skip ?_
      refine block_go (then_go ?_)
      have hw := hst.part (y := z.take k) (by rw [hzt]; omega)
      rw [List.append_assoc, hzt] at hw
      exact ⟨(z.drop k).length, by simp; omega, y ++ z.take k, z.drop k, _, _, _, _, by rw [List.append_assoc, List.take_append_drop, hxyz], rfl, rfl, rfl, hz2, hw, st⟩
  · refine wc_exit (then_exit (then_exit (block_hit ?_)))
    have hz0l : z = [] := List.eq_nil_of_length_eq_zero (by omega)
    have hxy : x = y := by rw [hxyz, hz0l, List.append_nil]
    rw [← hxy] at hst
    exact end0 ⟨_, st.touch, st.at (i := 0) rfl, vs, bk, hv, rfl, hst⟩
end
end Go.Proofs.Ytjjpakjgppmmdaa

/-
  SHA-256: the program's New, Clone, Digest and Sum.
-/
namespace Go.Proofs.Ytjjpakjgppmmdaa
open Go Go.RowKit K SH

namespace SH
theorem one_hashC {v : V8} {bk : List UInt8} {hv : Int} {n : UInt64} : ∀ u ∈ (hashC v bk hv n).toList, u.oneCell' = true := by
  intro u hu
  simp only [hashC, List.mem_append, List.mem_cons, List.not_mem_nil, or_false] at hu
  rcases hu with (h | h) | h | h
  · exact one_ws _ u h
  · exact one_bs _ u h
  · rw [h]; rfl
  · rw [h]; rfl

theorem hashAt_nil : HashAt [] (hashC h0 (List.replicate 64 0) 0 0) := ⟨h0, _, 0, rfl, ⟨rfl, rfl, by simp, rfl⟩⟩
end SH

section
variable {m : Mem} {wI : World}

theorem c_hnew (him : Im m wI) : Ret Try.prog 102 #[] wI fun v w' => ∃ b c, v = .pointer (some ⟨b, 0, none⟩) ∧ Tch wI w' [] [b] ∧ (K.blk b c 145).holds w' ∧ HashAt [] c := by
  have st := St.start him
  refine ret_of Try.call102 Try.func102 rfl Try.ntmps102 Try.results102 rfl ?_
  refine wc_seq ?_
  refine wc_region ?_
  refine wl_val (v_assign' (by conv => (lhs; whnf))) rfl ?_
  refine wl_nil ?_
  refine then_go ?_
  refine wc_seq ?_
  refine wc_region ?_
  refine wl_val (v_build_fill (c' := (ws h0.l).toArray) [(0, u32 1779033703), (1, u32 3144134277), (2, u32 1013904242), (3, u32 2773480762), (4, u32 1359893119), (5, u32 2600822924), (6, u32 528734635), (7, u32 1541459225)] TF.z128 Try.underlying128 TF.t127 rfl (fill8 _ _ _ _ _ _ _ _)) rfl ?_
  refine wl_val (v_build (c' := hashC h0 (List.replicate 64 0) 0 0) [(0, arr32 h0.l)] TF.z145 TF.p145 rfl (fill_one [] (List.replicate 8 (u32 0)) (List.replicate 64 (u8 0) ++ [.int .i64 0, u64 0]) rfl rfl rfl rfl)) rfl ?_
  refine wl_box (v := .agg (hashC h0 (List.replicate 64 0) 0 0)) rfl st rfl ?_
  intro b w st
  refine wl_val (v_assign' (by conv => (lhs; whnf))) rfl ?_
  refine wl_nil ?_
  refine then_go ?_
  refine wc_ret ?_
  have hf := (St.finish (Es := []) (l := [_]) st).1
  exact ret1 rfl ⟨b, _, rfl, ⟨hf.os, hf.tape, hf.output, hf.size, hf.block, fun k hk => hf.out k (by simpa [joinE, K.blk] using hk)⟩, st.at (i := 0) rfl, hashAt_nil⟩

theorem c_hclone {b : Nat} {v : V8} {bk : List UInt8} {hv : Int} {n : UInt64} {t : TypeId} {fr : Nat × Nat} (him : Im m wI) (hm : m b = some (.cells (hashC v bk hv n) t fr)) (hl : bk.length = 64) :
    Ret Try.prog 113 #[.pointer (some ⟨b, 0, none⟩)] wI fun v' w' => ∃ b', v' = .pointer (some ⟨b', 0, none⟩) ∧ Tch wI w' [] [b'] ∧ (K.blk b' (hashC v bk hv n) 145).holds w' := by
  have st := St.start him
  refine ret_of Try.call113 Try.func113 rfl Try.ntmps113 Try.results113 rfl ?_
  refine wc_seq ?_
  refine wc_region ?_
  refine wl_val (v_assign' (by conv => (lhs; whnf))) rfl ?_
  refine wl_nil ?_
  refine then_go ?_
  refine wc_seq ?_
  refine wc_region ?_
  refine wl_val (v_move' (by conv => (lhs; whnf))) rfl ?_
  refine wl_val (v_nil rfl) rfl ?_
  refine wl_val (v_load rfl (st.readm hm TF.t145 (getV_all (size_hashC hl)))) rfl ?_
  refine wl_alloc TF.z145 st rfl ?_
  intro b3 w st
  refine wl_storeW (cs := hashC v bk hv n) 0 st rfl TF.t145 rfl rfl (size_hashC hl) rfl one_hashC ?_
  intro w st
  refine wl_nil ?_
  refine then_go ?_
  refine wc_seq ?_
  refine wc_region ?_
  refine wl_val (v_assign' (by conv => (lhs; whnf))) rfl ?_
  refine wl_nil ?_
  refine then_go ?_
  refine wc_ret ?_
  have hf := (St.finish (Es := []) (l := [_]) st).1
  exact ret1 rfl ⟨b3, rfl, ⟨hf.os, hf.tape, hf.output, hf.size, hf.block, fun k hk => hf.out k (by simpa [joinE, K.blk] using hk)⟩, st.at (i := 0) rfl⟩

theorem c_hdigest {b : Nat} {L : List UInt8} {c : Array Value} {t : TypeId} {fr : Nat × Nat} (him : Im m wI) (hm : m b = some (.cells c t fr)) (hH : HashAt L c) (hL : L.length ≤ 1099511627776) :
    Ret Try.prog 104 #[.pointer (some ⟨b, 0, none⟩)] wI fun v w' => Tch wI w' [] [] ∧ v = arr (sum L) := by
  have st := St.start him
  obtain ⟨vs, bk, hv, rfl, hst⟩ := hH
  have hfl := full_le L
  have hfm := full_mod L (by omega)
  refine ret_of Try.call104 Try.func104 rfl Try.ntmps104 Try.results104 rfl ?_
  refine wc_seq ?_
  refine wc_region ?_
  refine wl_alloc TF.z23 st rfl ?_
  intro b2 w st
  refine wl_nil ?_
  refine then_go ?_
  refine wc_seq ?_
  refine wc_region ?_
  refine wl_val (v_move' (by conv => (lhs; whnf))) rfl ?_
  refine wl_call rfl (c_hclone st.im hm hst.len) rfl ?_
  rintro v9 w ⟨b3, rfl, t, hE⟩
  have st := st.new (E := K.blk b3 _ _) t hE
  refine wl_val (v_assign' (by conv => (lhs; whnf))) rfl ?_
  refine wl_nil ?_
  refine then_go ?_
  refine wc_seq ?_
  refine wc_region ?_
  refine wl_val (v_move' (by conv => (lhs; whnf))) rfl ?_
  refine wl_val (v_move' (by conv => (lhs; whnf))) rfl ?_
  refine wl_val (v_nil rfl) rfl ?_
  refine wl_val (v_fa TF.f145_3 rfl) rfl ?_
  refine wl_val (v_load rfl (st.readm hm TF.t24 (getV_bytes hst.len))) rfl ?_
  refine wl_call rfl (c_pad st.im) rfl ?_
  rintro v15 w ⟨t, m1, hg1, hi1, hp⟩
  have st := st.grown hg1 t hi1
  refine wl_call rfl (c_hwrite (L := L) st.im (st.at (i := 0) rfl) (st.none (i := 0) rfl b3 (by simp [K.blk])) ⟨vs, bk, hv, rfl, hst⟩ hp (by rw [length_pad]; have := zs_lt (UInt64.ofNat L.length).toNat; omega)) rfl ?_
  rintro v16 w ⟨c2, t, hE2, hH2⟩
  have st := st.step 0 rfl t hE2
  rw [show L ++ pad (UInt64.ofNat L.length) = full L from rfl] at hH2
  obtain ⟨v2, bk2, hv2, rfl, hst2⟩ := hH2
  have hsum : sum L = dig v2 := by rw [hst2.st]; rfl
  change St _ _ _ _ _ [K.blk b3 (hashC v2 bk2 (hv2 : Nat) (UInt64.ofNat (full L).length)) _, _] at st
  refine wl_nil ?_
  refine then_go ?_
  refine wc_seq ?_
  refine wc_region ?_
  refine wl_alloc TF.z23 st rfl ?_
  intro b4 w st
  refine wl_nil ?_
  refine then_go ?_
  refine wc_seq ?_
  refine wc_seq ?_
  refine wc_region ?_
  refine wl_val (v_move' (by conv => (lhs; whnf))) rfl ?_
  refine wl_val (v_nil rfl) rfl ?_
  refine wl_val (v_fa TF.f145_0 rfl) rfl ?_
  refine wl_val (v_load rfl (st.reads 1 rfl TF.t128 (getV_state ..))) rfl ?_
  refine wl_val (v_move' (by conv => (lhs; whnf))) rfl ?_
  refine wl_nil ?_
  refine then_go ?_
  refine wc_block ?_
  refine wc_loop (S := Nat) (fun q r w' => ∃ i, q + i = 8 ∧ r 2 = .pointer (some ⟨b2, 0, none⟩) ∧ r 4 = .pointer (some ⟨b4, 0, none⟩) ∧ r 20 = arr32 v2.l ∧ r 21 = .int .i64 i ∧
    St m m1 [] wI w' [K.blk b4 (bs ((List.range (4 * i)).map (digB v2)) ++ List.replicate (32 - 4 * i) (u8 0)).toArray 23, K.blk b3 (hashC v2 bk2 (hv2 : Nat) (UInt64.ofNat (full L).length)) 145, K.blk b2 (Array.replicate 32 (u8 0)) 23]) id 8 ⟨0, rfl, rfl, rfl, rfl, rfl, st⟩ ?_
  rintro q r w2 ⟨i, hqi, h2, h4, h20, h21, st⟩
  refine wc_o 2 h2 (wc_o 4 h4 (wc_o 20 h20 (wc_o 21 h21 ?_)))
  refine wc_seq ?_
  refine wc_region ?_
  refine wl_val (v_lss rfl rfl) rfl ?_
  refine wl_nil ?_
  refine then_go ?_
  refine wc_seq ?_
  refine wc_if rfl (fun h22 => ?_) (fun h22 => ?_)
  · refine wc_skip ?_
    refine then_go ?_
    refine wc_seq ?_
    refine wc_block ?_
    refine wc_seq ?_
    have hi : i < 8 := by omega
    refine wc_region ?_
    refine wl_val (v_move' (by conv => (lhs; whnf))) rfl ?_
    refine wl_val (v_index_a (v := u32 (v2.l.getD i 0)) Try.underlying128 TF.t127 rfl rfl (by omega) (by omega) (getV_wse (j := i) (by simp) (by rw [length_l]; omega))) rfl ?_
    refine wl_val (v_assign' (by conv => (lhs; whnf))) rfl ?_
    refine wl_val (v_assign' (by conv => (lhs; whnf))) rfl ?_
    refine wl_nil ?_
    refine then_go ?_
    refine wc_seq ?_
    refine wc_region ?_
    refine wl_val (v_move' (by conv => (lhs; whnf))) rfl ?_
    refine wl_nil ?_
    refine then_go ?_
    refine wc_block ?_
    refine wc_loop (S := Nat) (fun q r w' => ∃ k, q + k = 4 ∧ r 2 = .pointer (some ⟨b2, 0, none⟩) ∧ r 4 = .pointer (some ⟨b4, 0, none⟩) ∧ r 5 = .int .i64 i ∧ r 6 = u32 (v2.l.getD i 0) ∧ r 20 = arr32 v2.l ∧ r 21 = .int .i64 i ∧ r 25 = .int .i64 k ∧
      St m m1 [] wI w' [K.blk b4 (bs ((List.range (4 * i + k)).map (digB v2)) ++ List.replicate (32 - (4 * i + k)) (u8 0)).toArray 23, K.blk b3 (hashC v2 bk2 (hv2 : Nat) (UInt64.ofNat (full L).length)) 145, K.blk b2 (Array.replicate 32 (u8 0)) 23]) id 4 ⟨0, rfl, rfl, rfl, rfl, rfl, rfl, rfl, rfl, st⟩ ?_
    rintro q2 r w3 ⟨k, hqk, h2, h4, h5, h6, h20, h21, h25, st⟩
    refine wc_o 2 h2 (wc_o 4 h4 (wc_o 5 h5 (wc_o 6 h6 (wc_o 20 h20 (wc_o 21 h21 (wc_o 25 h25 ?_))))))
    refine wc_seq ?_
    refine wc_region ?_
    refine wl_val (v_lss rfl rfl) rfl ?_
    refine wl_nil ?_
    refine then_go ?_
    refine wc_seq ?_
    refine wc_if rfl (fun h26 => ?_) (fun h26 => ?_)
    · refine wc_skip ?_
      refine then_go ?_
      refine wc_seq ?_
      refine wc_block ?_
      refine wc_seq ?_
      have hk : k < 4 := by omega
      refine wc_region ?_
      refine wl_val (v_move' (by conv => (lhs; whnf))) rfl ?_
      refine wl_val (v_assign' (by conv => (lhs; whnf))) rfl ?_
      refine wl_nil ?_
      refine then_go ?_
      refine wc_region ?_
      refine wl_val (v_move' (by conv => (lhs; whnf))) rfl ?_
      refine wl_val (v_mul' (c := ((4 * i : Nat) : Int)) rfl rfl (by omega) (by omega) (by omega)) rfl ?_
      refine wl_val (v_move' (by conv => (lhs; whnf))) rfl ?_
      refine wl_val (v_add' (c := ((4 * i + k : Nat) : Int)) rfl rfl (by omega) (by omega) (by omega)) rfl ?_
      refine wl_val (v_move' (by conv => (lhs; whnf))) rfl ?_
      refine wl_val (v_move' (by conv => (lhs; whnf))) rfl ?_
      refine wl_val (v_mul' (c := ((8 * k : Nat) : Int)) rfl rfl (by omega) (by omega) (by omega)) rfl ?_
      refine wl_val (v_sub' (c := ((24 - 8 * k : Nat) : Int)) rfl rfl (by omega) (by omega) (by omega)) rfl ?_
      refine wl_val (v_shr32 (24 - 8 * k) rfl rfl (by first | omega | decide | (dsimp only at *; omega))) rfl ?_
      refine wl_val (v_conv32_8 Try.underlying127 Try.underlying5 rfl) rfl ?_
      refine wl_val (v_iaa (4 * i + k) Try.underlying23 TF.t5 rfl rfl (by first | rfl | omega) (by first | omega | (dsimp only at *; omega))) rfl ?_
      have hdb : UInt8.ofNat (shr32 (v2.l.getD i 0) (24 - 8 * k)).toNat = digB v2 (4 * i + k) := by
        unfold digB
        rw [show (4 * i + k) / 4 = i by omega, show (4 * i + k) % 4 = k by omega]
      refine wl_store1 (v := u8 (UInt8.ofNat (shr32 (v2.l.getD i 0) (24 - 8 * k)).toNat)) 0 st rfl TF.t5 rfl rfl rfl (by simp [bs]; omega) ?_
      intro w st
      refine wl_nil ?_
      refine block_go (then_go ?_)
      refine wc_region ?_
      refine wl_val (v_add' rfl rfl rfl (by first | omega | (dsimp only at *; omega)) (by first | omega | (dsimp only at *; omega))) rfl ?_
      refine wl_val (v_move' (by conv => (lhs; whnf))) rfl ?_
      refine wl_nil ?_
      refine then_go ?_
      refine ⟨q2 - 1, by simp; omega, k + 1, by omega, rfl, rfl, rfl, rfl, rfl, rfl, rfl, ?_⟩
      have e : (bs ((List.range (4 * i + k)).map (digB v2)) ++ List.replicate (32 - (4 * i + k)) (u8 0)).toArray.setIfInBounds (0 + (4 * i + k) * 1) (u8 (digB v2 (4 * i + k))) = (bs ((List.range (4 * i + (k + 1))).map (digB v2)) ++ List.replicate (32 - (4 * i + (k + 1))) (u8 0)).toArray := by
        rw [show 32 - (4 * i + k) = (32 - (4 * i + (k + 1))) + 1 by omega, List.replicate_succ, set_app (by simp [bs]), show 4 * i + (k + 1) = (4 * i + k) + 1 by omega, List.range_succ]
        simp [bs]
      rw [hdb] at st
      rw [← e]
      exact st
    · refine wc_exit (then_exit (then_exit (block_hit ?_)))
      refine block_go (then_go ?_)
      refine wc_region ?_
      refine wl_val (v_add' rfl rfl rfl (by first | omega | (dsimp only at *; omega)) (by first | omega | (dsimp only at *; omega))) rfl ?_
      refine wl_val (v_move' (by conv => (lhs; whnf))) rfl ?_
      refine wl_nil ?_
      refine then_go ?_
      have hk4 : k = 4 := by omega
      subst hk4
      refine ⟨q - 1, by simp; omega, i + 1, by omega, rfl, rfl, rfl, rfl, ?_⟩
      rw [show 4 * (i + 1) = 4 * i + 4 by omega]
      exact st
  · refine wc_exit (then_exit (then_exit (block_hit ?_)))
    refine then_go ?_
    refine wc_seq ?_
    have hi8 : i = 8 := by omega
    subst hi8
    have e : (bs ((List.range (4 * 8)).map (digB v2)) ++ List.replicate (32 - 4 * 8) (u8 0)).toArray = (bs (sum L)).toArray := by rw [hsum]; simp [dig]
    rw [e] at st
    refine wc_region ?_
    refine wl_val (v_load rfl (st.reads 0 rfl TF.t23 (getV_all (by simp [bs, length_sum])))) rfl ?_
    refine wl_storeW (cs := (bs (sum L)).toArray) 2 st rfl TF.t23 rfl rfl (by simp [bs, length_sum]) rfl (by simpa using one_bs _) ?_
    intro w st
    refine wl_nil ?_
    refine then_go ?_
    refine wc_ret ?_
    exact ret1c rfl (st.reads 2 rfl TF.t23 (getV_all (by simp [bs, length_sum]))) ⟨(st.keepOnly (l := []) (List.nil_sublist _)).touch, rfl⟩

theorem c_sum {bv : Value} {b : List UInt8} (him : Im m wI) (hb : SlM m bv 1 b.length (bs b)) (hl : b.length ≤ 1099511627776) :
    Ret Try.prog 91 #[bv] wI fun v w' => Tch wI w' [] [] ∧ v = arr (sum b) := by
  have st := St.start him
  refine ret_of Try.call91 Try.func91 rfl Try.ntmps91 Try.results91 rfl ?_
  refine wc_seq ?_
  refine wc_region ?_
  refine wl_alloc TF.z23 st rfl ?_
  intro b2 w st
  refine wl_nil ?_
  refine then_go ?_
  refine wc_seq ?_
  refine wc_region ?_
  refine wl_call rfl (c_hnew st.im) rfl ?_
  rintro v4 w ⟨b3, c3, rfl, t, hE, hH⟩
  have st := st.new (E := K.blk b3 c3 _) t hE
  refine wl_val (v_assign' (by conv => (lhs; whnf))) rfl ?_
  refine wl_nil ?_
  refine then_go ?_
  refine wc_seq ?_
  refine wc_region ?_
  refine wl_val (v_move' (by conv => (lhs; whnf))) rfl ?_
  refine wl_val (v_move' (by conv => (lhs; whnf))) rfl ?_
  refine wl_call rfl (c_hwrite st.im (st.at (i := 0) rfl) (st.none (i := 0) rfl b3 (by simp [K.blk])) hH hb (by simp; omega)) rfl ?_
  rintro v7 w ⟨c4, t, hE4, hH4⟩
  have st := st.step 0 rfl t hE4
  rw [List.nil_append] at hH4
  change St _ _ _ _ _ [K.blk b3 c4 _, _] at st
  refine wl_nil ?_
  refine then_go ?_
  refine wc_seq ?_
  refine wc_region ?_
  refine wl_val (v_move' (by conv => (lhs; whnf))) rfl ?_
  obtain ⟨ml, himl, _, hbl, _⟩ := st.lend (i := 0) rfl
  refine wl_call rfl (c_hdigest himl hbl hH4 hl) rfl ?_
  rintro v9 w ⟨t, rfl⟩
  have st := st.pure t
  refine wl_storeW (cs := (bs (sum b)).toArray) 1 st rfl TF.t23 rfl rfl (by simp [bs, length_sum]) rfl (by simpa using one_bs _) ?_
  intro w st
  refine wl_nil ?_
  refine then_go ?_
  refine wc_ret ?_
  exact ret1c rfl (st.reads 1 rfl TF.t23 (getV_all (by simp [bs, length_sum]))) ⟨(st.keepOnly (l := []) (List.nil_sublist _)).touch, rfl⟩
end
end Go.Proofs.Ytjjpakjgppmmdaa

/-
  What is hashed for what: the program's tags and the reference's.
-/
namespace Go.Proofs.Ytjjpakjgppmmdaa
open Go Go.RowKit K SH

theorem K.SlM.narrow {m : Mem} {a : Option Addr} {k cap size : Nat} {xs : List Value} (h : SlM m (.slice a k cap) size k xs) : SlM m (.slice a k k) size k xs := by
  obtain ⟨h1, a', c', he, h3, h4, h5⟩ := h
  cases he
  exact ⟨h1, a, k, rfl, Nat.le_refl _, fun e => by have := h4 e; omega, h5⟩

/-- Pieces: a list of texts, each with its slice. -/
def PcsM (m : Mem) (v : Value) (L : List (List UInt8 × Value)) : Prop := SlM m v 1 L.length (L.map (·.2)) ∧ ∀ x ∈ L, SlM m x.2 1 x.1.length (bs x.1)

theorem PcsM.mono {m m' : Mem} {v : Value} {L : List (List UInt8 × Value)} (h : PcsM m v L) (hm : ∀ k o, m k = some o → m' k = some o) : PcsM m' v L := ⟨h.1.mono hm, fun x hx => (h.2 x hx).mono hm⟩

def joinB (L : List (List UInt8 × Value)) : List UInt8 := L.flatMap (·.1)

theorem PcsM.elem {m : Mem} {v : Value} {L : List (List UInt8 × Value)} (h : PcsM m v L) {i : Nat} (hi : i < L.length) :
    ∃ b o cap, v = .slice (some ⟨b, o, none⟩) L.length cap ∧ SlM m L[i].2 1 L[i].1.length (bs L[i].1) ∧ ∀ {w : World} (_ : Im m w), Reads Try.prog w 41 ⟨b, o + i * 1, none⟩ L[i].2 := by
  obtain ⟨b, o, cap, hv, _, hr⟩ := h.1.elem Try.prog (i := i) hi (by omega)
  refine ⟨b, o, cap, hv, h.2 _ (List.getElem_mem _), fun {w} him => ?_⟩
  have := hr him (off := 0) (v' := L[i].2) TF.t41 (by
    have e : cellsAt (L.map (·.2)) 1 i = [L[i].2] := by simp [cellsAt, List.drop_eq_getElem_cons, hi]
    rw [e]
    rfl)
  simpa using this

theorem joinB_take {L : List (List UInt8 × Value)} {i : Nat} (hi : i < L.length) : joinB (L.take (i + 1)) = joinB (L.take i) ++ L[i].1 := by
  unfold joinB
  rw [List.take_succ_eq_append_getElem hi, List.flatMap_append]
  simp only [List.flatMap_cons, List.flatMap_nil, List.append_nil]

theorem joinB_le {L : List (List UInt8 × Value)} (i : Nat) : (joinB (L.take i)).length ≤ (joinB L).length := by
  have e : joinB L = joinB (L.take i) ++ joinB (L.drop i) := by
    unfold joinB
    rw [← List.flatMap_append, List.take_append_drop]
  rw [e, List.length_append]
  omega

section
variable {m : Mem} {wI : World}

theorem c_begin {c : UInt8} {pv : Value} {L : List (List UInt8 × Value)} (him : Im m wI) (hp : PcsM m pv L) (hb : (joinB L).length ≤ 1099511627776) (hLl : L.length ≤ 1099511627776) :
    Ret Try.prog 86 #[u8 c, pv] wI fun v w' => Out m wI w' fun m' => SlM m' v 1 (c :: joinB L).length (bs (c :: joinB L)) := by
  have st := St.start him
  have hp0 := hp
  obtain ⟨⟨_, pa, pc, rfl, _⟩, _⟩ := hp
  refine ret_of Try.call86 Try.func86 rfl Try.ntmps86 Try.results86 rfl ?_
  refine wc_seq ?_
  refine wc_region ?_
  refine wl_val (v_assign' (by conv => (lhs; whnf))) rfl ?_
  refine wl_nil ?_
  refine then_go ?_
  refine wc_seq ?_
  refine wc_region ?_
  refine wl_val (v_move' (by conv => (lhs; whnf))) rfl ?_
  refine wl_byte1 c Try.underlying41 TF.t5 TF.z5 rfl st rfl ?_
  intro b9 w st
  refine wl_val (v_assign' (by conv => (lhs; whnf))) rfl ?_
  refine wl_nil ?_
  obtain ⟨m1, hg1, hm1, st⟩ := st.freeze (i := 0) rfl (by simp)
  change St _ _ _ _ _ [] at st
  have hs1 : SlM m1 (.slice (some ⟨b9, 0, none⟩) 1 1) 1 (c :: joinB (L.take 0)).length (bs (c :: joinB (L.take 0))) := SlM.ofBlock (pre := []) (post := []) hm1 (by simp [joinB]) rfl (Nat.le_refl _)
  refine then_go ?_
  refine wc_seq ?_
  refine wc_seq ?_
  refine wc_region ?_
  refine wl_val (v_move' (by conv => (lhs; whnf))) rfl ?_
  refine wl_val (v_len_s Try.underlying102 rfl) rfl ?_
  refine wl_val (v_move' (by conv => (lhs; whnf))) rfl ?_
  refine wl_nil ?_
  refine then_go ?_
  refine wc_block ?_
  refine wc_loop (S := Nat) (fun q r w' => ∃ i m' v, q + i = L.length ∧ r 5 = v ∧ r 10 = .slice pa L.length pc ∧ r 11 = .int .i64 L.length ∧ r 12 = .int .i64 i ∧ (∀ k o, m k = some o → m' k = some o) ∧ SlM m' v 1 (c :: joinB (L.take i)).length (bs (c :: joinB (L.take i))) ∧ St m m' [] wI w' []) id L.length ⟨0, m1, _, by omega, rfl, rfl, rfl, rfl, hg1.le, hs1, st⟩ ?_
  clear hs1 st
  rintro q r w2 ⟨i, m', v, hqi, h5, h10, h11, h12, hmm, hs, st⟩
  have hs0 := hs
  obtain ⟨_, sa, sc, rfl, hsk, _⟩ := hs
  refine wc_o 5 h5 (wc_o 10 h10 (wc_o 11 h11 (wc_o 12 h12 ?_)))
  refine wc_seq ?_
  refine wc_region ?_
  refine wl_val (v_lss rfl rfl) rfl ?_
  refine wl_nil ?_
  refine then_go ?_
  refine wc_seq ?_
  refine wc_if rfl (fun h13 => ?_) (fun h13 => ?_)
  · refine wc_skip ?_
    refine then_go ?_
    refine wc_seq ?_
    refine wc_block ?_
    refine wc_seq ?_
    have hi : i < L.length := by omega
    have hjl := joinB_le (L := L) i
    have hjl2 := joinB_le (L := L) (i + 1)
    obtain ⟨lb, lo, lcap, hlv, hel, hrd⟩ := (hp0.mono hmm).elem hi
    simp only [Value.slice.injEq] at hlv
    obtain ⟨hpa, _, _⟩ := hlv
    rw [hpa]
    rw [joinB_take hi, List.length_append] at hjl2
    refine wc_region ?_
    refine wl_val (v_ias i Try.underlying102 TF.t41 rfl rfl (by first | rfl | omega) (by first | omega | (dsimp only at *; omega))) rfl ?_
    refine wl_val (v_load rfl (hrd st.im)) rfl ?_
    refine wl_val (v_assign' (by conv => (lhs; whnf))) rfl ?_
    refine wl_nil ?_
    refine then_go ?_
    refine wc_region ?_
    refine wl_val (v_move' (by conv => (lhs; whnf))) rfl ?_
    refine wl_val (v_move' (by conv => (lhs; whnf))) rfl ?_
    refine wl_val (v_len_s Try.underlying41 rfl) rfl ?_
    refine wl_val (v_move' (by conv => (lhs; whnf))) rfl ?_
    refine wl_val (v_len_s Try.underlying41 rfl) rfl ?_
    refine wl_val (v_slice_full (h := (c :: joinB (L.take i)).length) Try.underlying41 TF.t5 rfl rfl rfl hsk) rfl ?_
    refine wl_val (v_move' (by conv => (lhs; whnf))) rfl ?_
    refine wl_appFull (l2 := L[i].1) st hs0.narrow Try.underlying41 TF.t5 TF.z5 rfl rfl (hel.src st.im (one_bs _)) (by rw [List.length_cons]; omega) (by rw [List.length_cons]; omega) rfl ?_
    intro m2 v23 w hle2 st hs2
    refine wl_val (v_assign' (by conv => (lhs; whnf))) rfl ?_
    refine wl_nil ?_
    refine block_go (then_go ?_)
    refine wc_region ?_
    refine wl_val (v_add' rfl rfl rfl (by first | omega | (dsimp only at *; omega)) (by first | omega | (dsimp only at *; omega))) rfl ?_
    refine wl_val (v_move' (by conv => (lhs; whnf))) rfl ?_
    refine wl_nil ?_
    refine then_go ?_
    refine ⟨q - 1, by simp; omega, i + 1, m2, v23, by omega, rfl, rfl, rfl, rfl, fun k o h => hle2 k o (hmm k o h), ?_, st⟩
    rw [joinB_take hi]
    exact hs2
  · refine wc_exit (then_exit (then_exit (block_hit ?_)))
    refine then_go ?_
    refine wc_seq ?_
    refine wc_region ?_
    refine wl_val (v_move' (by conv => (lhs; whnf))) rfl ?_
    refine wl_val (v_assign' (by conv => (lhs; whnf))) rfl ?_
    refine wl_nil ?_
    refine then_go ?_
    refine wc_ret ?_
    have hiL : i = L.length := by omega
    subst hiL
    rw [List.take_length] at hs0
    exact ret1 rfl (st.out (by rw [List.take_length]; exact hs0))
end
end Go.Proofs.Ytjjpakjgppmmdaa

/-
  What is hashed for a leaf, a node, nothing: the program's bytes and the reference's.
-/
namespace Go.Proofs.Ytjjpakjgppmmdaa
open Go Go.RowKit K SH

section
variable {P : Program} {n : Nat} {ops : Array Oper} {Q : Po} {rest : List Oper} {r : Fr} {w : World} {d : Nat} {ty : TypeId} {pos : String} {after : Array Edge} {m0 m : Mem} {F : List Nat} {w0 : World} {Es : List Ent}

/-- Two pieces. -/
theorem wl_pcs2 {x y : Operand} {v1 v2 : Value} {l1 l2 : List UInt8} (st : St m0 m [] w0 w Es) (hx : ev r x = v1) (hy : ev r y = v2) (h1 : SlM m v1 1 l1.length (bs l1)) (h2 : SlM m v2 1 l2.length (bs l2)) (hd : Nat.blt d n = true)
    (kk : ∀ m' v' w', (∀ k o, m k = some o → m' k = some o) → St m0 m' [] w0 w' Es → PcsM m' v' [(l1, v1), (l2, v2)] → WL Try.prog n ops Q rest (upd d v' r) w') :
    WL Try.prog n ops Q (⟨some d, .buildSlice 102 2 #[(0, x), (1, y)], ty, pos, after, none⟩ :: rest) r w := by
  have o1 : v1.oneCell' = true := by obtain ⟨_, a, c, rfl, _⟩ := h1; rfl
  have o2 : v2.oneCell' = true := by obtain ⟨_, a, c, rfl, _⟩ := h2; rfl
  refine wl_buildSlice (c' := #[v1, v2]) [(0, v1), (1, v2)] Try.underlying102 TF.t41 TF.z41 (by decide) (by decide) (by simp [hx, hy]) (fill_one [] [.slice none 0 0] [.slice none 0 0] (by rw [show (Value.slice none 0 0).cells = Array.replicate (0 + 1) (Value.slice none 0 0) from rfl, madeCells_rep]; rfl) rfl (by rw [cells_one o1]; rfl) ?_) st hd ?_
  · rw [cells_one o1]
    refine fill_one [v1] [.slice none 0 0] [] rfl rfl (by rw [cells_one o2]; rfl) ?_
    rw [cells_one o2]
    rfl
  · intro b w' st'
    obtain ⟨m1, hg1, hm1, st1⟩ := st'.freeze (i := 0) rfl (by simp)
    refine kk m1 _ w' hg1.le st1 ⟨SlM.of hm1 (by simp) (Nat.le_refl _) (fun j u hj => by simpa using hj), ?_⟩
    intro z hz
    simp only [List.mem_cons, List.not_mem_nil, or_false] at hz
    rcases hz with rfl | rfl
    · exact h1.mono hg1.le
    · exact h2.mono hg1.le
end

section
variable {m : Mem} {wI : World}

theorem c_join {pv : Value} {L : List (List UInt8 × Value)} (him : Im m wI) (hp : PcsM m pv L) (hb : (joinB L).length ≤ 1099511627776) (hLl : L.length ≤ 1099511627776) :
    Ret Try.prog 89 #[pv] wI fun v w' => Out m wI w' fun m' => SlM m' v 1 (joinB L).length (bs (joinB L)) := by
  have st := St.start him
  have hp0 := hp
  obtain ⟨⟨_, pa, pc, rfl, _⟩, _⟩ := hp
  refine ret_of Try.call89 Try.func89 rfl Try.ntmps89 Try.results89 rfl ?_
  refine wc_seq ?_
  refine wc_region ?_
  refine wl_val (v_assign' (by conv => (lhs; whnf))) rfl ?_
  refine wl_nil ?_
  refine then_go ?_
  refine wc_seq ?_
  refine wc_region ?_
  refine wl_val (v_assign' (by conv => (lhs; whnf))) rfl ?_
  refine wl_nil ?_
  refine then_go ?_
  refine wc_seq ?_
  refine wc_seq ?_
  refine wc_region ?_
  refine wl_val (v_assign' (by conv => (lhs; whnf))) rfl ?_
  refine wl_nil ?_
  refine then_go ?_
  refine wc_block ?_
  have st := nilRow st 5 1
  change St _ _ _ _ _ [rowE _ _ 1 (joinB (L.take 0)).length (bs (joinB (L.take 0)))] at st
  refine wc_loop (S := Nat) (fun q r w' => ∃ i v, q + i = L.length ∧ r 0 = .slice pa L.length pc ∧ r 3 = v ∧ r 4 = .int .i64 i ∧ St m m [] wI w' [rowE v 5 1 (joinB (L.take i)).length (bs (joinB (L.take i)))]) id L.length ⟨0, _, by omega, rfl, rfl, rfl, st⟩ ?_
  rintro q r w2 ⟨i, v, hqi, h0, h3, h4, st⟩
  refine wc_o 0 h0 (wc_o 3 h3 (wc_o 4 h4 ?_))
  refine wc_seq ?_
  refine wc_seq ?_
  refine wc_region ?_
  refine wl_val (v_move' (by conv => (lhs; whnf))) rfl ?_
  refine wl_val (v_move' (by conv => (lhs; whnf))) rfl ?_
  refine wl_val (v_len_s Try.underlying102 rfl) rfl ?_
  refine wl_val (v_lss rfl rfl) rfl ?_
  refine wl_nil ?_
  refine then_go ?_
  refine wc_if rfl (fun h8 => ?_) (fun h8 => ?_)
  · refine wc_skip ?_
    refine then_go ?_
    refine wc_seq ?_
    refine wc_block ?_
    have hi : i < L.length := by omega
    have hjl2 := joinB_le (L := L) (i + 1)
    obtain ⟨lb, lo, lcap, hlv, hel, hrd⟩ := hp0.elem hi
    simp only [Value.slice.injEq] at hlv
    obtain ⟨hpa, _, _⟩ := hlv
    rw [hpa]
    rw [joinB_take hi, List.length_append] at hjl2
    refine wc_region ?_
    refine wl_val (v_move' (by conv => (lhs; whnf))) rfl ?_
    refine wl_val (v_move' (by conv => (lhs; whnf))) rfl ?_
    refine wl_val (v_move' (by conv => (lhs; whnf))) rfl ?_
    refine wl_val (v_ias i Try.underlying102 TF.t41 rfl rfl (by first | rfl | omega) (by first | omega | (dsimp only at *; omega))) rfl ?_
    refine wl_val (v_load rfl (hrd st.im)) rfl ?_
    refine wl_appB (l2 := L[i].1) st Try.underlying41 Try.underlying41 (.inr ⟨_, rfl⟩) TF.t5 TF.z5 rfl rfl (hel.src st.im (one_bs _)) (by omega) (by omega) rfl ?_
    intro v16 w st hv16
    refine wl_val (v_assign' (by conv => (lhs; whnf))) rfl ?_
    refine wl_nil ?_
    refine block_go (then_go ?_)
    refine wc_region ?_
    refine wl_val (v_move' (by conv => (lhs; whnf))) rfl ?_
    refine wl_val (v_add' rfl rfl rfl (by first | omega | (dsimp only at *; omega)) (by first | omega | (dsimp only at *; omega))) rfl ?_
    refine wl_val (v_assign' (by conv => (lhs; whnf))) rfl ?_
    refine wl_nil ?_
    refine then_go ?_
    refine ⟨q - 1, by simp; omega, i + 1, v16, by omega, rfl, rfl, rfl, ?_⟩
    rw [joinB_take hi]
    exact st
  · refine wc_exit (then_exit (then_exit (block_hit ?_)))
    refine then_go ?_
    refine wc_seq ?_
    refine wc_region ?_
    refine wl_val (v_move' (by conv => (lhs; whnf))) rfl ?_
    refine wl_val (v_assign' (by conv => (lhs; whnf))) rfl ?_
    refine wl_nil ?_
    refine then_go ?_
    refine wc_ret ?_
    have hiL : i = L.length := by omega
    subst hiL
    rw [List.take_length] at st
    exact ret1 rfl st.bytesOut

theorem c_sign {c : UInt8} {pv : Value} {L : List (List UInt8 × Value)} (him : Im m wI) (hp : PcsM m pv L) (hb : (joinB L).length ≤ 1000000000000) (hLl : L.length ≤ 1099511627776) :
    Ret Try.prog 64 #[u8 c, pv] wI fun v w' => Out m wI w' fun m' => SlM m' v 1 (c :: joinB L).length (bs (c :: joinB L)) := by
  have st := St.start him
  refine ret_of Try.call64 Try.func64 rfl Try.ntmps64 Try.results64 rfl ?_
  refine wc_seq ?_
  refine wc_region ?_
  refine wl_val (v_assign' (by conv => (lhs; whnf))) rfl ?_
  refine wl_nil ?_
  refine then_go ?_
  refine wc_seq ?_
  refine wc_region ?_
  refine wl_val (v_move' (by conv => (lhs; whnf))) rfl ?_
  refine wl_byte1 c Try.underlying41 TF.t5 TF.z5 rfl st rfl ?_
  intro b6 w st
  obtain ⟨m1, hg1, hm1, st⟩ := st.freeze (i := 0) rfl (by simp)
  change St _ _ _ _ _ [] at st
  have hs1 : SlM m1 (.slice (some ⟨b6, 0, none⟩) 1 1) 1 [c].length (bs [c]) := SlM.ofBlock (pre := []) (post := []) hm1 (by simp) rfl (Nat.le_refl _)
  refine wl_val (v_move' (by conv => (lhs; whnf))) rfl ?_
  refine wl_call rfl (c_join st.im (hp.mono hg1.le) (by omega) hLl) rfl ?_
  rintro v8 w ⟨t, m2, hg2, hi2, hs2⟩
  have st := st.grown hg2 t hi2
  refine wl_pcs2 st rfl rfl (hs1.mono hg2.le) hs2 rfl ?_
  intro m3 v9 w hle3 st hp3
  have hj : ∀ a b, joinB [([c], a), (joinB L, b)] = c :: joinB L := fun a b => by simp [joinB]
  refine wl_call rfl (c_join st.im hp3 (by rw [hj, List.length_cons]; omega) (by simp)) rfl ?_
  rintro v10 w ⟨t, m4, hg4, hi4, hs4⟩
  have st := st.grown hg4 t hi4
  rw [hj] at hs4
  refine wl_val (v_assign' (by conv => (lhs; whnf))) rfl ?_
  refine wl_nil ?_
  refine then_go ?_
  refine wc_ret ?_
  exact ret1 rfl (st.out hs4)

theorem c_leafb {x y : List UInt8} (him : Im m wI) (hx : x.length = 32) (hy : y.length = 32) :
    Ret Try.prog 96 #[arr x, arr y] wI fun v w' => Out m wI w' fun m' => SlM m' v 1 (76 :: (x ++ y)).length (bs (76 :: (x ++ y))) := by
  have st := St.start him
  refine ret_of Try.call96 Try.func96 rfl Try.ntmps96 Try.results96 rfl ?_
  refine wc_seq ?_
  refine wc_region ?_
  refine wl_box (v := arr x) rfl st rfl ?_
  intro b2 w st
  refine wl_box (v := arr y) rfl st rfl ?_
  intro b3 w st
  refine wl_val (v_assign' (by conv => (lhs; whnf))) rfl ?_
  refine wl_nil ?_
  obtain ⟨m1, hg1, hm1, st⟩ := st.freeze (i := 0) rfl (by simp)
  change St _ _ _ _ _ [_] at st
  obtain ⟨m2, hg2, hm2, st⟩ := st.freeze (i := 0) rfl (by simp)
  change St _ _ _ _ _ [] at st
  have hsx : SlM m2 (.slice (some ⟨b2, 0 + 0 * 1, none⟩) (32 - 0) (32 - 0)) 1 x.length (bs x) := by
    have := SlM.ofBlock (o := 0) (cap := 32) (l := x) (pre := []) (post := []) hm2 (by simp [arr, Value.cells]) rfl (by omega)
    rw [hx] at this ⊢
    exact this
  have hsy : SlM m2 (.slice (some ⟨b3, 0 + 0 * 1, none⟩) (32 - 0) (32 - 0)) 1 y.length (bs y) := by
    have := SlM.ofBlock (o := 0) (cap := 32) (l := y) (pre := []) (post := []) (hg2.le _ _ hm1) (by simp [arr, Value.cells]) rfl (by omega)
    rw [hy] at this ⊢
    exact this
  refine then_go ?_
  refine wc_seq ?_
  refine wc_draw TF.mixed ?_
  have st := st.pure (touch_drew _)
  refine fl_val 0 rfl (fun _ => (v_sla 0 32 Try.underlying23 TF.t5 rfl rfl rfl (by omega) (by omega) (by omega))) rfl (by kernel_rfl) ?_
  refine fl_val 1 rfl (fun _ => (v_sla 0 32 Try.underlying23 TF.t5 rfl rfl rfl (by omega) (by omega) (by omega))) rfl (by kernel_rfl) ?_
  refine fl_eff1 2 [] [] (by kernel_rfl) trivial rfl ?_
  refine wl_pcs2 st rfl rfl hsx hsy rfl ?_
  intro m3 v7 w hle3 st hp3
  refine wl_nil ⟨rfl, ?_⟩
  refine fl_eff1 3 [] [] (by kernel_rfl) trivial rfl ?_
  have hj : ∀ a b, joinB [(x, a), (y, b)] = x ++ y := fun a b => by simp [joinB]
  refine wl_call rfl (c_begin (c := 76) st.im hp3 (by rw [hj, List.length_append]; omega) (by simp)) rfl ?_
  rintro v8 w ⟨t, m4, hg4, hi4, hs4⟩
  have st := st.grown hg4 t hi4
  rw [hj] at hs4
  refine wl_nil ⟨rfl, ?_⟩
  refine fl_eff1 4 [] [] (by kernel_rfl) trivial rfl ?_
  refine wl_val (v_assign' (by conv => (lhs; whnf))) rfl ?_
  refine wl_nil ⟨rfl, ?_⟩
  refine fl_nil (by kernel_rfl) trivial ?_
  refine then_go ?_
  refine wc_ret ?_
  exact ret1 rfl (st.out hs4)

theorem c_nodeb {x y : List UInt8} (him : Im m wI) (hx : x.length = 32) (hy : y.length = 32) :
    Ret Try.prog 84 #[arr x, arr y] wI fun v w' => Out m wI w' fun m' => SlM m' v 1 (78 :: (x ++ y)).length (bs (78 :: (x ++ y))) := by
  have st := St.start him
  refine ret_of Try.call84 Try.func84 rfl Try.ntmps84 Try.results84 rfl ?_
  refine wc_seq ?_
  refine wc_region ?_
  refine wl_box (v := arr x) rfl st rfl ?_
  intro b2 w st
  refine wl_box (v := arr y) rfl st rfl ?_
  intro b3 w st
  refine wl_val (v_assign' (by conv => (lhs; whnf))) rfl ?_
  refine wl_nil ?_
  obtain ⟨m1, hg1, hm1, st⟩ := st.freeze (i := 0) rfl (by simp)
  change St _ _ _ _ _ [_] at st
  obtain ⟨m2, hg2, hm2, st⟩ := st.freeze (i := 0) rfl (by simp)
  change St _ _ _ _ _ [] at st
  have hsx : SlM m2 (.slice (some ⟨b2, 0 + 0 * 1, none⟩) (32 - 0) (32 - 0)) 1 x.length (bs x) := by
    have := SlM.ofBlock (o := 0) (cap := 32) (l := x) (pre := []) (post := []) hm2 (by simp [arr, Value.cells]) rfl (by omega)
    rw [hx] at this ⊢
    exact this
  have hsy : SlM m2 (.slice (some ⟨b3, 0 + 0 * 1, none⟩) (32 - 0) (32 - 0)) 1 y.length (bs y) := by
    have := SlM.ofBlock (o := 0) (cap := 32) (l := y) (pre := []) (post := []) (hg2.le _ _ hm1) (by simp [arr, Value.cells]) rfl (by omega)
    rw [hy] at this ⊢
    exact this
  refine then_go ?_
  refine wc_seq ?_
  refine wc_draw TF.mixed ?_
  have st := st.pure (touch_drew _)
  refine fl_val 0 rfl (fun _ => (v_sla 0 32 Try.underlying23 TF.t5 rfl rfl rfl (by omega) (by omega) (by omega))) rfl (by kernel_rfl) ?_
  refine fl_val 1 rfl (fun _ => (v_sla 0 32 Try.underlying23 TF.t5 rfl rfl rfl (by omega) (by omega) (by omega))) rfl (by kernel_rfl) ?_
  refine fl_eff1 2 [] [] (by kernel_rfl) trivial rfl ?_
  refine wl_pcs2 st rfl rfl hsx hsy rfl ?_
  intro m3 v7 w hle3 st hp3
  refine wl_nil ⟨rfl, ?_⟩
  refine fl_eff1 3 [] [] (by kernel_rfl) trivial rfl ?_
  have hj : ∀ a b, joinB [(x, a), (y, b)] = x ++ y := fun a b => by simp [joinB]
  refine wl_call rfl (c_begin (c := 78) st.im hp3 (by rw [hj, List.length_append]; omega) (by simp)) rfl ?_
  rintro v8 w ⟨t, m4, hg4, hi4, hs4⟩
  have st := st.grown hg4 t hi4
  rw [hj] at hs4
  refine wl_nil ⟨rfl, ?_⟩
  refine fl_eff1 4 [] [] (by kernel_rfl) trivial rfl ?_
  refine wl_val (v_assign' (by conv => (lhs; whnf))) rfl ?_
  refine wl_nil ⟨rfl, ?_⟩
  refine fl_nil (by kernel_rfl) trivial ?_
  refine then_go ?_
  refine wc_ret ?_
  exact ret1 rfl (st.out hs4)

theorem c_rleafb {x y : List UInt8} (him : Im m wI) (hx : x.length = 32) (hy : y.length = 32) :
    Ret Try.prog 106 #[arr x, arr y] wI fun v w' => Out m wI w' fun m' => SlM m' v 1 (76 :: (x ++ y)).length (bs (76 :: (x ++ y))) := by
  have st := St.start him
  refine ret_of Try.call106 Try.func106 rfl Try.ntmps106 Try.results106 rfl ?_
  refine wc_seq ?_
  refine wc_region ?_
  refine wl_box (v := arr x) rfl st rfl ?_
  intro b2 w st
  refine wl_box (v := arr y) rfl st rfl ?_
  intro b3 w st
  refine wl_val (v_assign' (by conv => (lhs; whnf))) rfl ?_
  refine wl_nil ?_
  obtain ⟨m1, hg1, hm1, st⟩ := st.freeze (i := 0) rfl (by simp)
  change St _ _ _ _ _ [_] at st
  obtain ⟨m2, hg2, hm2, st⟩ := st.freeze (i := 0) rfl (by simp)
  change St _ _ _ _ _ [] at st
  have hsx : SlM m2 (.slice (some ⟨b2, 0 + 0 * 1, none⟩) (32 - 0) (32 - 0)) 1 x.length (bs x) := by
    have := SlM.ofBlock (o := 0) (cap := 32) (l := x) (pre := []) (post := []) hm2 (by simp [arr, Value.cells]) rfl (by omega)
    rw [hx] at this ⊢
    exact this
  have hsy : SlM m2 (.slice (some ⟨b3, 0 + 0 * 1, none⟩) (32 - 0) (32 - 0)) 1 y.length (bs y) := by
    have := SlM.ofBlock (o := 0) (cap := 32) (l := y) (pre := []) (post := []) (hg2.le _ _ hm1) (by simp [arr, Value.cells]) rfl (by omega)
    rw [hy] at this ⊢
    exact this
  refine then_go ?_
  refine wc_seq ?_
  refine wc_draw TF.mixed ?_
  have st := st.pure (touch_drew _)
  refine fl_val 0 rfl (fun _ => (v_sla 0 32 Try.underlying23 TF.t5 rfl rfl rfl (by omega) (by omega) (by omega))) rfl (by kernel_rfl) ?_
  refine fl_val 1 rfl (fun _ => (v_sla 0 32 Try.underlying23 TF.t5 rfl rfl rfl (by omega) (by omega) (by omega))) rfl (by kernel_rfl) ?_
  refine fl_eff1 2 [] [] (by kernel_rfl) trivial rfl ?_
  refine wl_pcs2 st rfl rfl hsx hsy rfl ?_
  intro m3 v7 w hle3 st hp3
  refine wl_nil ⟨rfl, ?_⟩
  refine fl_eff1 3 [] [] (by kernel_rfl) trivial rfl ?_
  have hj : ∀ a b, joinB [(x, a), (y, b)] = x ++ y := fun a b => by simp [joinB]
  refine wl_call rfl (c_sign (c := 76) st.im hp3 (by rw [hj, List.length_append]; omega) (by simp)) rfl ?_
  rintro v8 w ⟨t, m4, hg4, hi4, hs4⟩
  have st := st.grown hg4 t hi4
  rw [hj] at hs4
  refine wl_nil ⟨rfl, ?_⟩
  refine fl_eff1 4 [] [] (by kernel_rfl) trivial rfl ?_
  refine wl_val (v_assign' (by conv => (lhs; whnf))) rfl ?_
  refine wl_nil ⟨rfl, ?_⟩
  refine fl_nil (by kernel_rfl) trivial ?_
  refine then_go ?_
  refine wc_ret ?_
  exact ret1 rfl (st.out hs4)

theorem c_rnodeb {x y : List UInt8} (him : Im m wI) (hx : x.length = 32) (hy : y.length = 32) :
    Ret Try.prog 107 #[arr x, arr y] wI fun v w' => Out m wI w' fun m' => SlM m' v 1 (78 :: (x ++ y)).length (bs (78 :: (x ++ y))) := by
  have st := St.start him
  refine ret_of Try.call107 Try.func107 rfl Try.ntmps107 Try.results107 rfl ?_
  refine wc_seq ?_
  refine wc_region ?_
  refine wl_box (v := arr x) rfl st rfl ?_
  intro b2 w st
  refine wl_box (v := arr y) rfl st rfl ?_
  intro b3 w st
  refine wl_val (v_assign' (by conv => (lhs; whnf))) rfl ?_
  refine wl_nil ?_
  obtain ⟨m1, hg1, hm1, st⟩ := st.freeze (i := 0) rfl (by simp)
  change St _ _ _ _ _ [_] at st
  obtain ⟨m2, hg2, hm2, st⟩ := st.freeze (i := 0) rfl (by simp)
  change St _ _ _ _ _ [] at st
  have hsx : SlM m2 (.slice (some ⟨b2, 0 + 0 * 1, none⟩) (32 - 0) (32 - 0)) 1 x.length (bs x) := by
    have := SlM.ofBlock (o := 0) (cap := 32) (l := x) (pre := []) (post := []) hm2 (by simp [arr, Value.cells]) rfl (by omega)
    rw [hx] at this ⊢
    exact this
  have hsy : SlM m2 (.slice (some ⟨b3, 0 + 0 * 1, none⟩) (32 - 0) (32 - 0)) 1 y.length (bs y) := by
    have := SlM.ofBlock (o := 0) (cap := 32) (l := y) (pre := []) (post := []) (hg2.le _ _ hm1) (by simp [arr, Value.cells]) rfl (by omega)
    rw [hy] at this ⊢
    exact this
  refine then_go ?_
  refine wc_seq ?_
  refine wc_draw TF.mixed ?_
  have st := st.pure (touch_drew _)
  refine fl_val 0 rfl (fun _ => (v_sla 0 32 Try.underlying23 TF.t5 rfl rfl rfl (by omega) (by omega) (by omega))) rfl (by kernel_rfl) ?_
  refine fl_val 1 rfl (fun _ => (v_sla 0 32 Try.underlying23 TF.t5 rfl rfl rfl (by omega) (by omega) (by omega))) rfl (by kernel_rfl) ?_
  refine fl_eff1 2 [] [] (by kernel_rfl) trivial rfl ?_
  refine wl_pcs2 st rfl rfl hsx hsy rfl ?_
  intro m3 v7 w hle3 st hp3
  refine wl_nil ⟨rfl, ?_⟩
  refine fl_eff1 3 [] [] (by kernel_rfl) trivial rfl ?_
  have hj : ∀ a b, joinB [(x, a), (y, b)] = x ++ y := fun a b => by simp [joinB]
  refine wl_call rfl (c_sign (c := 78) st.im hp3 (by rw [hj, List.length_append]; omega) (by simp)) rfl ?_
  rintro v8 w ⟨t, m4, hg4, hi4, hs4⟩
  have st := st.grown hg4 t hi4
  rw [hj] at hs4
  refine wl_nil ⟨rfl, ?_⟩
  refine fl_eff1 4 [] [] (by kernel_rfl) trivial rfl ?_
  refine wl_val (v_assign' (by conv => (lhs; whnf))) rfl ?_
  refine wl_nil ⟨rfl, ?_⟩
  refine fl_nil (by kernel_rfl) trivial ?_
  refine then_go ?_
  refine wc_ret ?_
  exact ret1 rfl (st.out hs4)

theorem c_emptyb (him : Im m wI) : Ret Try.prog 97 #[] wI fun v w' => Out m wI w' fun m' => SlM m' v 1 [(69 : UInt8)].length (bs [69]) := by
  have st := St.start him
  refine ret_of Try.call97 Try.func97 rfl Try.ntmps97 Try.results97 rfl ?_
  refine wc_seq ?_
  refine wc_region ?_
  refine wl_val (v_assign' (by conv => (lhs; whnf))) rfl ?_
  refine wl_nil ?_
  refine then_go ?_
  refine wc_seq ?_
  refine wc_region ?_
  refine wl_call rfl (c_begin (c := 69) (L := []) st.im ⟨SlM.nil, by simp⟩ (by simp [joinB]) (by simp)) rfl ?_
  rintro v1 w ⟨t, m2, hg2, hi2, hs2⟩
  have st := st.grown hg2 t hi2
  refine wl_val (v_assign' (by conv => (lhs; whnf))) rfl ?_
  refine wl_nil ?_
  refine then_go ?_
  refine wc_ret ?_
  exact ret1 rfl (st.out hs2)

theorem c_remptyb (him : Im m wI) : Ret Try.prog 66 #[] wI fun v w' => Out m wI w' fun m' => SlM m' v 1 [(69 : UInt8)].length (bs [69]) := by
  have st := St.start him
  refine ret_of Try.call66 Try.func66 rfl Try.ntmps66 Try.results66 rfl ?_
  refine wc_seq ?_
  refine wc_region ?_
  refine wl_val (v_assign' (by conv => (lhs; whnf))) rfl ?_
  refine wl_nil ?_
  refine then_go ?_
  refine wc_seq ?_
  refine wc_region ?_
  refine wl_byte1 69 Try.underlying41 TF.t5 TF.z5 rfl st rfl ?_
  intro b1 w st
  obtain ⟨m1, hg1, hm1, st⟩ := st.freeze (i := 0) rfl (by simp)
  change St _ _ _ _ _ [] at st
  have hs1 : SlM m1 (.slice (some ⟨b1, 0, none⟩) 1 1) 1 [(69 : UInt8)].length (bs [69]) := SlM.ofBlock (pre := []) (post := []) hm1 (by simp) rfl (Nat.le_refl _)
  refine wl_val (v_assign' (by conv => (lhs; whnf))) rfl ?_
  refine wl_nil ?_
  refine then_go ?_
  refine wc_ret ?_
  exact ret1 rfl (st.out hs1)

theorem c_tagsof {bv : Value} {b : List UInt8} (him : Im m wI) (hb : SlM m bv 1 b.length (bs b)) (hl : b.length ≤ 1099511627776) :
    Ret Try.prog 70 #[bv] wI fun v w' => Tch wI w' [] [] ∧ v = arr (sum b) := by
  have st := St.start him
  refine ret_of Try.call70 Try.func70 rfl Try.ntmps70 Try.results70 rfl ?_
  refine wc_seq ?_
  refine wc_region ?_
  refine wl_alloc TF.z23 st rfl ?_
  intro b2 w st
  refine wl_nil ?_
  refine then_go ?_
  refine wc_seq ?_
  refine wc_region ?_
  refine wl_val (v_move' (by conv => (lhs; whnf))) rfl ?_
  refine wl_call rfl (c_sum st.im hb hl) rfl ?_
  rintro v4 w ⟨t, rfl⟩
  have st := st.pure t
  refine wl_storeW (cs := (bs (sum b)).toArray) 0 st rfl TF.t23 rfl rfl (by simp [bs, length_sum]) rfl (by simpa using one_bs _) ?_
  intro w st
  refine wl_nil ?_
  refine then_go ?_
  refine wc_ret ?_
  exact ret1c rfl (st.reads 0 rfl TF.t23 (getV_all (by simp [bs, length_sum]))) ⟨(st.keepOnly (l := []) (List.nil_sublist _)).touch, rfl⟩

theorem c_ref3of {bv : Value} {b : List UInt8} (him : Im m wI) (hb : SlM m bv 1 b.length (bs b)) (hl : b.length ≤ 1099511627776) :
    Ret Try.prog 62 #[bv] wI fun v w' => Tch wI w' [] [] ∧ v = arr (sum b) := by
  have st := St.start him
  refine ret_of Try.call62 Try.func62 rfl Try.ntmps62 Try.results62 rfl ?_
  refine wc_seq ?_
  refine wc_region ?_
  refine wl_alloc TF.z23 st rfl ?_
  intro b2 w st
  refine wl_nil ?_
  refine then_go ?_
  refine wc_seq ?_
  refine wc_region ?_
  refine wl_val (v_move' (by conv => (lhs; whnf))) rfl ?_
  refine wl_call rfl (c_rsum st.im hb hl) rfl ?_
  rintro v4 w ⟨t, rfl⟩
  have st := st.pure t
  refine wl_storeW (cs := (bs (sum b)).toArray) 0 st rfl TF.t23 rfl rfl (by simp [bs, length_sum]) rfl (by simpa using one_bs _) ?_
  intro w st
  refine wl_nil ?_
  refine then_go ?_
  refine wc_ret ?_
  exact ret1c rfl (st.reads 0 rfl TF.t23 (getV_all (by simp [bs, length_sum]))) ⟨(st.keepOnly (l := []) (List.nil_sublist _)).touch, rfl⟩

theorem c_rempty (him : Im m wI) : Ret Try.prog 43 #[] wI fun v w' => Tch wI w' [] [] ∧ v = arr (sum [69]) := by
  have st := St.start him
  refine ret_of Try.call43 Try.func43 rfl Try.ntmps43 Try.results43 rfl ?_
  refine wc_seq ?_
  refine wc_region ?_
  refine wl_alloc TF.z23 st rfl ?_
  intro b0 w st
  refine wl_nil ?_
  refine then_go ?_
  refine wc_seq ?_
  refine wc_region ?_
  refine wl_call rfl (c_remptyb st.im) rfl ?_
  rintro v1 w ⟨t, m2, hg2, hi2, hs2⟩
  have st := st.grown hg2 t hi2
  refine wl_call rfl (c_ref3of st.im hs2 (by simp)) rfl ?_
  rintro v2 w ⟨t, rfl⟩
  have st := st.pure t
  refine wl_storeW (cs := (bs (sum [69])).toArray) 0 st rfl TF.t23 rfl rfl (by simp [bs, length_sum]) rfl (by simpa using one_bs _) ?_
  intro w st
  refine wl_nil ?_
  refine then_go ?_
  refine wc_ret ?_
  exact ret1c rfl (st.reads 0 rfl TF.t23 (getV_all (by simp [bs, length_sum]))) ⟨(st.keepOnly (l := []) (List.nil_sublist _)).touch, rfl⟩

end
end Go.Proofs.Ytjjpakjgppmmdaa
