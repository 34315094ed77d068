/-
  SHA-256: the program's Write.
-/
import Derived.Test.YtkbmhhbclbgdpaaSi
namespace Go.Proofs.Ytkbmhhbclbgdpaa
open Go Go.RowKit K SH

namespace SH
def spl (S : List UInt8) (o : Nat) (l : List UInt8) : List UInt8 := S.take o ++ l ++ S.drop (o + l.length)

theorem length_spl {S l : List UInt8} {o : Nat} (h : o + l.length ≤ S.length) : (spl S o l).length = S.length := by simp [spl]; omega

theorem hs_append (L y : List UInt8) : ∀ k, 64 * k ≤ L.length → hs (L ++ y) k = hs L k
  | 0, _ => rfl
  | k + 1, h => by
    have ih := hs_append L y k (by omega)
    have e : ((L ++ y).drop (64 * k)).take 64 = (L.drop (64 * k)).take 64 := by
      rw [List.drop_append_of_le_length (by omega), List.take_append_of_le_length (by simp; omega)]
    rw [hs, hs, ih, e]

/-- A hash to which this has been written: its state, its block, how much of that counts. -/
structure HSt (L : List UInt8) (v : V8) (bk : List UInt8) (hv : Nat) : Prop where
  st : v = hs L (L.length / 64)
  at_ : hv = L.length % 64
  len : bk.length = 64
  pre : bk.take hv = L.drop (64 * (L.length / 64))

theorem HSt.lt {L bk : List UInt8} {v : V8} {hv : Nat} (h : HSt L v bk hv) : hv < 64 := by rw [h.at_]; exact Nat.mod_lt _ (by decide)

theorem HSt.part {L bk y : List UInt8} {v : V8} {hv : Nat} (h : HSt L v bk hv) (hy : hv + y.length < 64) : HSt (L ++ y) v (spl bk hv y) (hv + y.length) := by
  have h1 := h.at_
  have hd : (L ++ y).length / 64 = L.length / 64 := by rw [List.length_append]; omega
  have hl := h.len
  refine ⟨?_, by rw [List.length_append]; omega, by rw [length_spl (by omega), hl], ?_⟩
  · rw [hd, hs_append _ _ _ (by omega)]
    exact h.st
  · rw [hd, List.drop_append_of_le_length (by omega), ← h.pre]
    unfold spl
    have hlt : (bk.take hv).length = hv := by simp; omega
    rw [List.take_append_of_le_length (by simp; omega), List.take_of_length_le (by simp; omega)]

theorem HSt.whole {L bk y : List UInt8} {v : V8} {hv : Nat} (h : HSt L v bk hv) (hy : hv + y.length = 64) : HSt (L ++ y) (comp v (spl bk hv y)) (spl bk hv y) 0 := by
  have h1 := h.at_
  have h2 := h.lt
  have hd : (L ++ y).length / 64 = L.length / 64 + 1 := by rw [List.length_append]; omega
  have hl := h.len
  have hsp : spl bk hv y = bk.take hv ++ y := by
    unfold spl
    rw [List.drop_eq_nil_of_le (by omega), List.append_nil]
  refine ⟨?_, by rw [List.length_append]; omega, by rw [length_spl (by omega), hl], ?_⟩
  · rw [hd, hs, hs_append _ _ _ (by omega), ← h.st, List.drop_append_of_le_length (by omega), ← h.pre, ← hsp, List.take_of_length_le (by rw [length_spl (by omega)]; omega)]
  · rw [hd, List.take_zero, List.drop_eq_nil_of_le (by rw [List.length_append]; omega)]

/-- A hash in memory, to which this has been written. -/
def HashAt (L : List UInt8) (c : Array Value) : Prop := ∃ v bk hv, c = hashC v bk (hv : Nat) (UInt64.ofNat L.length) ∧ HSt L v bk hv

theorem setSeg_hash {v : V8} {bk l : List UInt8} {hv : Int} {n : UInt64} {o : Nat} (h : o + l.length ≤ bk.length) : setSeg (hashC v bk hv n) (8 + o * 1) (bs l) = hashC v (spl bk o l) hv n := by
  have e1 : bs bk = bs (bk.take o) ++ bs ((bk.drop o).take l.length) ++ bs (bk.drop (o + l.length)) := by
    unfold bs
    rw [← List.map_append, ← List.map_append, List.append_assoc]
    congr 1
    rw [← List.drop_drop, List.take_append_drop, List.take_append_drop]
  have e2 : hashC v bk hv n = ((ws v.l ++ bs (bk.take o)) ++ bs ((bk.drop o).take l.length) ++ (bs (bk.drop (o + l.length)) ++ [.int .i64 hv, u64 n])).toArray := by
    unfold hashC
    rw [e1]
    simp
  rw [e2, setSeg_mid (by simp [ws, bs, length_l]; omega) (by simp [bs]; omega)]
  unfold hashC spl bs
  simp

theorem set_have {v : V8} {bk : List UInt8} {hv x : Int} {n : UInt64} (hl : bk.length = 64) : (hashC v bk hv n).setIfInBounds (0 + 72) (.int .i64 x) = hashC v bk x n := by
  unfold hashC
  have := set_app (A := ws v.l ++ bs bk) (B := [u64 n]) (x := .int .i64 x) (y := .int .i64 hv) (n := 0 + 72) (by simp [ws, bs, hl, length_l])
  exact this

theorem set_bytes {v : V8} {bk : List UInt8} {hv : Int} {n k : UInt64} (hl : bk.length = 64) : (hashC v bk hv n).setIfInBounds (0 + 73) (u64 k) = hashC v bk hv k := by
  unfold hashC
  have := set_app (A := ws v.l ++ bs bk ++ [.int .i64 hv]) (B := []) (x := u64 k) (y := u64 n) (n := 0 + 73) (by simp [ws, bs, hl, length_l])
  simpa using this

theorem getV_have {v : V8} {bk : List UInt8} {hv : Int} {n : UInt64} (hl : bk.length = 64) : getV false 1 (hashC v bk hv n) (0 + 72) = some (.int .i64 hv) := by
  unfold getV hashC
  simp only [Bool.false_eq_true, if_false]
  rw [List.getElem?_append_right (by simp [ws, bs, hl, length_l])]
  simp [ws, bs, hl, length_l]

theorem getV_bytes {v : V8} {bk : List UInt8} {hv : Int} {n : UInt64} (hl : bk.length = 64) : getV false 1 (hashC v bk hv n) (0 + 73) = some (u64 n) := by
  unfold getV hashC
  simp only [Bool.false_eq_true, if_false]
  rw [List.getElem?_append_right (by simp [ws, bs, hl, length_l])]
  simp [ws, bs, hl, length_l]

theorem size_hashC {v : V8} {bk : List UInt8} {hv : Int} {n : UInt64} (hl : bk.length = 64) : (hashC v bk hv n).size = 74 := by simp [hashC, ws, bs, hl, length_l]
end SH

section
variable {m : Mem} {wI : World}

theorem c_hwrite {b : Nat} {c : Array Value} {L x : List UInt8} {v : Value} (him : Im m wI) (hE : (K.blk b c 88).holds wI) (hm : m b = none) (hH : HashAt L c) (hx : SlM m v 1 x.length (bs x)) (hb : L.length + x.length ≤ 2199023255552) :
    Ret Try.prog 55 #[.pointer (some ⟨b, 0, none⟩), v] wI fun _ w' => ∃ c', Tch wI w' [b] [b] ∧ (K.blk b c' 88).holds w' ∧ HashAt (L ++ x) c' := by
  have st := St.startE him hE (by simpa [K.blk] using hm)
  obtain ⟨vs, bk, hv, rfl, hst⟩ := hH
  have hx0 := hx
  obtain ⟨_, xa, xc, rfl, _⟩ := hx
  refine ret_of Try.call55 Try.func55 rfl Try.ntmps55 Try.results55 rfl ?_
  refine wc_seq ?_
  refine wc_region ?_
  refine wl_val (v_move' (by conv => (lhs; whnf))) rfl ?_
  refine wl_val (v_nil rfl) rfl ?_
  refine wl_val (v_fa TF.f88_3 rfl) rfl ?_
  refine wl_val (v_load rfl (st.reads 0 rfl TF.t46 (getV_bytes hst.len))) rfl ?_
  refine wl_val (v_move' (by conv => (lhs; whnf))) rfl ?_
  refine wl_val (v_len_s Try.underlying66 rfl) rfl ?_
  refine wl_val (v_convi_64 (n := x.length) Try.underlying3 Try.underlying46 rfl) rfl ?_
  refine wl_val (v_add64 rfl rfl) rfl ?_
  refine wl_val (v_nil rfl) rfl ?_
  refine wl_val (v_fa TF.f88_3 rfl) rfl ?_
  refine wl_store1 (v := u64 (UInt64.ofNat L.length + UInt64.ofNat x.length)) 0 st rfl TF.t46 rfl rfl rfl (by rw [size_hashC hst.len]; omega) ?_
  intro w st
  refine wl_nil ?_
  refine then_go ?_
  refine wc_block ?_
  have e : (hashC vs bk (hv : Nat) (UInt64.ofNat L.length)).setIfInBounds (0 + 73) (u64 (UInt64.ofNat L.length + UInt64.ofNat x.length)) = hashC vs bk (hv : Nat) (UInt64.ofNat (L ++ x).length) := by
    rw [set_bytes hst.len, List.length_append, UInt64.ofNat_add]
  change St _ _ _ _ _ [K.blk b ((hashC vs bk (hv : Nat) (UInt64.ofNat L.length)).setIfInBounds (0 + 73) (u64 (UInt64.ofNat L.length + UInt64.ofNat x.length))) _] at st
  rw [e] at st
  refine wc_loop (S := Nat) (fun q r w' => ∃ y z vs bk hv v', x = y ++ z ∧ q = z.length ∧ r 0 = .pointer (some ⟨b, 0, none⟩) ∧ r 1 = v' ∧ SlM m v' 1 z.length (bs z) ∧ HSt (L ++ y) vs bk hv ∧ St m m [b] wI w' [K.blk b (hashC vs bk (hv : Nat) (UInt64.ofNat (L ++ x).length)) 88]) id x.length ⟨[], x, vs, bk, hv, _, rfl, rfl, rfl, rfl, hx0, by rw [List.append_nil]; exact hst, st⟩ ?_
  clear st hst
  rintro q r w2 ⟨y, z, vs, bk, hv, v', hxyz, hq, h0, h1, hz, hst, st⟩
  have hz0 := hz
  obtain ⟨_, za, zc, rfl, hzk, _⟩ := hz
  refine wc_o 0 h0 (wc_o 1 h1 ?_)
  refine wc_seq ?_
  refine wc_seq ?_
  refine wc_region ?_
  refine wl_val (v_move' (by conv => (lhs; whnf))) rfl ?_
  refine wl_val (v_len_s Try.underlying66 rfl) rfl ?_
  refine wl_val (v_gtr rfl rfl) rfl ?_
  refine wl_nil ?_
  refine then_go ?_
  refine wc_if rfl (fun h17 => ?_) (fun h17 => ?_)
  · refine wc_skip ?_
    refine then_go ?_
    refine wc_block ?_
    refine wc_seq ?_
    have hlt := hst.lt
    have hblen := hst.len
    have hLy : (L ++ y).length ≤ 2199023255552 := by rw [hxyz] at hb; simp at hb ⊢; omega
    have hzl : z.length ≤ 2199023255552 := by rw [hxyz] at hb; simp at hb ⊢; omega
    obtain ⟨k, hk⟩ : ∃ k, k = min z.length (64 - hv) := ⟨_, rfl⟩
    have hk1 : k ≤ z.length := by omega
    have hzt : (z.take k).length = k := by simp; omega
    refine wc_draw TF.mixed ?_
    have st := st.pure (touch_drew _)
    refine fl_val 0 rfl (fun _ => (v_move' (by conv => (lhs; whnf)))) rfl (by kernel_rfl) ?_
    refine fl_val 1 rfl (fun _ => (v_nil rfl)) rfl (by kernel_rfl) ?_
    refine fl_val 2 rfl (fun _ => (v_fa TF.f88_1 rfl)) rfl (by kernel_rfl) ?_
    refine fl_val 3 rfl (fun _ => (v_move' (by conv => (lhs; whnf)))) rfl (by kernel_rfl) ?_
    refine fl_val 4 rfl (fun _ => (v_nil rfl)) rfl (by kernel_rfl) ?_
    refine fl_val 5 rfl (fun _ => (v_fa TF.f88_2 rfl)) rfl (by kernel_rfl) ?_
    refine fl_ld 6 rfl (v_load rfl (by first | exact st.reads 0 rfl TF.t3 (getV_have hst.len) | exact st.reads 0 rfl TF.t3 (getV_have hsl))) (by kernel_rfl) ?_
    refine fl_val 7 rfl (fun _ => (v_sla hv 64 Try.underlying86 TF.t5 rfl ⟨_, _, rfl, rfl⟩ rfl (by omega) (by omega) (by omega))) rfl (by kernel_rfl) ?_
    refine fl_val 8 rfl (fun _ => (v_move' (by conv => (lhs; whnf)))) rfl (by kernel_rfl) ?_
    refine fl_eff1 9 [5, 4, 3, 2, 1, 0] [6] (by kernel_rfl) ⟨obl_ld rfl rfl rfl (v_load rfl (by first | exact st.reads 0 rfl TF.t3 (getV_have hst.len) | exact st.reads 0 rfl TF.t3 (getV_have hsl))), trivial⟩ rfl ?_
    refine wl_copy (size := 1) (b := b) (off := 0 + 8 + hv * 1) (len := 64 - hv) (cap := 64 - hv) (j := z.length) (news := bs z) 0 st rfl Try.underlying66 TF.t5 rfl rfl (hz0.src st.im (one_bs _)) (by rw [size_hashC hst.len]; omega) rfl ?_
    intro w st
    rw [← hk] at st ⊢
    have e : setSeg (hashC vs bk (hv : Nat) (UInt64.ofNat (L ++ x).length)) (0 + 8 + hv * 1) ((bs z).take (k * 1)) = hashC vs (spl bk hv (z.take k)) (hv : Nat) (UInt64.ofNat (L ++ x).length) := by
      rw [show (bs z).take (k * 1) = bs (z.take k) by rw [Nat.mul_one, bs, bs, List.map_take], show 0 + 8 + hv * 1 = 8 + hv * 1 by omega, setSeg_hash (by rw [hzt]; omega)]
    change St _ _ _ _ _ [K.blk b (setSeg (hashC vs bk (hv : Nat) (UInt64.ofNat (L ++ x).length)) (0 + 8 + hv * 1) ((bs z).take (k * 1))) _] at st
    rw [e] at st
    have hsl : (spl bk hv (z.take k)).length = 64 := by rw [length_spl (by rw [hzt]; omega), hblen]
    refine wl_nil ⟨rfl, ?_⟩
    refine fl_eff1 10 [] [] (by kernel_rfl) ⟨obl_ld rfl rfl rfl (v_load rfl (by first | exact st.reads 0 rfl TF.t3 (getV_have hst.len) | exact st.reads 0 rfl TF.t3 (getV_have hsl))), trivial⟩ rfl ?_
    refine wl_val (v_assign' (by conv => (lhs; whnf))) rfl ?_
    refine wl_nil ⟨rfl, ?_⟩
    refine fl_nil (by kernel_rfl) trivial ?_
    refine then_go ?_
    refine wc_seq ?_
    refine wc_draw TF.mixed ?_
    have st := st.pure (touch_drew _)
    refine fl_val 0 rfl (fun _ => (v_move' (by conv => (lhs; whnf)))) rfl (by kernel_rfl) ?_
    refine fl_val 1 rfl (fun _ => (v_move' (by conv => (lhs; whnf)))) rfl (by kernel_rfl) ?_
    refine fl_val 2 rfl (fun _ => (v_nil rfl)) rfl (by kernel_rfl) ?_
    refine fl_val 3 rfl (fun _ => (v_fa TF.f88_2 rfl)) rfl (by kernel_rfl) ?_
    refine fl_ld 4 rfl (v_load rfl (st.reads 0 rfl TF.t3 (getV_have hsl))) (by kernel_rfl) ?_
    refine fl_val 5 rfl (fun _ => (v_move' (by conv => (lhs; whnf)))) rfl (by kernel_rfl) ?_
    refine fl_val 6 rfl (fun _ => (v_add' (c := ((hv + k : Nat) : Int)) rfl rfl (by omega) (by omega) (by omega))) rfl (by kernel_rfl) ?_
    refine fl_val 7 rfl (fun _ => (v_move' (by conv => (lhs; whnf)))) rfl (by kernel_rfl) ?_
    refine fl_val 8 rfl (fun _ => (v_move' (by conv => (lhs; whnf)))) rfl (by kernel_rfl) ?_
    refine fl_val 9 rfl (fun _ => (v_slice_s (l := k) (h := z.length) Try.underlying66 TF.t5 rfl ⟨_, _, rfl, rfl⟩ rfl hk1 hzk)) rfl (by kernel_rfl) ?_
    refine fl_val 10 rfl (fun _ => (v_nil rfl)) rfl (by kernel_rfl) ?_
    refine fl_val 11 rfl (fun _ => (v_fa TF.f88_2 rfl)) rfl (by kernel_rfl) ?_
    refine fl_eff1 12 [10, 9, 8, 7] [] (by kernel_rfl) ⟨obl_ld rfl rfl rfl (v_load rfl (st.reads 0 rfl TF.t3 (getV_have hsl))), trivial⟩ rfl ?_
    refine wl_store1 (v := .int .i64 ((hv + k : Nat) : Int)) 0 st rfl TF.t3 rfl rfl rfl (by rw [size_hashC hsl]; omega) ?_
    intro w st
    have e3 := set_have (v := vs) (bk := spl bk hv (z.take k)) (hv := (hv : Nat)) (x := ((hv + k : Nat) : Int)) (n := UInt64.ofNat (L ++ x).length) hsl
    change St _ _ _ _ _ [K.blk b ((hashC vs (spl bk hv (z.take k)) (hv : Nat) (UInt64.ofNat (L ++ x).length)).setIfInBounds (0 + 72) (.int .i64 ((hv + k : Nat) : Int))) _] at st
    rw [e3] at st
    have hz2 := hz0.subB k z.length hk1 (Nat.le_refl _)
    have hzd : (z.drop k).take (z.length - k) = z.drop k := List.take_of_length_le (by simp)
    rw [hzd, show z.length - k = (z.drop k).length by simp] at hz2
    rw [show z.length - k = (z.drop k).length by simp]
    refine wl_nil ⟨rfl, ?_⟩
    refine fl_eff1 13 [] [] (by kernel_rfl) trivial rfl ?_
    refine wl_val (v_assign' (by conv => (lhs; whnf))) rfl ?_
    refine wl_nil ⟨rfl, ?_⟩
    refine fl_nil (by kernel_rfl) trivial ?_
    refine then_go ?_
    refine wc_seq ?_
    refine wc_region ?_
    refine wl_val (v_move' (by conv => (lhs; whnf))) rfl ?_
    refine wl_val (v_nil rfl) rfl ?_
    refine wl_val (v_fa TF.f88_2 rfl) rfl ?_
    refine wl_val (v_load rfl (st.reads 0 rfl TF.t3 (getV_have hsl))) rfl ?_
    refine wl_val (v_eql rfl rfl) rfl ?_
    refine wl_nil ?_
    refine then_go ?_
    refine wc_if rfl (fun h44 => ?_) (fun h44 => ?_)
    · refine wc_region ?_
      refine wl_val (v_move' (by conv => (lhs; whnf))) rfl ?_
      refine wl_call rfl (c_mix st.im (st.at (i := 0) rfl) (st.none (i := 0) rfl b (by simp [K.blk])) hsl) rfl ?_
      rintro v46 w ⟨t, hE2⟩
      have st := st.step 0 rfl t hE2
      change St _ _ _ _ _ [K.blk b (hashC (comp vs (spl bk hv (z.take k))) (spl bk hv (z.take k)) ((0 : Nat) : Int) (UInt64.ofNat (L ++ x).length)) _] at st
      refine wl_nil ?_
      refine block_go (then_go ?_)
      have hw := hst.whole (y := z.take k) (by rw [hzt]; omega)
      rw [List.append_assoc] at hw
      exact ⟨(z.drop k).length, by simp; omega, y ++ z.take k, z.drop k, _, _, 0, _, by rw [List.append_assoc, List.take_append_drop, hxyz], rfl, rfl, rfl, hz2, hw, st⟩
    · refine wc_skip ?_
      refine block_go (then_go ?_)
      have hw := hst.part (y := z.take k) (by rw [hzt]; omega)
      rw [List.append_assoc, hzt] at hw
      exact ⟨(z.drop k).length, by simp; omega, y ++ z.take k, z.drop k, _, _, _, _, by rw [List.append_assoc, List.take_append_drop, hxyz], rfl, rfl, rfl, hz2, hw, st⟩
  · refine wc_exit (then_exit (then_exit (block_hit ?_)))
    have hz0l : z = [] := List.eq_nil_of_length_eq_zero (by omega)
    have hxy : x = y := by rw [hxyz, hz0l, List.append_nil]
    rw [← hxy] at hst
    exact end0 ⟨_, st.touch, st.at (i := 0) rfl, vs, bk, hv, rfl, hst⟩
end
end Go.Proofs.Ytkbmhhbclbgdpaa
