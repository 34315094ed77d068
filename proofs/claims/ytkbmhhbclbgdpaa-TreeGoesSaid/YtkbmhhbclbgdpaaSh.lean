/-
  SHA-256: the reference's Sum.
-/
import Derived.Test.YtkbmhhbclbgdpaaSg
namespace Go.Proofs.Ytkbmhhbclbgdpaa
open Go Go.RowKit K SH

namespace SH
/-- The state when so many blocks of a text have come. -/
def hs (l : List UInt8) : Nat → V8
  | 0 => h0
  | k + 1 => comp (hs l k) ((l.drop (64 * k)).take 64)

def digB (v : V8) (i : Nat) : UInt8 := UInt8.ofNat (shr32 (v.l.getD (i / 4) 0) (24 - 8 * (i % 4))).toNat
def dig (v : V8) : List UInt8 := (List.range 32).map (digB v)
def full (b : List UInt8) : List UInt8 := b ++ pad (UInt64.ofNat b.length)
/-- SHA-256. -/
def sum (b : List UInt8) : List UInt8 := dig (hs (full b) ((full b).length / 64))

theorem length_dig (v : V8) : (dig v).length = 32 := by simp [dig]
theorem length_sum (b : List UInt8) : (sum b).length = 32 := length_dig _

theorem full_mod (b : List UInt8) (h : b.length < 18446744073709551616) : (full b).length % 64 = 0 := by
  unfold full
  rw [List.length_append, length_pad, UInt64.toNat_ofNat', Nat.mod_eq_of_lt h]
  unfold zs
  omega

theorem full_le (b : List UInt8) : (full b).length ≤ b.length + 72 := by
  unfold full
  have := zs_lt (UInt64.ofNat b.length).toNat
  rw [List.length_append, length_pad]
  omega
end SH

section
variable {m : Mem} {wI : World}

theorem c_rsum {bv : Value} {b : List UInt8} (him : Im m wI) (hb : SlM m bv 1 b.length (bs b)) (hl : b.length ≤ 1099511627776) :
    Ret Try.prog 49 #[bv] wI fun v w' => Tch wI w' [] [] ∧ v = arr (sum b) := by
  have st := St.start him
  have hb0 := hb
  obtain ⟨_, ba, bc, rfl, _⟩ := hb
  have hfl := full_le b
  have hfm := full_mod b (by omega)
  refine ret_of Try.call49 Try.func49 rfl Try.ntmps49 Try.results49 rfl ?_
  refine wc_seq ?_
  refine wc_region ?_
  refine wl_alloc TF.z24 st rfl ?_
  intro b2 w st
  refine wl_nil ?_
  refine then_go ?_
  refine wc_seq ?_
  refine wc_region ?_
  refine wl_val (v_assign' (by conv => (lhs; whnf))) rfl ?_
  refine wl_nil ?_
  refine then_go ?_
  refine wc_seq ?_
  have st := nilRow st 5 1
  change St _ _ _ _ _ (rowE _ _ 1 ([] : List UInt8).length (bs []) :: _) at st
  refine wc_region ?_
  refine wl_val (v_move' (by conv => (lhs; whnf))) rfl ?_
  refine wl_val (v_move' (by conv => (lhs; whnf))) rfl ?_
  refine wl_appB (l2 := b) st Try.underlying66 Try.underlying66 (.inr ⟨_, rfl⟩) TF.t5 TF.z5 rfl rfl (hb0.src st.im (one_bs _)) (by simp; omega) (by simp; omega) rfl ?_
  intro v10 w st hv10
  rw [List.nil_append] at st
  refine wl_val (v_assign' (by conv => (lhs; whnf))) rfl ?_
  refine wl_nil ?_
  refine then_go ?_
  refine wc_seq ?_
  refine wc_region ?_
  refine wl_val (v_move' (by conv => (lhs; whnf))) rfl ?_
  refine wl_val (v_move' (by conv => (lhs; whnf))) rfl ?_
  refine wl_val (v_len_s Try.underlying66 rfl) rfl ?_
  refine wl_val (v_convi_64 (n := b.length) Try.underlying3 Try.underlying46 rfl) rfl ?_
  refine wl_call rfl (c_rpad st.im) rfl ?_
  rintro v15 w ⟨t, m1, hg1, hi1, hp⟩
  have st := st.grown hg1 t hi1
  refine wl_appB (l2 := pad (UInt64.ofNat b.length)) st Try.underlying66 Try.underlying66 (.inr ⟨_, rfl⟩) TF.t5 TF.z5 rfl rfl (hp.src st.im (one_bs _)) (by unfold full at hfl; rw [List.length_append] at hfl; omega) (by unfold full at hfl; rw [List.length_append] at hfl; omega) rfl ?_
  intro v16 w st hv16
  rw [show b ++ pad (UInt64.ofNat b.length) = full b from rfl] at st
  have h9 : 9 ≤ (full b).length := by unfold full; rw [List.length_append, length_pad]; omega
  obtain ⟨g, cap, rfl⟩ := row_len (st.at (i := 0) rfl) (by omega)
  obtain ⟨m2, hg2, hm2, st2⟩ := st.freezeR (i := 0) rfl (by simp)
  have hrow := row_SlM (m := m2) (st.at (i := 0) rfl) hm2
  have st := st2
  change St _ _ _ _ _ [_] at st
  obtain ⟨_, _, _, hvv, hkc, _⟩ := id hrow
  cases hvv
  refine wl_val (v_assign' (by conv => (lhs; whnf))) rfl ?_
  refine wl_nil ?_
  refine then_go ?_
  refine wc_seq ?_
  refine wc_region ?_
  refine wl_call rfl (c_first st.im) rfl ?_
  rintro v17 w ⟨t, rfl⟩
  have st := st.pure t
  refine wl_alloc TF.z81 st rfl ?_
  intro b4 w st
  refine wl_storeW (cs := (ws h0.l).toArray) 0 st rfl TF.t81 rfl rfl rfl rfl (by simpa using one_ws _) ?_
  intro w st
  refine wl_nil ?_
  refine then_go ?_
  refine wc_seq ?_
  refine wc_seq ?_
  refine wc_region ?_
  refine wl_val (v_assign' (by conv => (lhs; whnf))) rfl ?_
  refine wl_nil ?_
  refine then_go ?_
  refine wc_block ?_
  refine wc_loop (S := Nat) (fun q r w' => ∃ k, q + k = (full b).length / 64 ∧ r 2 = .pointer (some ⟨b2, 0, none⟩) ∧ r 3 = .slice (some ⟨g, 0, none⟩) (full b).length cap ∧ r 4 = .pointer (some ⟨b4, 0, none⟩) ∧ r 5 = .int .i64 (64 * k : Nat) ∧
    St m m2 [] wI w' [K.blk b4 (ws (hs (full b) k).l).toArray 81, K.blk b2 (Array.replicate 32 (u8 0)) 24]) id ((full b).length / 64) ⟨0, rfl, rfl, rfl, rfl, rfl, st⟩ ?_
  rintro q r w2 ⟨k, hqk, h2, h3, h4, h5, st⟩
  refine wc_o 2 h2 (wc_o 3 h3 (wc_o 4 h4 (wc_o 5 h5 ?_)))
  refine wc_seq ?_
  refine wc_seq ?_
  refine wc_region ?_
  refine wl_val (v_move' (by conv => (lhs; whnf))) rfl ?_
  refine wl_val (v_add' (c := ((64 * k + 64 : Nat) : Int)) rfl rfl (by omega) (by omega) (by omega)) rfl ?_
  refine wl_val (v_move' (by conv => (lhs; whnf))) rfl ?_
  refine wl_val (v_len_s Try.underlying66 rfl) rfl ?_
  refine wl_val (v_leq rfl rfl) rfl ?_
  refine wl_nil ?_
  refine then_go ?_
  refine wc_if rfl (fun h22 => ?_) (fun h22 => ?_)
  · refine wc_skip ?_
    refine then_go ?_
    refine wc_seq ?_
    refine wc_block ?_
    have hk : 64 * k + 64 ≤ (full b).length := by omega
    have hsub := hrow.subB (64 * k) (64 * k + 64) (by omega) hk
    rw [show 64 * k + 64 - 64 * k = 64 by omega] at hsub
    refine wc_draw TF.mixed ?_
    have st := st.pure (touch_drew _)
    refine fl_ld 0 rfl (v_load rfl (st.reads 0 rfl TF.t81 (getV_all (c := (ws (hs (full b) k).l).toArray) rfl))) (by kernel_rfl) ?_
    refine fl_val 1 rfl (fun _ => (v_move' (by conv => (lhs; whnf)))) rfl (by kernel_rfl) ?_
    refine fl_val 2 rfl (fun _ => (v_move' (by conv => (lhs; whnf)))) rfl (by kernel_rfl) ?_
    refine fl_val 3 rfl (fun _ => (v_move' (by conv => (lhs; whnf)))) rfl (by kernel_rfl) ?_
    refine fl_val 4 rfl (fun _ => (v_add' (c := ((64 * k + 64 : Nat) : Int)) rfl rfl (by omega) (by omega) (by omega))) rfl (by kernel_rfl) ?_
    refine fl_val 5 rfl (fun _ => (v_slice_s (l := 64 * k) (h := 64 * k + 64) Try.underlying66 TF.t5 rfl ⟨_, _, rfl, rfl⟩ ⟨_, _, rfl, rfl⟩ (by omega) (by omega))) rfl (by kernel_rfl) ?_
    refine fl_eff1 6 [4, 3, 2, 1] [] (by kernel_rfl) ⟨obl_ld rfl rfl rfl (v_load rfl (st.reads 0 rfl TF.t81 (getV_all (c := (ws (hs (full b) k).l).toArray) rfl))), trivial⟩ rfl ?_
    rw [show 64 * k + 64 - 64 * k = 64 by omega]
    refine wl_call rfl (c_block st.im hsub (by simp; omega)) rfl ?_
    rintro v31 w ⟨t, rfl⟩
    have st := st.pure t
    refine wl_nil ⟨rfl, ?_⟩
    refine fl_eff1 7 [] [] (by kernel_rfl) trivial rfl ?_
    refine wl_storeW (cs := (ws (hs (full b) (k + 1)).l).toArray) 0 st rfl TF.t81 rfl rfl rfl rfl (by simpa using one_ws _) ?_
    intro w st
    refine wl_nil ⟨rfl, ?_⟩
    refine fl_nil (by kernel_rfl) trivial ?_
    refine block_go (then_go ?_)
    refine wc_region ?_
    refine wl_val (v_move' (by conv => (lhs; whnf))) rfl ?_
    refine wl_val (v_add' (c := ((64 * (k + 1) : Nat) : Int)) rfl rfl (by omega) (by omega) (by omega)) rfl ?_
    refine wl_val (v_assign' (by conv => (lhs; whnf))) rfl ?_
    refine wl_nil ?_
    refine then_go ?_
    exact ⟨q - 1, by simp; omega, k + 1, by omega, rfl, rfl, rfl, rfl, st⟩
  · refine wc_exit (then_exit (then_exit (block_hit ?_)))
    refine then_go ?_
    refine wc_seq ?_
    refine wc_region ?_
    refine wl_alloc TF.z24 st rfl ?_
    intro b6 w st
    refine wl_nil ?_
    refine then_go ?_
    refine wc_seq ?_
    refine wc_seq ?_
    refine wc_region ?_
    refine wl_val (v_assign' (by conv => (lhs; whnf))) rfl ?_
    refine wl_nil ?_
    refine then_go ?_
    refine wc_block ?_
    have hkf : k = (full b).length / 64 := by omega
    obtain ⟨vf, hvf⟩ : ∃ vf, vf = hs (full b) k := ⟨_, rfl⟩
    have hsm : sum b = dig vf := by rw [hvf, hkf]; rfl
    rw [← hvf] at st
    refine wc_loop (S := Nat) (fun q r w' => ∃ i, q + i = 32 ∧ r 2 = .pointer (some ⟨b2, 0, none⟩) ∧ r 4 = .pointer (some ⟨b4, 0, none⟩) ∧ r 6 = .pointer (some ⟨b6, 0, none⟩) ∧ r 7 = .int .i64 i ∧
      St m m2 [] wI w' [K.blk b6 (bs ((List.range i).map (digB vf)) ++ List.replicate (32 - i) (u8 0)).toArray 24, K.blk b4 (ws vf.l).toArray 81, K.blk b2 (Array.replicate 32 (u8 0)) 24]) id 32 ⟨0, rfl, rfl, rfl, rfl, rfl, st⟩ ?_
    rintro q2 r w3 ⟨i, hqi, h2, h4, h6, h7, st⟩
    refine wc_o 2 h2 (wc_o 4 h4 (wc_o 6 h6 (wc_o 7 h7 ?_)))
    refine wc_seq ?_
    refine wc_seq ?_
    refine wc_region ?_
    refine wl_val (v_move' (by conv => (lhs; whnf))) rfl ?_
    refine wl_val (v_lss rfl rfl) rfl ?_
    refine wl_nil ?_
    refine then_go ?_
    refine wc_if rfl (fun h33 => ?_) (fun h33 => ?_)
    · refine wc_skip ?_
      refine then_go ?_
      refine wc_seq ?_
      refine wc_block ?_
      have hi : i < 32 := by omega
      refine wc_region ?_
      refine wl_val (v_move' (by conv => (lhs; whnf))) rfl ?_
      refine wl_val (v_move' (by conv => (lhs; whnf))) rfl ?_
      refine wl_val (v_quo' (c := ((i / 4 : Nat) : Int)) rfl rfl (by omega) (by omega) (by omega) (by omega)) rfl ?_
      refine wl_val (v_iaa (i / 4) Try.underlying81 TF.t80 rfl rfl (by first | rfl | omega) (by first | omega | (dsimp only at *; omega))) rfl ?_
      refine wl_val (v_load rfl (st.reads (v := u32 (vf.l.getD (i / 4) 0)) 1 rfl TF.t80 (getV_wse (j := i / 4) (by omega) (by rw [length_l]; omega)))) rfl ?_
      refine wl_val (v_move' (by conv => (lhs; whnf))) rfl ?_
      refine wl_val (v_rem' (c := ((i % 4 : Nat) : Int)) rfl rfl (by omega) (by omega) (by omega)) rfl ?_
      refine wl_val (v_mul' (c := ((8 * (i % 4) : Nat) : Int)) rfl rfl (by omega) (by omega) (by omega)) rfl ?_
      refine wl_val (v_sub' (c := ((24 - 8 * (i % 4) : Nat) : Int)) rfl rfl (by omega) (by omega) (by omega)) rfl ?_
      refine wl_val (v_conv Try.underlying3 Try.underlying84 rfl) rfl ?_
      rw [wrap_u64_small (by omega)]
      refine wl_val (v_shr32 (24 - 8 * (i % 4)) rfl rfl (by first | omega | decide | (dsimp only at *; omega))) rfl ?_
      refine wl_val (v_conv32_8 Try.underlying80 Try.underlying5 rfl) rfl ?_
      refine wl_val (v_iaa i Try.underlying24 TF.t5 rfl rfl (by first | rfl | omega) (by first | omega | (dsimp only at *; omega))) rfl ?_
      refine wl_store1 (v := u8 (digB vf i)) 0 st rfl TF.t5 rfl rfl rfl (by simp [bs]; omega) ?_
      intro w st
      refine wl_nil ?_
      refine block_go (then_go ?_)
      refine wc_region ?_
      refine wl_val (v_move' (by conv => (lhs; whnf))) rfl ?_
      refine wl_val (v_add' rfl rfl rfl (by first | omega | (dsimp only at *; omega)) (by first | omega | (dsimp only at *; omega))) rfl ?_
      refine wl_val (v_assign' (by conv => (lhs; whnf))) rfl ?_
      refine wl_nil ?_
      refine then_go ?_
      refine ⟨q2 - 1, by simp; omega, i + 1, by omega, rfl, rfl, rfl, rfl, ?_⟩
      have e : (bs ((List.range i).map (digB vf)) ++ List.replicate (32 - i) (u8 0)).toArray.setIfInBounds (0 + i * 1) (u8 (digB vf i)) = (bs ((List.range (i + 1)).map (digB vf)) ++ List.replicate (32 - (i + 1)) (u8 0)).toArray := by
        rw [show 32 - i = (32 - (i + 1)) + 1 by omega, List.replicate_succ, set_app (by simp [bs]), List.range_succ]
        simp [bs]
      rw [← e]
      exact st
    · refine wc_exit (then_exit (then_exit (block_hit ?_)))
      refine then_go ?_
      refine wc_seq ?_
      have hi32 : i = 32 := by omega
      subst hi32
      have e : (bs ((List.range 32).map (digB vf)) ++ List.replicate (32 - 32) (u8 0)).toArray = (bs (sum b)).toArray := by rw [hsm]; simp [dig]
      rw [e] at st
      refine wc_region ?_
      refine wl_val (v_load rfl (st.reads 0 rfl TF.t24 (getV_all (by simp [bs, length_sum])))) rfl ?_
      refine wl_storeW (cs := (bs (sum b)).toArray) 2 st rfl TF.t24 rfl rfl (by simp [bs, length_sum]) rfl (by simpa using one_bs _) ?_
      intro w st
      refine wl_nil ?_
      refine then_go ?_
      refine wc_ret ?_
      exact ret1c rfl (st.reads 2 rfl TF.t24 (getV_all (by simp [bs, length_sum]))) ⟨(st.keepOnly (l := []) (List.nil_sublist _)).touch, rfl⟩
end
end Go.Proofs.Ytkbmhhbclbgdpaa
