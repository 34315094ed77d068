/-
  Several texts as one: Sh Si Sj Sk Ta Tb Pa Y Z Pc Pd Tc Zb Zc Zd Pe Ua.
-/
import Derived.RangeFuncRecord
import Derived.RangeFuncCalls
import Derived.OwnWalkIn
import Derived.LoopIn
import Derived.Scope
import Derived.RangeFuncLeaves
import Derived.OrdersIn
import Derived.Test.YtonlmjpenonabaaAgain1

namespace Go.Proofs.Ytonlmjpenonabaa
open Go Go.RowKit K SH
namespace SH
def hs (l : List UInt8) : Nat → V8
 | 0 => h0
 | k + 1 => comp (hs l k) ((l.drop (64 * k)).take 64)
def digB (v : V8) (i : Nat) : UInt8 := UInt8.ofNat (shr32 (v.l.getD (i / 4) 0) (24 - 8 * (i % 4))).toNat
def dig (v : V8) : List UInt8 := (List.range 32).map (digB v)
def full (b : List UInt8) : List UInt8 := b ++ pad (UInt64.ofNat b.length)
def sum (b : List UInt8) : List UInt8 := dig (hs (full b) ((full b).length / 64))
theorem length_dig (v : V8) : (dig v).length = 32 := by simp [dig]
theorem length_sum (b : List UInt8) : (sum b).length = 32 := length_dig _
theorem full_mod (b : List UInt8) (h : b.length < 18446744073709551616) : (full b).length % 64 = 0 := by
 unfold full
 rw [List.length_append, length_pad, UInt64.toNat_ofNat', Nat.mod_eq_of_lt h]
 unfold zs
 omega
theorem full_le (b : List UInt8) : (full b).length ≤ b.length + 72 := by
 unfold full
 have := zs_lt (UInt64.ofNat b.length).toNat
 rw [List.length_append, length_pad]
 omega
end SH
section
variable {m : Mem} {wI : World}
theorem c_rsum {bv : Value} {b : List UInt8} (him : Im m wI) (hb : SlM m bv 1 b.length (bs b)) (hl : b.length ≤ 1099511627776) :
  Ret Try.prog 48 #[bv] wI fun v w' => Tch wI w' [] [] ∧ v = arr (sum b) := by
 have st := St.start him
 have hb0 := hb
 obtain ⟨_, ba, bc, rfl, _⟩ := hb
 have hfl := full_le b
 have hfm := full_mod b (by omega)
 refine ret_of Try.call48 Try.func48 rfl Try.ntmps48 Try.results48 rfl ?_
 refine wc_seq ?_
 refine wc_region ?_
 refine wl_alloc TF.z28 st rfl ?_
 intro b2 w st
 refine wl_nil ?_
 refine then_go ?_
 refine wc_seq ?_
 refine wc_region ?_
 refine wl_val (v_assign' (by conv => (lhs; whnf))) rfl ?_
 refine wl_nil ?_
 refine then_go ?_
 refine wc_seq ?_
 have st := nilRow st 5 1
 change St _ _ _ _ _ (rowE _ _ 1 ([] : List UInt8).length (bs []) :: _) at st
 refine wc_region ?_
 refine wl_val (v_move' (by conv => (lhs; whnf))) rfl ?_
 refine wl_val (v_move' (by conv => (lhs; whnf))) rfl ?_
 refine wl_appB (l2 := b) st Try.underlying37 Try.underlying37 (.inr ⟨_, rfl⟩) TF.t5 TF.z5 rfl rfl (hb0.src st.im (one_bs _)) (by simp; omega) (by simp; omega) rfl ?_
 intro v10 w st hv10
 rw [List.nil_append] at st
 refine wl_val (v_assign' (by conv => (lhs; whnf))) rfl ?_
 refine wl_nil ?_
 refine then_go ?_
 refine wc_seq ?_
 refine wc_region ?_
 refine wl_val (v_move' (by conv => (lhs; whnf))) rfl ?_
 refine wl_val (v_move' (by conv => (lhs; whnf))) rfl ?_
 refine wl_val (v_len_s Try.underlying37 rfl) rfl ?_
 refine wl_val (v_convi_64 (n := b.length) Try.underlying3 Try.underlying39 rfl) rfl ?_
 refine wl_call rfl (c_rpad st.im) rfl ?_
 rintro v15 w ⟨t, m1, hg1, hi1, hp⟩
 have st := st.grown hg1 t hi1
 refine wl_appB (l2 := pad (UInt64.ofNat b.length)) st Try.underlying37 Try.underlying37 (.inr ⟨_, rfl⟩) TF.t5 TF.z5 rfl rfl (hp.src st.im (one_bs _)) (by unfold full at hfl; rw [List.length_append] at hfl; omega) (by unfold full at hfl; rw [List.length_append] at hfl; omega) rfl ?_
 intro v16 w st hv16
 rw [show b ++ pad (UInt64.ofNat b.length) = full b from rfl] at st
 have h9 : 9 ≤ (full b).length := by unfold full; rw [List.length_append, length_pad]; omega
 obtain ⟨g, cap, rfl⟩ := row_len (st.at (i := 0) rfl) (by omega)
 obtain ⟨m2, hg2, hm2, st2⟩ := st.freezeR (i := 0) rfl (by simp)
 have hrow := row_SlM (m := m2) (st.at (i := 0) rfl) hm2
 have st := st2
 change St _ _ _ _ _ [_] at st
 obtain ⟨_, _, _, hvv, hkc, _⟩ := id hrow
 cases hvv
 refine wl_val (v_assign' (by conv => (lhs; whnf))) rfl ?_
 refine wl_nil ?_
 refine then_go ?_
 refine wc_seq ?_
 refine wc_region ?_
 refine wl_call rfl (c_first st.im) rfl ?_
 rintro v17 w ⟨t, rfl⟩
 have st := st.pure t
 refine wl_alloc TF.z118 st rfl ?_
 intro b4 w st
 refine wl_storeW (cs := (ws h0.l).toArray) 0 st rfl TF.t118 rfl rfl rfl rfl (by simpa using one_ws _) ?_
 intro w st
 refine wl_nil ?_
 refine then_go ?_
 refine wc_seq ?_
 refine wc_seq ?_
 refine wc_region ?_
 refine wl_val (v_assign' (by conv => (lhs; whnf))) rfl ?_
 refine wl_nil ?_
 refine then_go ?_
 refine wc_block ?_
 refine wc_loop (S := Nat) (fun q r w' => ∃ k, q + k = (full b).length / 64 ∧ r 2 = .pointer (some ⟨b2, 0, none⟩) ∧ r 3 = .slice (some ⟨g, 0, none⟩) (full b).length cap ∧ r 4 = .pointer (some ⟨b4, 0, none⟩) ∧ r 5 = .int .i64 (64 * k : Nat) ∧
  St m m2 [] wI w' [K.blk b4 (ws (hs (full b) k).l).toArray 118, K.blk b2 (Array.replicate 32 (u8 0)) 28]) id ((full b).length / 64) ⟨0, rfl, rfl, rfl, rfl, rfl, st⟩ ?_
 rintro q r w2 ⟨k, hqk, h2, h3, h4, h5, st⟩
 refine wc_o 2 h2 (wc_o 3 h3 (wc_o 4 h4 (wc_o 5 h5 ?_)))
 refine wc_seq ?_
 refine wc_seq ?_
 refine wc_region ?_
 refine wl_val (v_move' (by conv => (lhs; whnf))) rfl ?_
 refine wl_val (v_add' (c := ((64 * k + 64 : Nat) : Int)) rfl rfl (by omega) (by omega) (by omega)) rfl ?_
 refine wl_val (v_move' (by conv => (lhs; whnf))) rfl ?_
 refine wl_val (v_len_s Try.underlying37 rfl) rfl ?_
 refine wl_val (v_leq rfl rfl) rfl ?_
 refine wl_nil ?_
 refine then_go ?_
 refine wc_if rfl (fun h22 => ?_) (fun h22 => ?_)
 ·refine wc_skip ?_
  refine then_go ?_
  refine wc_seq ?_
  refine wc_block ?_
  have hk : 64 * k + 64 ≤ (full b).length := by omega
  have hsub := hrow.subB (64 * k) (64 * k + 64) (by omega) hk
  rw [show 64 * k + 64 - 64 * k = 64 by omega] at hsub
  refine wc_draw TF.mixed ?_
  have st := st.pure (touch_drew _)
  refine fl_ld 0 rfl (v_load rfl (st.reads 0 rfl TF.t118 (getV_all (c := (ws (hs (full b) k).l).toArray) rfl))) (by kernel_rfl) ?_
  refine fl_val 1 rfl (fun _ => (v_move' (by conv => (lhs; whnf)))) rfl (by kernel_rfl) ?_
  refine fl_val 2 rfl (fun _ => (v_move' (by conv => (lhs; whnf)))) rfl (by kernel_rfl) ?_
  refine fl_val 3 rfl (fun _ => (v_move' (by conv => (lhs; whnf)))) rfl (by kernel_rfl) ?_
  refine fl_val 4 rfl (fun _ => (v_add' (c := ((64 * k + 64 : Nat) : Int)) rfl rfl (by omega) (by omega) (by omega))) rfl (by kernel_rfl) ?_
  refine fl_val 5 rfl (fun _ => (v_slice_s (l := 64 * k) (h := 64 * k + 64) Try.underlying37 TF.t5 rfl ⟨_, _, rfl, rfl⟩ ⟨_, _, rfl, rfl⟩ (by omega) (by omega))) rfl (by kernel_rfl) ?_
  refine fl_eff1 6 [4, 3, 2, 1] [] (by kernel_rfl) ⟨obl_ld rfl rfl rfl (v_load rfl (st.reads 0 rfl TF.t118 (getV_all (c := (ws (hs (full b) k).l).toArray) rfl))), trivial⟩ rfl ?_
  rw [show 64 * k + 64 - 64 * k = 64 by omega]
  refine wl_call rfl (c_block st.im hsub (by simp; omega)) rfl ?_
  rintro v31 w ⟨t, rfl⟩
  have st := st.pure t
  refine wl_nil ⟨rfl, ?_⟩
  refine fl_eff1 7 [] [] (by kernel_rfl) trivial rfl ?_
  refine wl_storeW (cs := (ws (hs (full b) (k + 1)).l).toArray) 0 st rfl TF.t118 rfl rfl rfl rfl (by simpa using one_ws _) ?_
  intro w st
  refine wl_nil ⟨rfl, ?_⟩
  refine fl_nil (by kernel_rfl) trivial ?_
  refine block_go (then_go ?_)
  refine wc_region ?_
  refine wl_val (v_move' (by conv => (lhs; whnf))) rfl ?_
  refine wl_val (v_add' (c := ((64 * (k + 1) : Nat) : Int)) rfl rfl (by omega) (by omega) (by omega)) rfl ?_
  refine wl_val (v_assign' (by conv => (lhs; whnf))) rfl ?_
  refine wl_nil ?_
  refine then_go ?_
  exact ⟨q - 1, by simp; omega, k + 1, by omega, rfl, rfl, rfl, rfl, st⟩
 ·refine wc_exit (then_exit (then_exit (block_hit ?_)))
  refine then_go ?_
  refine wc_seq ?_
  refine wc_region ?_
  refine wl_alloc TF.z28 st rfl ?_
  intro b6 w st
  refine wl_nil ?_
  refine then_go ?_
  refine wc_seq ?_
  refine wc_seq ?_
  refine wc_region ?_
  refine wl_val (v_assign' (by conv => (lhs; whnf))) rfl ?_
  refine wl_nil ?_
  refine then_go ?_
  refine wc_block ?_
  have hkf : k = (full b).length / 64 := by omega
  obtain ⟨vf, hvf⟩ : ∃ vf, vf = hs (full b) k := ⟨_, rfl⟩
  have hsm : sum b = dig vf := by rw [hvf, hkf]; rfl
  rw [← hvf] at st
  refine wc_loop (S := Nat) (fun q r w' => ∃ i, q + i = 32 ∧ r 2 = .pointer (some ⟨b2, 0, none⟩) ∧ r 4 = .pointer (some ⟨b4, 0, none⟩) ∧ r 6 = .pointer (some ⟨b6, 0, none⟩) ∧ r 7 = .int .i64 i ∧
   St m m2 [] wI w' [K.blk b6 (bs ((List.range i).map (digB vf)) ++ List.replicate (32 - i) (u8 0)).toArray 28, K.blk b4 (ws vf.l).toArray 118, K.blk b2 (Array.replicate 32 (u8 0)) 28]) id 32 ⟨0, rfl, rfl, rfl, rfl, rfl, st⟩ ?_
  rintro q2 r w3 ⟨i, hqi, h2, h4, h6, h7, st⟩
  refine wc_o 2 h2 (wc_o 4 h4 (wc_o 6 h6 (wc_o 7 h7 ?_)))
  refine wc_seq ?_
  refine wc_seq ?_
  refine wc_region ?_
  refine wl_val (v_move' (by conv => (lhs; whnf))) rfl ?_
  refine wl_val (v_lss rfl rfl) rfl ?_
  refine wl_nil ?_
  refine then_go ?_
  refine wc_if rfl (fun h33 => ?_) (fun h33 => ?_)
  ·refine wc_skip ?_
   refine then_go ?_
   refine wc_seq ?_
   refine wc_block ?_
   have hi : i < 32 := by omega
   refine wc_region ?_
   refine wl_val (v_move' (by conv => (lhs; whnf))) rfl ?_
   refine wl_val (v_move' (by conv => (lhs; whnf))) rfl ?_
   refine wl_val (v_quo' (c := ((i / 4 : Nat) : Int)) rfl rfl (by omega) (by omega) (by omega) (by omega)) rfl ?_
   refine wl_val (v_iaa (i / 4) Try.underlying118 TF.t117 rfl rfl (by first | rfl | omega) (by first | omega | (dsimp only at *; omega))) rfl ?_
   refine wl_val (v_load rfl (st.reads (v := u32 (vf.l.getD (i / 4) 0)) 1 rfl TF.t117 (getV_wse (j := i / 4) (by omega) (by rw [length_l]; omega)))) rfl ?_
   refine wl_val (v_move' (by conv => (lhs; whnf))) rfl ?_
   refine wl_val (v_rem' (c := ((i % 4 : Nat) : Int)) rfl rfl (by omega) (by omega) (by omega)) rfl ?_
   refine wl_val (v_mul' (c := ((8 * (i % 4) : Nat) : Int)) rfl rfl (by omega) (by omega) (by omega)) rfl ?_
   refine wl_val (v_sub' (c := ((24 - 8 * (i % 4) : Nat) : Int)) rfl rfl (by omega) (by omega) (by omega)) rfl ?_
   refine wl_val (v_conv Try.underlying3 Try.underlying115 rfl) rfl ?_
   rw [wrap_u64_small (by omega)]
   refine wl_val (v_shr32 (24 - 8 * (i % 4)) rfl rfl (by first | omega | decide | (dsimp only at *; omega))) rfl ?_
   refine wl_val (v_conv32_8 Try.underlying117 Try.underlying5 rfl) rfl ?_
   refine wl_val (v_iaa i Try.underlying28 TF.t5 rfl rfl (by first | rfl | omega) (by first | omega | (dsimp only at *; omega))) rfl ?_
   refine wl_store1 (v := u8 (digB vf i)) 0 st rfl TF.t5 rfl rfl rfl (by simp [bs]; omega) ?_
   intro w st
   refine wl_nil ?_
   refine block_go (then_go ?_)
   refine wc_region ?_
   refine wl_val (v_move' (by conv => (lhs; whnf))) rfl ?_
   refine wl_val (v_add' rfl rfl rfl (by first | omega | (dsimp only at *; omega)) (by first | omega | (dsimp only at *; omega))) rfl ?_
   refine wl_val (v_assign' (by conv => (lhs; whnf))) rfl ?_
   refine wl_nil ?_
   refine then_go ?_
   refine ⟨q2 - 1, by simp; omega, i + 1, by omega, rfl, rfl, rfl, rfl, ?_⟩
   have e : (bs ((List.range i).map (digB vf)) ++ List.replicate (32 - i) (u8 0)).toArray.setIfInBounds (0 + i * 1) (u8 (digB vf i)) = (bs ((List.range (i + 1)).map (digB vf)) ++ List.replicate (32 - (i + 1)) (u8 0)).toArray := by
    rw [show 32 - i = (32 - (i + 1)) + 1 by omega, List.replicate_succ, set_app (by simp [bs]), List.range_succ]
    simp [bs]
   rw [← e]
   exact st
  ·refine wc_exit (then_exit (then_exit (block_hit ?_)))
   refine then_go ?_
   refine wc_seq ?_
   have hi32 : i = 32 := by omega
   subst hi32
   have e : (bs ((List.range 32).map (digB vf)) ++ List.replicate (32 - 32) (u8 0)).toArray = (bs (sum b)).toArray := by rw [hsm]; simp [dig]
   rw [e] at st
   refine wc_region ?_
   refine wl_val (v_load rfl (st.reads 0 rfl TF.t28 (getV_all (by simp [bs, length_sum])))) rfl ?_
   refine wl_storeW (cs := (bs (sum b)).toArray) 2 st rfl TF.t28 rfl rfl (by simp [bs, length_sum]) rfl (by simpa using one_bs _) ?_
   intro w st
   refine wl_nil ?_
   refine then_go ?_
   refine wc_ret ?_
   exact ret1c rfl (st.reads 2 rfl TF.t28 (getV_all (by simp [bs, length_sum]))) ⟨(st.keepOnly (l := []) (List.nil_sublist _)).touch, rfl⟩
end
end Go.Proofs.Ytonlmjpenonabaa

namespace Go.Proofs.Ytonlmjpenonabaa
open Go Go.RowKit K SH
namespace SH
def hashC (v : V8) (bk : List UInt8) (hv : Int) (n : UInt64) : Array Value := (ws v.l ++ bs bk ++ [.int .i64 hv, u64 n]).toArray
theorem getV_state (v : V8) (bk : List UInt8) (hv : Int) (n : UInt64) : getV true 8 (hashC v bk hv n) 0 = some (arr32 v.l) :=
 getV_seg (a := []) (b := ws v.l) (c := bs bk ++ [.int .i64 hv, u64 n]) (by simp) rfl rfl
end SH
section
variable {m m0 : Mem} {F : List Nat} {w0 w wI : World} {Es : List Ent}
theorem c_spreadS {b : Nat} {v : V8} {bk : List UInt8} {hv : Int} {n : UInt64} {t : TypeId} (st : St m0 m F w0 w Es) (i : Nat) (hi : Es[i]? = some (K.blk b (hashC v bk hv n) t)) (hl : bk.length = 64) :
  Ret Try.prog 111 #[.pointer (some ⟨b, 8, none⟩)] w fun v w' => Tch w w' [] [] ∧ v = arr32 (sched bk) := by
 obtain ⟨ml, himl, _, hbl, _⟩ := st.lend (i := i) hi
 exact c_spread himl hbl (pre := ws v.l) (post := [.int .i64 hv, u64 n]) rfl rfl hl
theorem c_mix {b : Nat} {v : V8} {bk : List UInt8} {hv : Int} {n : UInt64} (him : Im m wI) (hE : (K.blk b (hashC v bk hv n) 146).holds wI) (hm : m b = none) (hl : bk.length = 64) :
  Ret Try.prog 102 #[.pointer (some ⟨b, 0, none⟩)] wI fun _ w' => Tch wI w' [b] [b] ∧ (K.blk b (hashC (comp v bk) bk 0 n) 146).holds w' := by
 have st := St.startE him hE (by simpa [K.blk] using hm)
 refine ret_of Try.call102 Try.func102 rfl Try.ntmps102 Try.results102 rfl ?_
 refine wc_seq ?_
 refine wc_draw TF.mixed ?_
 have st := st.pure (touch_drew _)
 show FL _ _ ?ops0 ?post0 [] [] [] _ _
 have fin : ∀ (r : Fr) (w : World) (b2 b3 b4 : Nat), r 0 = .pointer (some ⟨b, 0, none⟩) → r 2 = .pointer (some ⟨b2, 0, none⟩) → r 3 = .pointer (some ⟨b3, 0, none⟩) → r 4 = .pointer (some ⟨b4, 0, none⟩) → r 15 = arr32 (sched bk) → r 16 = arr32 kk → r 17 = .pointer (some ⟨b, 0, none⟩) → r 18 = .pointer (some ⟨b, 0, none⟩) → r 19 = .pointer (some ⟨b, 0, none⟩) → r 20 = arr32 v.l →
  St m m [b] wI w [K.blk b4 (Array.replicate 8 (u32 0)) 118, K.blk b3 (Array.replicate 64 (u32 0)) 139, K.blk b2 (Array.replicate 64 (u32 0)) 139, K.blk b (hashC v bk hv n) 146] → FL Try.prog 115 ?ops0 ?post0 [11, 10, 9, 4, 3, 8, 7, 6, 5, 2, 1, 0] [7, 6, 5, 1, 0] [8] r w := by
  clear st
  rintro r w b2 b3 b4 h0 h2 h3 h4 h15 h16 h17 h18 h19 h20 st
  refine fl_o 0 h0 (fl_o 2 h2 (fl_o 3 h3 (fl_o 4 h4 (fl_o 15 h15 (fl_o 16 h16 (fl_o 17 h17 (fl_o 18 h18 (fl_o 19 h19 (fl_o 20 h20 ?_)))))))))
  refine fl_eff1 12 [7, 6, 5] [8] (by kernel_rfl) ⟨obl_ld rfl rfl rfl (v_load rfl (by first | exact st.reads 0 rfl TF.t118 (getV_state ..) | exact st.reads 1 rfl TF.t118 (getV_state ..) | exact st.reads 2 rfl TF.t118 (getV_state ..) | exact st.reads 3 rfl TF.t118 (getV_state ..))), trivial⟩ rfl ?_
  refine wl_storeW (cs := (ws (sched bk)).toArray) 2 st rfl TF.t139 rfl rfl (by simp [ws, length_sched]) rfl (by simpa using one_ws _) ?_
  intro w st
  refine wl_nil ⟨rfl, ?_⟩
  refine fl_eff1 13 [7, 6, 5] [8] (by kernel_rfl) ⟨obl_ld rfl rfl rfl (v_load rfl (by first | exact st.reads 0 rfl TF.t118 (getV_state ..) | exact st.reads 1 rfl TF.t118 (getV_state ..) | exact st.reads 2 rfl TF.t118 (getV_state ..) | exact st.reads 3 rfl TF.t118 (getV_state ..))), trivial⟩ rfl ?_
  refine wl_storeW (cs := (ws kk).toArray) 1 st rfl TF.t139 rfl rfl rfl rfl (by simpa using one_ws _) ?_
  intro w st
  refine wl_nil ⟨rfl, ?_⟩
  refine fl_eff1 14 [] [] (by kernel_rfl) ⟨obl_ld rfl rfl rfl (v_load rfl (by first | exact st.reads 0 rfl TF.t118 (getV_state ..) | exact st.reads 1 rfl TF.t118 (getV_state ..) | exact st.reads 2 rfl TF.t118 (getV_state ..) | exact st.reads 3 rfl TF.t118 (getV_state ..))), trivial⟩ rfl ?_
  refine wl_storeW (cs := (ws v.l).toArray) 0 st rfl TF.t118 rfl rfl rfl rfl (by simpa using one_ws _) ?_
  intro w st
  refine wl_nil ⟨rfl, ?_⟩
  refine fl_nil (by kernel_rfl) trivial ?_
  refine then_go ?_
  refine wc_seq ?_
  refine wc_seq ?_
  refine wc_region ?_
  refine wl_val (v_move' (by conv => (lhs; whnf))) rfl ?_
  refine wl_nil ?_
  refine then_go ?_
  refine wc_block ?_
  refine wc_loop (S := Nat) (fun q r w' => ∃ j, q + j = 64 ∧ r 0 = .pointer (some ⟨b, 0, none⟩) ∧ r 2 = .pointer (some ⟨b2, 0, none⟩) ∧ r 3 = .pointer (some ⟨b3, 0, none⟩) ∧ r 4 = .pointer (some ⟨b4, 0, none⟩) ∧ r 21 = .int .i64 j ∧
   St m m [b] wI w' [K.blk b4 (ws (rnds j v (sched bk)).l).toArray 118, K.blk b3 (ws kk).toArray 139, K.blk b2 (ws (sched bk)).toArray 139, K.blk b (hashC v bk hv n) 146]) id 64 ⟨0, rfl, rfl, rfl, rfl, rfl, rfl, st⟩ ?_
  rintro q r w2 ⟨j, hqj, h0, h2, h3, h4, h21, st⟩
  refine wc_o 0 h0 (wc_o 2 h2 (wc_o 3 h3 (wc_o 4 h4 (wc_o 21 h21 ?_))))
  refine wc_seq ?_
  refine wc_region ?_
  refine wl_val (v_lss rfl rfl) rfl ?_
  refine wl_nil ?_
  refine then_go ?_
  refine wc_seq ?_
  refine wc_if rfl (fun h22 => ?_) (fun h22 => ?_)
  ·refine wc_skip ?_
   refine then_go ?_
   refine wc_seq ?_
   refine wc_block ?_
   refine wc_seq ?_
   refine wc_region ?_
   refine wl_val (v_move' (by conv => (lhs; whnf))) rfl ?_
   refine wl_val (v_assign' (by conv => (lhs; whnf))) rfl ?_
   refine wl_nil ?_
   refine then_go ?_
   refine wc_seq ?_
   have hj : j < 64 := by omega
   obtain ⟨u, hu⟩ : ∃ u, u = rnds j v (sched bk) := ⟨_, rfl⟩
   obtain ⟨kj, hkj⟩ : ∃ x, x = kk.getD j 0 := ⟨_, rfl⟩
   obtain ⟨wj, hwj⟩ : ∃ x, x = (sched bk).getD j 0 := ⟨_, rfl⟩
   rw [← hu] at st
   refine wc_draw TF.mixed ?_
   have st := st.pure (touch_drew _)
   refine fl_val 0 rfl (fun _ => (v_iaa 0 Try.underlying118 TF.t117 rfl rfl (by first | rfl | omega) (by first | omega | (dsimp only at *; omega)))) rfl (by kernel_rfl) ?_
   refine fl_ld 1 rfl (v_load rfl (st.reads (v := u32 u.a) 0 rfl TF.t117 rfl)) (by kernel_rfl) ?_
   refine fl_val 2 rfl (fun _ => (v_iaa 4 Try.underlying118 TF.t117 rfl rfl (by first | rfl | omega) (by first | omega | (dsimp only at *; omega)))) rfl (by kernel_rfl) ?_
   refine fl_ld 3 rfl (v_load rfl (st.reads (v := u32 u.e) 0 rfl TF.t117 rfl)) (by kernel_rfl) ?_
   refine fl_eff1 4 [2] [3] (by kernel_rfl) ⟨obl_ld rfl rfl rfl (v_load rfl (st.reads (v := u32 u.e) 0 rfl TF.t117 rfl)), obl_ld rfl rfl rfl (v_load rfl (st.reads (v := u32 u.a) 0 rfl TF.t117 rfl)), trivial⟩ rfl ?_
   refine wl_val (v_assign' (by conv => (lhs; whnf))) rfl ?_
   refine wl_nil ⟨rfl, ?_⟩
   refine fl_eff1 5 [] [] (by kernel_rfl) ⟨obl_ld rfl rfl rfl (v_load rfl (st.reads (v := u32 u.e) 0 rfl TF.t117 rfl)), trivial⟩ rfl ?_
   refine wl_val (v_assign' (by conv => (lhs; whnf))) rfl ?_
   refine wl_nil ⟨rfl, ?_⟩
   refine fl_nil (by kernel_rfl) trivial ?_
   refine then_go ?_
   refine wc_seq ?_
   refine wc_draw TF.mixed ?_
   have st := st.pure (touch_drew _)
   refine fl_val 0 rfl (fun _ => (v_iaa 7 Try.underlying118 TF.t117 rfl rfl (by first | rfl | omega) (by first | omega | (dsimp only at *; omega)))) rfl (by kernel_rfl) ?_
   refine fl_ld 1 rfl (v_load rfl (st.reads (v := u32 u.h) 0 rfl TF.t117 rfl)) (by kernel_rfl) ?_
   refine fl_val 2 rfl (fun _ => (v_move' (by conv => (lhs; whnf)))) rfl (by kernel_rfl) ?_
   refine fl_val 4 rfl (fun _ => (v_move' (by conv => (lhs; whnf)))) rfl (by kernel_rfl) ?_
   refine fl_val 7 rfl (fun _ => (v_move' (by conv => (lhs; whnf)))) rfl (by kernel_rfl) ?_
   refine fl_val 11 rfl (fun _ => (v_move' (by conv => (lhs; whnf)))) rfl (by kernel_rfl) ?_
   refine fl_val 12 rfl (fun _ => (v_iaa 5 Try.underlying118 TF.t117 rfl rfl (by first | rfl | omega) (by first | omega | (dsimp only at *; omega)))) rfl (by kernel_rfl) ?_
   refine fl_ld 13 rfl (v_load rfl (st.reads (v := u32 u.f) 0 rfl TF.t117 rfl)) (by kernel_rfl) ?_
   refine fl_val 14 rfl (fun _ => (v_and32 rfl rfl)) rfl (by kernel_rfl) ?_
   refine fl_val 15 rfl (fun _ => (v_move' (by conv => (lhs; whnf)))) rfl (by kernel_rfl) ?_
   refine fl_val 16 rfl (fun _ => (v_not32 Try.underlying117 rfl)) rfl (by kernel_rfl) ?_
   refine fl_val 17 rfl (fun _ => (v_iaa 6 Try.underlying118 TF.t117 rfl rfl (by first | rfl | omega) (by first | omega | (dsimp only at *; omega)))) rfl (by kernel_rfl) ?_
   refine fl_ld 18 rfl (v_load rfl (st.reads (v := u32 u.g) 0 rfl TF.t117 rfl)) (by kernel_rfl) ?_
   refine fl_val 19 rfl (fun _ => (v_and32 rfl rfl)) rfl (by kernel_rfl) ?_
   refine fl_val 20 rfl (fun _ => (v_xor32 rfl rfl)) rfl (by kernel_rfl) ?_
   refine fl_val 22 rfl (fun _ => (v_move' (by conv => (lhs; whnf)))) rfl (by kernel_rfl) ?_
   refine fl_val 23 rfl (fun _ => (v_iaa j Try.underlying139 TF.t117 rfl rfl (by first | rfl | omega) (by first | omega | (dsimp only at *; omega)))) rfl (by kernel_rfl) ?_
   refine fl_ld 24 rfl (v_load rfl (st.reads (v := u32 kj) 1 rfl TF.t117 (by rw [hkj]; exact getV_wse (j := j) (by omega) (by rw [length_kk]; omega)))) (by kernel_rfl) ?_
   refine fl_val 26 rfl (fun _ => (v_move' (by conv => (lhs; whnf)))) rfl (by kernel_rfl) ?_
   refine fl_val 27 rfl (fun _ => (v_iaa j Try.underlying139 TF.t117 rfl rfl (by first | rfl | omega) (by first | omega | (dsimp only at *; omega)))) rfl (by kernel_rfl) ?_
   refine fl_ld 28 rfl (v_load rfl (st.reads (v := u32 wj) 2 rfl TF.t117 (by rw [hwj]; exact getV_wse (j := j) (by omega) (by rw [length_sched]; omega)))) (by kernel_rfl) ?_
   refine fl_eff1 3 [27, 26, 23, 22, 20, 19, 17, 16, 15, 14, 12, 11, 7, 4, 0] [28, 24, 18, 13, 1] (by kernel_rfl) ⟨obl_ld rfl rfl rfl (v_load rfl (st.reads (v := u32 wj) 2 rfl TF.t117 (by rw [hwj]; exact getV_wse (j := j) (by omega) (by rw [length_sched]; omega)))), obl_ld rfl rfl rfl (v_load rfl (st.reads (v := u32 kj) 1 rfl TF.t117 (by rw [hkj]; exact getV_wse (j := j) (by omega) (by rw [length_kk]; omega)))), obl_ld rfl rfl rfl (v_load rfl (st.reads (v := u32 u.g) 0 rfl TF.t117 rfl)), obl_ld rfl rfl rfl (v_load rfl (st.reads (v := u32 u.f) 0 rfl TF.t117 rfl)), obl_ld rfl rfl rfl (v_load rfl (st.reads (v := u32 u.h) 0 rfl TF.t117 rfl)), trivial⟩ rfl ?_
   refine wl_call rfl (c_rotl 6 (by decide) (by decide) (by decide)) rfl ?_
   rintro v31 w ⟨rfl, rfl⟩
   refine wl_nil ⟨rfl, ?_⟩
   refine fl_eff1 5 [27, 26, 23, 22, 20, 19, 17, 16, 15, 14, 12, 11, 7, 0] [28, 24, 18, 13, 1] (by kernel_rfl) ⟨obl_ld rfl rfl rfl (v_load rfl (st.reads (v := u32 wj) 2 rfl TF.t117 (by rw [hwj]; exact getV_wse (j := j) (by omega) (by rw [length_sched]; omega)))), obl_ld rfl rfl rfl (v_load rfl (st.reads (v := u32 kj) 1 rfl TF.t117 (by rw [hkj]; exact getV_wse (j := j) (by omega) (by rw [length_kk]; omega)))), obl_ld rfl rfl rfl (v_load rfl (st.reads (v := u32 u.g) 0 rfl TF.t117 rfl)), obl_ld rfl rfl rfl (v_load rfl (st.reads (v := u32 u.f) 0 rfl TF.t117 rfl)), obl_ld rfl rfl rfl (v_load rfl (st.reads (v := u32 u.h) 0 rfl TF.t117 rfl)), trivial⟩ rfl ?_
   refine wl_call rfl (c_rotl 11 (by decide) (by decide) (by decide)) rfl ?_
   rintro v33 w ⟨rfl, rfl⟩
   refine wl_nil ⟨rfl, ?_⟩
   refine fl_val 6 rfl (fun _ => (v_xor32 rfl rfl)) rfl (by kernel_rfl) ?_
   refine fl_eff1 8 [6, 27, 26, 23, 22, 20, 19, 17, 16, 15, 14, 12, 11, 0] [28, 24, 18, 13, 1] (by kernel_rfl) ⟨obl_ld rfl rfl rfl (v_load rfl (st.reads (v := u32 wj) 2 rfl TF.t117 (by rw [hwj]; exact getV_wse (j := j) (by omega) (by rw [length_sched]; omega)))), obl_ld rfl rfl rfl (v_load rfl (st.reads (v := u32 kj) 1 rfl TF.t117 (by rw [hkj]; exact getV_wse (j := j) (by omega) (by rw [length_kk]; omega)))), obl_ld rfl rfl rfl (v_load rfl (st.reads (v := u32 u.g) 0 rfl TF.t117 rfl)), obl_ld rfl rfl rfl (v_load rfl (st.reads (v := u32 u.f) 0 rfl TF.t117 rfl)), obl_ld rfl rfl rfl (v_load rfl (st.reads (v := u32 u.h) 0 rfl TF.t117 rfl)), trivial⟩ rfl ?_
   refine wl_call rfl (c_rotl 25 (by decide) (by decide) (by decide)) rfl ?_
   rintro v36 w ⟨rfl, rfl⟩
   refine wl_nil ⟨rfl, ?_⟩
   refine fl_val 9 rfl (fun _ => (v_xor32 rfl rfl)) rfl (by kernel_rfl) ?_
   refine fl_val 10 rfl (fun _ => (v_add32 rfl rfl)) rfl (by kernel_rfl) ?_
   refine fl_val 21 rfl (fun _ => (v_add32 rfl rfl)) rfl (by kernel_rfl) ?_
   refine fl_val 25 rfl (fun _ => (v_add32 rfl rfl)) rfl (by kernel_rfl) ?_
   refine fl_val 29 rfl (fun _ => (v_add32 rfl rfl)) rfl (by kernel_rfl) ?_
   refine fl_eff1 30 [] [] (by kernel_rfl) ⟨obl_ld rfl rfl rfl (v_load rfl (st.reads (v := u32 wj) 2 rfl TF.t117 (by rw [hwj]; exact getV_wse (j := j) (by omega) (by rw [length_sched]; omega)))), obl_ld rfl rfl rfl (v_load rfl (st.reads (v := u32 kj) 1 rfl TF.t117 (by rw [hkj]; exact getV_wse (j := j) (by omega) (by rw [length_kk]; omega)))), obl_ld rfl rfl rfl (v_load rfl (st.reads (v := u32 u.g) 0 rfl TF.t117 rfl)), obl_ld rfl rfl rfl (v_load rfl (st.reads (v := u32 u.f) 0 rfl TF.t117 rfl)), obl_ld rfl rfl rfl (v_load rfl (st.reads (v := u32 u.h) 0 rfl TF.t117 rfl)), trivial⟩ rfl ?_
   refine wl_val (v_assign' (by conv => (lhs; whnf))) rfl ?_
   refine wl_nil ⟨rfl, ?_⟩
   refine fl_nil (by kernel_rfl) trivial ?_
   refine then_go ?_
   refine wc_seq ?_
   refine wc_draw TF.mixed ?_
   have st := st.pure (touch_drew _)
   refine fl_val 0 rfl (fun _ => (v_move' (by conv => (lhs; whnf)))) rfl (by kernel_rfl) ?_
   refine fl_val 2 rfl (fun _ => (v_move' (by conv => (lhs; whnf)))) rfl (by kernel_rfl) ?_
   refine fl_val 5 rfl (fun _ => (v_move' (by conv => (lhs; whnf)))) rfl (by kernel_rfl) ?_
   refine fl_val 8 rfl (fun _ => (v_move' (by conv => (lhs; whnf)))) rfl (by kernel_rfl) ?_
   refine fl_val 9 rfl (fun _ => (v_iaa 1 Try.underlying118 TF.t117 rfl rfl (by first | rfl | omega) (by first | omega | (dsimp only at *; omega)))) rfl (by kernel_rfl) ?_
   refine fl_ld 10 rfl (v_load rfl (st.reads (v := u32 u.b) 0 rfl TF.t117 rfl)) (by kernel_rfl) ?_
   refine fl_val 11 rfl (fun _ => (v_and32 rfl rfl)) rfl (by kernel_rfl) ?_
   refine fl_val 12 rfl (fun _ => (v_move' (by conv => (lhs; whnf)))) rfl (by kernel_rfl) ?_
   refine fl_val 13 rfl (fun _ => (v_iaa 2 Try.underlying118 TF.t117 rfl rfl (by first | rfl | omega) (by first | omega | (dsimp only at *; omega)))) rfl (by kernel_rfl) ?_
   refine fl_ld 14 rfl (v_load rfl (st.reads (v := u32 u.c) 0 rfl TF.t117 rfl)) (by kernel_rfl) ?_
   refine fl_val 15 rfl (fun _ => (v_and32 rfl rfl)) rfl (by kernel_rfl) ?_
   refine fl_val 16 rfl (fun _ => (v_xor32 rfl rfl)) rfl (by kernel_rfl) ?_
   refine fl_val 17 rfl (fun _ => (v_iaa 1 Try.underlying118 TF.t117 rfl rfl (by first | rfl | omega) (by first | omega | (dsimp only at *; omega)))) rfl (by kernel_rfl) ?_
   refine fl_ld 18 rfl (v_load rfl (st.reads (v := u32 u.b) 0 rfl TF.t117 rfl)) (by kernel_rfl) ?_
   refine fl_val 19 rfl (fun _ => (v_iaa 2 Try.underlying118 TF.t117 rfl rfl (by first | rfl | omega) (by first | omega | (dsimp only at *; omega)))) rfl (by kernel_rfl) ?_
   refine fl_ld 20 rfl (v_load rfl (st.reads (v := u32 u.c) 0 rfl TF.t117 rfl)) (by kernel_rfl) ?_
   refine fl_val 21 rfl (fun _ => (v_and32 rfl rfl)) rfl (by kernel_rfl) ?_
   refine fl_val 22 rfl (fun _ => (v_xor32 rfl rfl)) rfl (by kernel_rfl) ?_
   refine fl_eff1 1 [22, 21, 19, 17, 16, 15, 13, 12, 11, 9, 8, 5, 2] [20, 18, 14, 10] (by kernel_rfl) ⟨obl_ld rfl rfl rfl (v_load rfl (st.reads (v := u32 u.c) 0 rfl TF.t117 rfl)), obl_ld rfl rfl rfl (v_load rfl (st.reads (v := u32 u.b) 0 rfl TF.t117 rfl)), obl_ld rfl rfl rfl (v_load rfl (st.reads (v := u32 u.c) 0 rfl TF.t117 rfl)), obl_ld rfl rfl rfl (v_load rfl (st.reads (v := u32 u.b) 0 rfl TF.t117 rfl)), trivial⟩ rfl ?_
   refine wl_call rfl (c_rotl 2 (by decide) (by decide) (by decide)) rfl ?_
   rintro v59 w ⟨rfl, rfl⟩
   refine wl_nil ⟨rfl, ?_⟩
   refine fl_eff1 3 [22, 21, 19, 17, 16, 15, 13, 12, 11, 9, 8, 5] [20, 18, 14, 10] (by kernel_rfl) ⟨obl_ld rfl rfl rfl (v_load rfl (st.reads (v := u32 u.c) 0 rfl TF.t117 rfl)), obl_ld rfl rfl rfl (v_load rfl (st.reads (v := u32 u.b) 0 rfl TF.t117 rfl)), obl_ld rfl rfl rfl (v_load rfl (st.reads (v := u32 u.c) 0 rfl TF.t117 rfl)), obl_ld rfl rfl rfl (v_load rfl (st.reads (v := u32 u.b) 0 rfl TF.t117 rfl)), trivial⟩ rfl ?_
   refine wl_call rfl (c_rotl 13 (by decide) (by decide) (by decide)) rfl ?_
   rintro v61 w ⟨rfl, rfl⟩
   refine wl_nil ⟨rfl, ?_⟩
   refine fl_val 4 rfl (fun _ => (v_xor32 rfl rfl)) rfl (by kernel_rfl) ?_
   refine fl_eff1 6 [4, 22, 21, 19, 17, 16, 15, 13, 12, 11, 9, 8] [20, 18, 14, 10] (by kernel_rfl) ⟨obl_ld rfl rfl rfl (v_load rfl (st.reads (v := u32 u.c) 0 rfl TF.t117 rfl)), obl_ld rfl rfl rfl (v_load rfl (st.reads (v := u32 u.b) 0 rfl TF.t117 rfl)), obl_ld rfl rfl rfl (v_load rfl (st.reads (v := u32 u.c) 0 rfl TF.t117 rfl)), obl_ld rfl rfl rfl (v_load rfl (st.reads (v := u32 u.b) 0 rfl TF.t117 rfl)), trivial⟩ rfl ?_
   refine wl_call rfl (c_rotl 22 (by decide) (by decide) (by decide)) rfl ?_
   rintro v64 w ⟨rfl, rfl⟩
   refine wl_nil ⟨rfl, ?_⟩
   refine fl_val 7 rfl (fun _ => (v_xor32 rfl rfl)) rfl (by kernel_rfl) ?_
   refine fl_val 23 rfl (fun _ => (v_add32 rfl rfl)) rfl (by kernel_rfl) ?_
   refine fl_eff1 24 [] [] (by kernel_rfl) ⟨obl_ld rfl rfl rfl (v_load rfl (st.reads (v := u32 u.c) 0 rfl TF.t117 rfl)), obl_ld rfl rfl rfl (v_load rfl (st.reads (v := u32 u.b) 0 rfl TF.t117 rfl)), obl_ld rfl rfl rfl (v_load rfl (st.reads (v := u32 u.c) 0 rfl TF.t117 rfl)), obl_ld rfl rfl rfl (v_load rfl (st.reads (v := u32 u.b) 0 rfl TF.t117 rfl)), trivial⟩ rfl ?_
   refine wl_val (v_assign' (by conv => (lhs; whnf))) rfl ?_
   refine wl_nil ⟨rfl, ?_⟩
   refine fl_nil (by kernel_rfl) trivial ?_
   refine then_go ?_
   refine wc_seq ?_
   refine wc_draw TF.mixed ?_
   have st := st.pure (touch_drew _)
   refine fl_val 0 rfl (fun _ => (v_sla 1 8 Try.underlying118 TF.t117 rfl ⟨_, _, rfl, rfl⟩ rfl (by omega) (by omega) (by omega))) rfl (by kernel_rfl) ?_
   refine fl_val 1 rfl (fun _ => (v_sla 0 7 Try.underlying118 TF.t117 rfl rfl ⟨_, _, rfl, rfl⟩ (by omega) (by omega) (by omega))) rfl (by kernel_rfl) ?_
   refine fl_eff1 2 [] [] (by kernel_rfl) trivial rfl ?_
   refine wl_copy (size := 1) (b := b4) (off := 0 + 1 * 1) (len := 8 - 1) (cap := 8 - 1) (j := 7) (news := ws [u.a, u.b, u.c, u.d, u.e, u.f, u.g]) 0 st rfl Try.underlying158 TF.t117 rfl rfl (st.srcArr (off := 0) 0 rfl rfl (fun j x hj => by rw [Nat.zero_add]; match j, hj with | 0, hj => exact hj | 1, hj => exact hj | 2, hj => exact hj | 3, hj => exact hj | 4, hj => exact hj | 5, hj => exact hj | 6, hj => exact hj | j + 7, hj => exact absurd hj (by simp [ws])) (one_ws _)) (by simp [ws, V8.l]) rfl ?_
   intro w st
   refine wl_nil ⟨rfl, ?_⟩
   refine fl_nil (by kernel_rfl) trivial ?_
   have e : setSeg (ws u.l).toArray (0 + 1 * 1) ((ws [u.a, u.b, u.c, u.d, u.e, u.f, u.g]).take (min 7 (8 - 1) * 1)) = (ws [u.a, u.a, u.b, u.c, u.d, u.e, u.f, u.g]).toArray := rfl
   change St _ _ _ _ _ [K.blk b4 (setSeg (ws u.l).toArray (0 + 1 * 1) ((ws [u.a, u.b, u.c, u.d, u.e, u.f, u.g]).take (min 7 (8 - 1) * 1))) _, _, _, _] at st
   rw [e] at st
   refine then_go ?_
   refine wc_region ?_
   refine wl_val (v_move' (by conv => (lhs; whnf))) rfl ?_
   refine wl_val (v_move' (by conv => (lhs; whnf))) rfl ?_
   refine wl_val (v_add32 rfl rfl) rfl ?_
   refine wl_val (v_iaa 4 Try.underlying118 TF.t117 rfl rfl (by first | rfl | omega) (by first | omega | (dsimp only at *; omega))) rfl ?_
   refine wl_val (v_load rfl (st.reads (v := u32 u.d) 0 rfl TF.t117 rfl)) rfl ?_
   refine wl_val (v_move' (by conv => (lhs; whnf))) rfl ?_
   refine wl_val (v_add32 rfl rfl) rfl ?_
   refine wl_val (v_iaa 0 Try.underlying118 TF.t117 rfl rfl (by first | rfl | omega) (by first | omega | (dsimp only at *; omega))) rfl ?_
   refine wl_store1 (v := u32 (t1 u kj wj + t2 u)) 0 st rfl TF.t117 rfl rfl rfl (by simp [ws]) ?_
   intro w st
   refine wl_val (v_iaa 4 Try.underlying118 TF.t117 rfl rfl (by first | rfl | omega) (by first | omega | (dsimp only at *; omega))) rfl ?_
   refine wl_store1 (v := u32 (u.d + t1 u kj wj)) 0 st rfl TF.t117 rfl rfl rfl (by simp [ws]) ?_
   intro w st
   refine wl_nil ?_
   have e : (((ws [u.a, u.a, u.b, u.c, u.d, u.e, u.f, u.g]).toArray.setIfInBounds (0 + 0 * 1) (u32 (t1 u kj wj + t2 u))).setIfInBounds (0 + 4 * 1) (u32 (u.d + t1 u kj wj))) = (ws (rnd u kj wj).l).toArray := rfl
   change St _ _ _ _ _ [K.blk b4 (((ws [u.a, u.a, u.b, u.c, u.d, u.e, u.f, u.g]).toArray.setIfInBounds (0 + 0 * 1) (u32 (t1 u kj wj + t2 u))).setIfInBounds (0 + 4 * 1) (u32 (u.d + t1 u kj wj))) _, _, _, _] at st
   rw [e, show rnd u kj wj = rnds (j + 1) v (sched bk) by rw [hu, hkj, hwj]; rfl] at st
   refine block_go (then_go ?_)
   refine wc_region ?_
   refine wl_val (v_add' rfl rfl rfl (by first | omega | (dsimp only at *; omega)) (by first | omega | (dsimp only at *; omega))) rfl ?_
   refine wl_val (v_move' (by conv => (lhs; whnf))) rfl ?_
   refine wl_nil ?_
   refine then_go ?_
   exact ⟨q - 1, by simp; omega, j + 1, by omega, rfl, rfl, rfl, rfl, rfl, st⟩
  ·refine wc_exit (then_exit (then_exit (block_hit ?_)))
   refine then_go ?_
   refine wc_seq ?_
   refine wc_seq ?_
   have hj64 : j = 64 := by omega
   subst hj64
   obtain ⟨u, hu⟩ : ∃ u, u = rnds 64 v (sched bk) := ⟨_, rfl⟩
   rw [← hu] at st
   have e0 : hashC v bk hv n = (ws (addI v u 0) ++ (bs bk ++ [.int .i64 hv, u64 n])).toArray := by simp [hashC, addI_zero]
   rw [e0] at st
   refine wc_region ?_
   refine wl_val (v_load rfl (st.reads 0 rfl TF.t118 (getV_all (c := (ws u.l).toArray) rfl))) rfl ?_
   refine wl_val (v_move' (by conv => (lhs; whnf))) rfl ?_
   refine wl_nil ?_
   refine then_go ?_
   refine wc_block ?_
   refine wc_loop (S := Nat) (fun q r w' => ∃ i, q + i = 8 ∧ r 0 = .pointer (some ⟨b, 0, none⟩) ∧ r 95 = arr32 u.l ∧ r 96 = .int .i64 i ∧
    St m m [b] wI w' [K.blk b4 (ws u.l).toArray 118, K.blk b3 (ws kk).toArray 139, K.blk b2 (ws (sched bk)).toArray 139, K.blk b (ws (addI v u i) ++ (bs bk ++ [.int .i64 hv, u64 n])).toArray 146]) id 8 ⟨0, rfl, rfl, rfl, rfl, st⟩ ?_
   rintro q2 r w3 ⟨i, hqi, h0, h95, h96, st⟩
   refine wc_o 0 h0 (wc_o 95 h95 (wc_o 96 h96 ?_))
   refine wc_seq ?_
   refine wc_region ?_
   refine wl_val (v_lss rfl rfl) rfl ?_
   refine wl_nil ?_
   refine then_go ?_
   refine wc_seq ?_
   refine wc_if rfl (fun h97 => ?_) (fun h97 => ?_)
   ·refine wc_skip ?_
    refine then_go ?_
    refine wc_seq ?_
    refine wc_block ?_
    refine wc_seq ?_
    have hi : i < 8 := by omega
    refine wc_region ?_
    refine wl_val (v_move' (by conv => (lhs; whnf))) rfl ?_
    refine wl_val (v_index_a (v := u32 (u.l.getD i 0)) Try.underlying118 TF.t117 rfl rfl (by omega) (by omega) (getV_wse (j := i) (by simp) (by rw [length_l]; omega))) rfl ?_
    refine wl_val (v_assign' (by conv => (lhs; whnf))) rfl ?_
    refine wl_val (v_assign' (by conv => (lhs; whnf))) rfl ?_
    refine wl_nil ?_
    refine then_go ?_
    refine wc_draw TF.mixed ?_
    have st := st.pure (touch_drew _)
    refine fl_val 0 rfl (fun _ => (v_move' (by conv => (lhs; whnf)))) rfl (by kernel_rfl) ?_
    refine fl_val 1 rfl (fun _ => (v_move' (by conv => (lhs; whnf)))) rfl (by kernel_rfl) ?_
    refine fl_val 2 rfl (fun _ => (v_nil rfl)) rfl (by kernel_rfl) ?_
    refine fl_val 3 rfl (fun _ => (v_fa TF.f146_0 rfl)) rfl (by kernel_rfl) ?_
    refine fl_val 4 rfl (fun _ => (v_iaa i Try.underlying118 TF.t117 rfl rfl (by first | rfl | omega) (by first | omega | (dsimp only at *; omega)))) rfl (by kernel_rfl) ?_
    refine fl_ld 5 rfl (v_load rfl (st.reads (v := u32 (v.l.getD i 0)) 3 rfl TF.t117 (by rw [← addI_at v u i hi]; exact getV_ws (j := i) (by omega) (by rw [length_addI]; omega)))) (by kernel_rfl) ?_
    refine fl_val 6 rfl (fun _ => (v_move' (by conv => (lhs; whnf)))) rfl (by kernel_rfl) ?_
    refine fl_val 7 rfl (fun _ => (v_add32 rfl rfl)) rfl (by kernel_rfl) ?_
    refine fl_val 8 rfl (fun _ => (v_nil rfl)) rfl (by kernel_rfl) ?_
    refine fl_val 9 rfl (fun _ => (v_fa TF.f146_0 rfl)) rfl (by kernel_rfl) ?_
    refine fl_val 10 rfl (fun _ => (v_iaa i Try.underlying118 TF.t117 rfl rfl (by first | rfl | omega) (by first | omega | (dsimp only at *; omega)))) rfl (by kernel_rfl) ?_
    refine fl_eff1 11 [9, 8] [] (by kernel_rfl) ⟨obl_ld rfl rfl rfl (v_load rfl (st.reads (v := u32 (v.l.getD i 0)) 3 rfl TF.t117 (by rw [← addI_at v u i hi]; exact getV_ws (j := i) (by omega) (by rw [length_addI]; omega)))), trivial⟩ rfl ?_
    refine wl_store1 (v := u32 (v.l.getD i 0 + u.l.getD i 0)) 3 st rfl TF.t117 rfl rfl rfl (by simp [ws, length_addI]; omega) ?_
    intro w st
    refine wl_nil ⟨rfl, ?_⟩
    refine fl_nil (by kernel_rfl) trivial ?_
    refine block_go (then_go ?_)
    refine wc_region ?_
    refine wl_val (v_add' rfl rfl rfl (by first | omega | (dsimp only at *; omega)) (by first | omega | (dsimp only at *; omega))) rfl ?_
    refine wl_val (v_move' (by conv => (lhs; whnf))) rfl ?_
    refine wl_nil ?_
    refine then_go ?_
    refine ⟨q2 - 1, by simp; omega, i + 1, by omega, rfl, rfl, rfl, ?_⟩
    have e := set_ws (L := addI v u i) (X := bs bk ++ [.int .i64 hv, u64 n]) (o := 0 + 0 + i * 1) (i := i) (y := v.l.getD i 0 + u.l.getD i 0) (by omega) (by rw [length_addI]; omega)
    rw [addI_succ] at e
    rw [← e]
    exact st
   ·refine wc_exit (then_exit (then_exit (block_hit ?_)))
    refine then_go ?_
    have hi8 : i = 8 := by omega
    subst hi8
    rw [addI_all, hu] at st
    refine wc_region ?_
    refine wl_val (v_move' (by conv => (lhs; whnf))) rfl ?_
    refine wl_val (v_nil rfl) rfl ?_
    refine wl_val (v_fa TF.f146_2 rfl) rfl ?_
    refine wl_store1 (v := .int .i64 0) 3 st rfl TF.t3 rfl rfl rfl (by simp [ws, bs, hl, length_l]) ?_
    intro w st
    refine wl_nil ?_
    have e : (ws (v.add (rnds 64 v (sched bk))).l ++ (bs bk ++ [.int .i64 hv, u64 n])).toArray.setIfInBounds (0 + 72) (.int .i64 0) = hashC (comp v bk) bk 0 n := by
     have := set_app (A := ws (v.add (rnds 64 v (sched bk))).l ++ bs bk) (B := [u64 n]) (x := .int .i64 0) (y := .int .i64 hv) (n := 0 + 72) (by simp [ws, bs, hl, length_l])
     rw [← List.append_assoc]
     rw [show [Value.int .i64 hv, u64 n] = Value.int .i64 hv :: [u64 n] from rfl, this]
     rfl
    have hfin := st.at (i := 3) rfl
    rw [e] at hfin
    exact end0 ⟨st.touch, hfin⟩
 refine fl_val 0 rfl (fun _ => (v_move' (by conv => (lhs; whnf)))) rfl (by kernel_rfl) ?_
 refine fl_val 1 rfl (fun _ => (v_nil rfl)) rfl (by kernel_rfl) ?_
 refine fl_val 2 rfl (fun _ => (v_fa TF.f146_1 rfl)) rfl (by kernel_rfl) ?_
 refine fl_val 5 rfl (fun _ => (v_move' (by conv => (lhs; whnf)))) rfl (by kernel_rfl) ?_
 refine fl_val 6 rfl (fun _ => (v_nil rfl)) rfl (by kernel_rfl) ?_
 refine fl_val 7 rfl (fun _ => (v_fa TF.f146_0 rfl)) rfl (by kernel_rfl) ?_
 refine fl_ld 8 rfl (v_load rfl (by first | exact st.reads 0 rfl TF.t118 (getV_state ..) | exact st.reads 1 rfl TF.t118 (getV_state ..) | exact st.reads 2 rfl TF.t118 (getV_state ..) | exact st.reads 3 rfl TF.t118 (getV_state ..))) (by kernel_rfl) ?_
 refine fl_effs [3, 9, 10, 11] (by kernel_rfl) ⟨obl_ld rfl rfl rfl (v_load rfl (by first | exact st.reads 0 rfl TF.t118 (getV_state ..) | exact st.reads 1 rfl TF.t118 (getV_state ..) | exact st.reads 2 rfl TF.t118 (getV_state ..) | exact st.reads 3 rfl TF.t118 (getV_state ..))), trivial⟩ (all4 ?_ ?_ ?_ ?_)
 ·refine stepE 3 (pure' := [7, 6, 5, 1, 0]) (lds' := [8]) rfl (by kernel_rfl) (by kernel_rfl) ?_
  refine wl_call rfl (by first | exact c_spreadS st 0 rfl hl | exact c_spreadS st 1 rfl hl | exact c_spreadS st 2 rfl hl | exact c_spreadS st 3 rfl hl) rfl ?_
  rintro v15 w ⟨t, rfl⟩
  have st := st.pure t
  refine wl_nil ⟨rfl, ?_⟩
  refine fl_effs [4, 9, 10, 11] (by kernel_rfl) ⟨obl_ld rfl rfl rfl (v_load rfl (by first | exact st.reads 0 rfl TF.t118 (getV_state ..) | exact st.reads 1 rfl TF.t118 (getV_state ..) | exact st.reads 2 rfl TF.t118 (getV_state ..) | exact st.reads 3 rfl TF.t118 (getV_state ..))), trivial⟩ (all4 ?_ ?_ ?_ ?_)
  ·refine stepE 4 (pure' := [7, 6, 5, 1, 0]) (lds' := [8]) rfl (by kernel_rfl) (by kernel_rfl) ?_
   refine wl_call rfl (c_factors st.im) rfl ?_
   rintro v16 w ⟨t, rfl⟩
   have st := st.pure t
   refine wl_nil ⟨rfl, ?_⟩
   refine fl_effs [9, 10, 11] (by kernel_rfl) ⟨obl_ld rfl rfl rfl (v_load rfl (by first | exact st.reads 0 rfl TF.t118 (getV_state ..) | exact st.reads 1 rfl TF.t118 (getV_state ..) | exact st.reads 2 rfl TF.t118 (getV_state ..) | exact st.reads 3 rfl TF.t118 (getV_state ..))), trivial⟩ (all3 ?_ ?_ ?_)
   ·refine stepE 9 (pure' := [7, 6, 5, 1, 0]) (lds' := [8]) rfl (by kernel_rfl) (by kernel_rfl) ?_
    refine wl_alloc TF.z139 st rfl ?_
    intro b2 w st
    refine wl_nil ⟨rfl, ?_⟩
    refine fl_effs [10, 11] (by kernel_rfl) ⟨obl_ld rfl rfl rfl (v_load rfl (by first | exact st.reads 0 rfl TF.t118 (getV_state ..) | exact st.reads 1 rfl TF.t118 (getV_state ..) | exact st.reads 2 rfl TF.t118 (getV_state ..) | exact st.reads 3 rfl TF.t118 (getV_state ..))), trivial⟩ (all2 ?_ ?_)
    ·refine stepE 10 (pure' := [7, 6, 5, 1, 0]) (lds' := [8]) rfl (by kernel_rfl) (by kernel_rfl) ?_
     refine wl_alloc TF.z139 st rfl ?_
     intro b3 w st
     refine wl_nil ⟨rfl, ?_⟩
     refine fl_eff1 11 [7, 6, 5, 1, 0] [8] (by kernel_rfl) ⟨obl_ld rfl rfl rfl (v_load rfl (by first | exact st.reads 0 rfl TF.t118 (getV_state ..) | exact st.reads 1 rfl TF.t118 (getV_state ..) | exact st.reads 2 rfl TF.t118 (getV_state ..) | exact st.reads 3 rfl TF.t118 (getV_state ..))), trivial⟩ rfl ?_
     refine wl_alloc TF.z118 st rfl ?_
     intro b4 w st
     refine wl_nil ⟨rfl, ?_⟩
     refine FL.permB [11, 10, 9, 4, 3, 8, 7, 6, 5, 2, 1, 0] [7, 6, 5, 1, 0] [8] (by kernel_rfl) ?_
     exact fin _ _ _ _ _ rfl rfl rfl rfl rfl rfl rfl rfl rfl rfl (by first | exact st | exact st.perm p3_2 | exact st.perm p3_3 | exact st.perm p3_4 | exact st.perm p3_5 | exact st.perm p3_6)
    ·refine stepE 11 (pure' := [7, 6, 5, 1, 0]) (lds' := [8]) rfl (by kernel_rfl) (by kernel_rfl) ?_
     refine wl_alloc TF.z118 st rfl ?_
     intro b4 w st
     refine wl_nil ⟨rfl, ?_⟩
     refine fl_eff1 10 [7, 6, 5, 1, 0] [8] (by kernel_rfl) ⟨obl_ld rfl rfl rfl (v_load rfl (by first | exact st.reads 0 rfl TF.t118 (getV_state ..) | exact st.reads 1 rfl TF.t118 (getV_state ..) | exact st.reads 2 rfl TF.t118 (getV_state ..) | exact st.reads 3 rfl TF.t118 (getV_state ..))), trivial⟩ rfl ?_
     refine wl_alloc TF.z139 st rfl ?_
     intro b3 w st
     refine wl_nil ⟨rfl, ?_⟩
     refine FL.permB [11, 10, 9, 4, 3, 8, 7, 6, 5, 2, 1, 0] [7, 6, 5, 1, 0] [8] (by kernel_rfl) ?_
     exact fin _ _ _ _ _ rfl rfl rfl rfl rfl rfl rfl rfl rfl rfl (by first | exact st | exact st.perm p3_2 | exact st.perm p3_3 | exact st.perm p3_4 | exact st.perm p3_5 | exact st.perm p3_6)
   ·refine stepE 10 (pure' := [7, 6, 5, 1, 0]) (lds' := [8]) rfl (by kernel_rfl) (by kernel_rfl) ?_
    refine wl_alloc TF.z139 st rfl ?_
    intro b3 w st
    refine wl_nil ⟨rfl, ?_⟩
    refine fl_effs [9, 11] (by kernel_rfl) ⟨obl_ld rfl rfl rfl (v_load rfl (by first | exact st.reads 0 rfl TF.t118 (getV_state ..) | exact st.reads 1 rfl TF.t118 (getV_state ..) | exact st.reads 2 rfl TF.t118 (getV_state ..) | exact st.reads 3 rfl TF.t118 (getV_state ..))), trivial⟩ (all2 ?_ ?_)
    ·refine stepE 9 (pure' := [7, 6, 5, 1, 0]) (lds' := [8]) rfl (by kernel_rfl) (by kernel_rfl) ?_
     refine wl_alloc TF.z139 st rfl ?_
     intro b2 w st
     refine wl_nil ⟨rfl, ?_⟩
     refine fl_eff1 11 [7, 6, 5, 1, 0] [8] (by kernel_rfl) ⟨obl_ld rfl rfl rfl (v_load rfl (by first | exact st.reads 0 rfl TF.t118 (getV_state ..) | exact st.reads 1 rfl TF.t118 (getV_state ..) | exact st.reads 2 rfl TF.t118 (getV_state ..) | exact st.reads 3 rfl TF.t118 (getV_state ..))), trivial⟩ rfl ?_
     refine wl_alloc TF.z118 st rfl ?_
     intro b4 w st
     refine wl_nil ⟨rfl, ?_⟩
     refine FL.permB [11, 10, 9, 4, 3, 8, 7, 6, 5, 2, 1, 0] [7, 6, 5, 1, 0] [8] (by kernel_rfl) ?_
     exact fin _ _ _ _ _ rfl rfl rfl rfl rfl rfl rfl rfl rfl rfl (by first | exact st | exact st.perm p3_2 | exact st.perm p3_3 | exact st.perm p3_4 | exact st.perm p3_5 | exact st.perm p3_6)
    ·refine stepE 11 (pure' := [7, 6, 5, 1, 0]) (lds' := [8]) rfl (by kernel_rfl) (by kernel_rfl) ?_
     refine wl_alloc TF.z118 st rfl ?_
     intro b4 w st
     refine wl_nil ⟨rfl, ?_⟩
     refine fl_eff1 9 [7, 6, 5, 1, 0] [8] (by kernel_rfl) ⟨obl_ld rfl rfl rfl (v_load rfl (by first | exact st.reads 0 rfl TF.t118 (getV_state ..) | exact st.reads 1 rfl TF.t118 (getV_state ..) | exact st.reads 2 rfl TF.t118 (getV_state ..) | exact st.reads 3 rfl TF.t118 (getV_state ..))), trivial⟩ rfl ?_
     refine wl_alloc TF.z139 st rfl ?_
     intro b2 w st
     refine wl_nil ⟨rfl, ?_⟩
     refine FL.permB [11, 10, 9, 4, 3, 8, 7, 6, 5, 2, 1, 0] [7, 6, 5, 1, 0] [8] (by kernel_rfl) ?_
     exact fin _ _ _ _ _ rfl rfl rfl rfl rfl rfl rfl rfl rfl rfl (by first | exact st | exact st.perm p3_2 | exact st.perm p3_3 | exact st.perm p3_4 | exact st.perm p3_5 | exact st.perm p3_6)
   ·refine stepE 11 (pure' := [7, 6, 5, 1, 0]) (lds' := [8]) rfl (by kernel_rfl) (by kernel_rfl) ?_
    refine wl_alloc TF.z118 st rfl ?_
    intro b4 w st
    refine wl_nil ⟨rfl, ?_⟩
    refine fl_effs [9, 10] (by kernel_rfl) ⟨obl_ld rfl rfl rfl (v_load rfl (by first | exact st.reads 0 rfl TF.t118 (getV_state ..) | exact st.reads 1 rfl TF.t118 (getV_state ..) | exact st.reads 2 rfl TF.t118 (getV_state ..) | exact st.reads 3 rfl TF.t118 (getV_state ..))), trivial⟩ (all2 ?_ ?_)
    ·refine stepE 9 (pure' := [7, 6, 5, 1, 0]) (lds' := [8]) rfl (by kernel_rfl) (by kernel_rfl) ?_
     refine wl_alloc TF.z139 st rfl ?_
     intro b2 w st
     refine wl_nil ⟨rfl, ?_⟩
     refine fl_eff1 10 [7, 6, 5, 1, 0] [8] (by kernel_rfl) ⟨obl_ld rfl rfl rfl (v_load rfl (by first | exact st.reads 0 rfl TF.t118 (getV_state ..) | exact st.reads 1 rfl TF.t118 (getV_state ..) | exact st.reads 2 rfl TF.t118 (getV_state ..) | exact st.reads 3 rfl TF.t118 (getV_state ..))), trivial⟩ rfl ?_
     refine wl_alloc TF.z139 st rfl ?_
     intro b3 w st
     refine wl_nil ⟨rfl, ?_⟩
     refine FL.permB [11, 10, 9, 4, 3, 8, 7, 6, 5, 2, 1, 0] [7, 6, 5, 1, 0] [8] (by kernel_rfl) ?_
     exact fin _ _ _ _ _ rfl rfl rfl rfl rfl rfl rfl rfl rfl rfl (by first | exact st | exact st.perm p3_2 | exact st.perm p3_3 | exact st.perm p3_4 | exact st.perm p3_5 | exact st.perm p3_6)
    ·refine stepE 10 (pure' := [7, 6, 5, 1, 0]) (lds' := [8]) rfl (by kernel_rfl) (by kernel_rfl) ?_
     refine wl_alloc TF.z139 st rfl ?_
     intro b3 w st
     refine wl_nil ⟨rfl, ?_⟩
     refine fl_eff1 9 [7, 6, 5, 1, 0] [8] (by kernel_rfl) ⟨obl_ld rfl rfl rfl (v_load rfl (by first | exact st.reads 0 rfl TF.t118 (getV_state ..) | exact st.reads 1 rfl TF.t118 (getV_state ..) | exact st.reads 2 rfl TF.t118 (getV_state ..) | exact st.reads 3 rfl TF.t118 (getV_state ..))), trivial⟩ rfl ?_
     refine wl_alloc TF.z139 st rfl ?_
     intro b2 w st
     refine wl_nil ⟨rfl, ?_⟩
     refine FL.permB [11, 10, 9, 4, 3, 8, 7, 6, 5, 2, 1, 0] [7, 6, 5, 1, 0] [8] (by kernel_rfl) ?_
     exact fin _ _ _ _ _ rfl rfl rfl rfl rfl rfl rfl rfl rfl rfl (by first | exact st | exact st.perm p3_2 | exact st.perm p3_3 | exact st.perm p3_4 | exact st.perm p3_5 | exact st.perm p3_6)
  ·refine stepE 9 (pure' := [7, 6, 5, 1, 0]) (lds' := [8]) rfl (by kernel_rfl) (by kernel_rfl) ?_
   refine wl_alloc TF.z139 st rfl ?_
   intro b2 w st
   refine wl_nil ⟨rfl, ?_⟩
   refine fl_effs [4, 10, 11] (by kernel_rfl) ⟨obl_ld rfl rfl rfl (v_load rfl (by first | exact st.reads 0 rfl TF.t118 (getV_state ..) | exact st.reads 1 rfl TF.t118 (getV_state ..) | exact st.reads 2 rfl TF.t118 (getV_state ..) | exact st.reads 3 rfl TF.t118 (getV_state ..))), trivial⟩ (all3 ?_ ?_ ?_)
   ·refine stepE 4 (pure' := [7, 6, 5, 1, 0]) (lds' := [8]) rfl (by kernel_rfl) (by kernel_rfl) ?_
    refine wl_call rfl (c_factors st.im) rfl ?_
    rintro v16 w ⟨t, rfl⟩
    have st := st.pure t
    refine wl_nil ⟨rfl, ?_⟩
    refine fl_effs [10, 11] (by kernel_rfl) ⟨obl_ld rfl rfl rfl (v_load rfl (by first | exact st.reads 0 rfl TF.t118 (getV_state ..) | exact st.reads 1 rfl TF.t118 (getV_state ..) | exact st.reads 2 rfl TF.t118 (getV_state ..) | exact st.reads 3 rfl TF.t118 (getV_state ..))), trivial⟩ (all2 ?_ ?_)
    ·refine stepE 10 (pure' := [7, 6, 5, 1, 0]) (lds' := [8]) rfl (by kernel_rfl) (by kernel_rfl) ?_
     refine wl_alloc TF.z139 st rfl ?_
     intro b3 w st
     refine wl_nil ⟨rfl, ?_⟩
     refine fl_eff1 11 [7, 6, 5, 1, 0] [8] (by kernel_rfl) ⟨obl_ld rfl rfl rfl (v_load rfl (by first | exact st.reads 0 rfl TF.t118 (getV_state ..) | exact st.reads 1 rfl TF.t118 (getV_state ..) | exact st.reads 2 rfl TF.t118 (getV_state ..) | exact st.reads 3 rfl TF.t118 (getV_state ..))), trivial⟩ rfl ?_
     refine wl_alloc TF.z118 st rfl ?_
     intro b4 w st
     refine wl_nil ⟨rfl, ?_⟩
     refine FL.permB [11, 10, 9, 4, 3, 8, 7, 6, 5, 2, 1, 0] [7, 6, 5, 1, 0] [8] (by kernel_rfl) ?_
     exact fin _ _ _ _ _ rfl rfl rfl rfl rfl rfl rfl rfl rfl rfl (by first | exact st | exact st.perm p3_2 | exact st.perm p3_3 | exact st.perm p3_4 | exact st.perm p3_5 | exact st.perm p3_6)
    ·refine stepE 11 (pure' := [7, 6, 5, 1, 0]) (lds' := [8]) rfl (by kernel_rfl) (by kernel_rfl) ?_
     refine wl_alloc TF.z118 st rfl ?_
     intro b4 w st
     refine wl_nil ⟨rfl, ?_⟩
     refine fl_eff1 10 [7, 6, 5, 1, 0] [8] (by kernel_rfl) ⟨obl_ld rfl rfl rfl (v_load rfl (by first | exact st.reads 0 rfl TF.t118 (getV_state ..) | exact st.reads 1 rfl TF.t118 (getV_state ..) | exact st.reads 2 rfl TF.t118 (getV_state ..) | exact st.reads 3 rfl TF.t118 (getV_state ..))), trivial⟩ rfl ?_
     refine wl_alloc TF.z139 st rfl ?_
     intro b3 w st
     refine wl_nil ⟨rfl, ?_⟩
     refine FL.permB [11, 10, 9, 4, 3, 8, 7, 6, 5, 2, 1, 0] [7, 6, 5, 1, 0] [8] (by kernel_rfl) ?_
     exact fin _ _ _ _ _ rfl rfl rfl rfl rfl rfl rfl rfl rfl rfl (by first | exact st | exact st.perm p3_2 | exact st.perm p3_3 | exact st.perm p3_4 | exact st.perm p3_5 | exact st.perm p3_6)
   ·refine stepE 10 (pure' := [7, 6, 5, 1, 0]) (lds' := [8]) rfl (by kernel_rfl) (by kernel_rfl) ?_
    refine wl_alloc TF.z139 st rfl ?_
    intro b3 w st
    refine wl_nil ⟨rfl, ?_⟩
    refine fl_effs [4, 11] (by kernel_rfl) ⟨obl_ld rfl rfl rfl (v_load rfl (by first | exact st.reads 0 rfl TF.t118 (getV_state ..) | exact st.reads 1 rfl TF.t118 (getV_state ..) | exact st.reads 2 rfl TF.t118 (getV_state ..) | exact st.reads 3 rfl TF.t118 (getV_state ..))), trivial⟩ (all2 ?_ ?_)
    ·refine stepE 4 (pure' := [7, 6, 5, 1, 0]) (lds' := [8]) rfl (by kernel_rfl) (by kernel_rfl) ?_
     refine wl_call rfl (c_factors st.im) rfl ?_
     rintro v16 w ⟨t, rfl⟩
     have st := st.pure t
     refine wl_nil ⟨rfl, ?_⟩
     refine fl_eff1 11 [7, 6, 5, 1, 0] [8] (by kernel_rfl) ⟨obl_ld rfl rfl rfl (v_load rfl (by first | exact st.reads 0 rfl TF.t118 (getV_state ..) | exact st.reads 1 rfl TF.t118 (getV_state ..) | exact st.reads 2 rfl TF.t118 (getV_state ..) | exact st.reads 3 rfl TF.t118 (getV_state ..))), trivial⟩ rfl ?_
     refine wl_alloc TF.z118 st rfl ?_
     intro b4 w st
     refine wl_nil ⟨rfl, ?_⟩
     refine FL.permB [11, 10, 9, 4, 3, 8, 7, 6, 5, 2, 1, 0] [7, 6, 5, 1, 0] [8] (by kernel_rfl) ?_
     exact fin _ _ _ _ _ rfl rfl rfl rfl rfl rfl rfl rfl rfl rfl (by first | exact st | exact st.perm p3_2 | exact st.perm p3_3 | exact st.perm p3_4 | exact st.perm p3_5 | exact st.perm p3_6)
    ·refine stepE 11 (pure' := [7, 6, 5, 1, 0]) (lds' := [8]) rfl (by kernel_rfl) (by kernel_rfl) ?_
     refine wl_alloc TF.z118 st rfl ?_
     intro b4 w st
     refine wl_nil ⟨rfl, ?_⟩
     refine fl_eff1 4 [7, 6, 5, 1, 0] [8] (by kernel_rfl) ⟨obl_ld rfl rfl rfl (v_load rfl (by first | exact st.reads 0 rfl TF.t118 (getV_state ..) | exact st.reads 1 rfl TF.t118 (getV_state ..) | exact st.reads 2 rfl TF.t118 (getV_state ..) | exact st.reads 3 rfl TF.t118 (getV_state ..))), trivial⟩ rfl ?_
     refine wl_call rfl (c_factors st.im) rfl ?_
     rintro v16 w ⟨t, rfl⟩
     have st := st.pure t
     refine wl_nil ⟨rfl, ?_⟩
     refine FL.permB [11, 10, 9, 4, 3, 8, 7, 6, 5, 2, 1, 0] [7, 6, 5, 1, 0] [8] (by kernel_rfl) ?_
     exact fin _ _ _ _ _ rfl rfl rfl rfl rfl rfl rfl rfl rfl rfl (by first | exact st | exact st.perm p3_2 | exact st.perm p3_3 | exact st.perm p3_4 | exact st.perm p3_5 | exact st.perm p3_6)
   ·refine stepE 11 (pure' := [7, 6, 5, 1, 0]) (lds' := [8]) rfl (by kernel_rfl) (by kernel_rfl) ?_
    refine wl_alloc TF.z118 st rfl ?_
    intro b4 w st
    refine wl_nil ⟨rfl, ?_⟩
    refine fl_effs [4, 10] (by kernel_rfl) ⟨obl_ld rfl rfl rfl (v_load rfl (by first | exact st.reads 0 rfl TF.t118 (getV_state ..) | exact st.reads 1 rfl TF.t118 (getV_state ..) | exact st.reads 2 rfl TF.t118 (getV_state ..) | exact st.reads 3 rfl TF.t118 (getV_state ..))), trivial⟩ (all2 ?_ ?_)
    ·refine stepE 4 (pure' := [7, 6, 5, 1, 0]) (lds' := [8]) rfl (by kernel_rfl) (by kernel_rfl) ?_
     refine wl_call rfl (c_factors st.im) rfl ?_
     rintro v16 w ⟨t, rfl⟩
     have st := st.pure t
     refine wl_nil ⟨rfl, ?_⟩
     refine fl_eff1 10 [7, 6, 5, 1, 0] [8] (by kernel_rfl) ⟨obl_ld rfl rfl rfl (v_load rfl (by first | exact st.reads 0 rfl TF.t118 (getV_state ..) | exact st.reads 1 rfl TF.t118 (getV_state ..) | exact st.reads 2 rfl TF.t118 (getV_state ..) | exact st.reads 3 rfl TF.t118 (getV_state ..))), trivial⟩ rfl ?_
     refine wl_alloc TF.z139 st rfl ?_
     intro b3 w st
     refine wl_nil ⟨rfl, ?_⟩
     refine FL.permB [11, 10, 9, 4, 3, 8, 7, 6, 5, 2, 1, 0] [7, 6, 5, 1, 0] [8] (by kernel_rfl) ?_
     exact fin _ _ _ _ _ rfl rfl rfl rfl rfl rfl rfl rfl rfl rfl (by first | exact st | exact st.perm p3_2 | exact st.perm p3_3 | exact st.perm p3_4 | exact st.perm p3_5 | exact st.perm p3_6)
    ·refine stepE 10 (pure' := [7, 6, 5, 1, 0]) (lds' := [8]) rfl (by kernel_rfl) (by kernel_rfl) ?_
     refine wl_alloc TF.z139 st rfl ?_
     intro b3 w st
     refine wl_nil ⟨rfl, ?_⟩
     refine fl_eff1 4 [7, 6, 5, 1, 0] [8] (by kernel_rfl) ⟨obl_ld rfl rfl rfl (v_load rfl (by first | exact st.reads 0 rfl TF.t118 (getV_state ..) | exact st.reads 1 rfl TF.t118 (getV_state ..) | exact st.reads 2 rfl TF.t118 (getV_state ..) | exact st.reads 3 rfl TF.t118 (getV_state ..))), trivial⟩ rfl ?_
     refine wl_call rfl (c_factors st.im) rfl ?_
     rintro v16 w ⟨t, rfl⟩
     have st := st.pure t
     refine wl_nil ⟨rfl, ?_⟩
     refine FL.permB [11, 10, 9, 4, 3, 8, 7, 6, 5, 2, 1, 0] [7, 6, 5, 1, 0] [8] (by kernel_rfl) ?_
     exact fin _ _ _ _ _ rfl rfl rfl rfl rfl rfl rfl rfl rfl rfl (by first | exact st | exact st.perm p3_2 | exact st.perm p3_3 | exact st.perm p3_4 | exact st.perm p3_5 | exact st.perm p3_6)
  ·refine stepE 10 (pure' := [7, 6, 5, 1, 0]) (lds' := [8]) rfl (by kernel_rfl) (by kernel_rfl) ?_
   refine wl_alloc TF.z139 st rfl ?_
   intro b3 w st
   refine wl_nil ⟨rfl, ?_⟩
   refine fl_effs [4, 9, 11] (by kernel_rfl) ⟨obl_ld rfl rfl rfl (v_load rfl (by first | exact st.reads 0 rfl TF.t118 (getV_state ..) | exact st.reads 1 rfl TF.t118 (getV_state ..) | exact st.reads 2 rfl TF.t118 (getV_state ..) | exact st.reads 3 rfl TF.t118 (getV_state ..))), trivial⟩ (all3 ?_ ?_ ?_)
   ·refine stepE 4 (pure' := [7, 6, 5, 1, 0]) (lds' := [8]) rfl (by kernel_rfl) (by kernel_rfl) ?_
    refine wl_call rfl (c_factors st.im) rfl ?_
    rintro v16 w ⟨t, rfl⟩
    have st := st.pure t
    refine wl_nil ⟨rfl, ?_⟩
    refine fl_effs [9, 11] (by kernel_rfl) ⟨obl_ld rfl rfl rfl (v_load rfl (by first | exact st.reads 0 rfl TF.t118 (getV_state ..) | exact st.reads 1 rfl TF.t118 (getV_state ..) | exact st.reads 2 rfl TF.t118 (getV_state ..) | exact st.reads 3 rfl TF.t118 (getV_state ..))), trivial⟩ (all2 ?_ ?_)
    ·refine stepE 9 (pure' := [7, 6, 5, 1, 0]) (lds' := [8]) rfl (by kernel_rfl) (by kernel_rfl) ?_
     refine wl_alloc TF.z139 st rfl ?_
     intro b2 w st
     refine wl_nil ⟨rfl, ?_⟩
     refine fl_eff1 11 [7, 6, 5, 1, 0] [8] (by kernel_rfl) ⟨obl_ld rfl rfl rfl (v_load rfl (by first | exact st.reads 0 rfl TF.t118 (getV_state ..) | exact st.reads 1 rfl TF.t118 (getV_state ..) | exact st.reads 2 rfl TF.t118 (getV_state ..) | exact st.reads 3 rfl TF.t118 (getV_state ..))), trivial⟩ rfl ?_
     refine wl_alloc TF.z118 st rfl ?_
     intro b4 w st
     refine wl_nil ⟨rfl, ?_⟩
     refine FL.permB [11, 10, 9, 4, 3, 8, 7, 6, 5, 2, 1, 0] [7, 6, 5, 1, 0] [8] (by kernel_rfl) ?_
     exact fin _ _ _ _ _ rfl rfl rfl rfl rfl rfl rfl rfl rfl rfl (by first | exact st | exact st.perm p3_2 | exact st.perm p3_3 | exact st.perm p3_4 | exact st.perm p3_5 | exact st.perm p3_6)
    ·refine stepE 11 (pure' := [7, 6, 5, 1, 0]) (lds' := [8]) rfl (by kernel_rfl) (by kernel_rfl) ?_
     refine wl_alloc TF.z118 st rfl ?_
     intro b4 w st
     refine wl_nil ⟨rfl, ?_⟩
     refine fl_eff1 9 [7, 6, 5, 1, 0] [8] (by kernel_rfl) ⟨obl_ld rfl rfl rfl (v_load rfl (by first | exact st.reads 0 rfl TF.t118 (getV_state ..) | exact st.reads 1 rfl TF.t118 (getV_state ..) | exact st.reads 2 rfl TF.t118 (getV_state ..) | exact st.reads 3 rfl TF.t118 (getV_state ..))), trivial⟩ rfl ?_
     refine wl_alloc TF.z139 st rfl ?_
     intro b2 w st
     refine wl_nil ⟨rfl, ?_⟩
     refine FL.permB [11, 10, 9, 4, 3, 8, 7, 6, 5, 2, 1, 0] [7, 6, 5, 1, 0] [8] (by kernel_rfl) ?_
     exact fin _ _ _ _ _ rfl rfl rfl rfl rfl rfl rfl rfl rfl rfl (by first | exact st | exact st.perm p3_2 | exact st.perm p3_3 | exact st.perm p3_4 | exact st.perm p3_5 | exact st.perm p3_6)
   ·refine stepE 9 (pure' := [7, 6, 5, 1, 0]) (lds' := [8]) rfl (by kernel_rfl) (by kernel_rfl) ?_
    refine wl_alloc TF.z139 st rfl ?_
    intro b2 w st
    refine wl_nil ⟨rfl, ?_⟩
    refine fl_effs [4, 11] (by kernel_rfl) ⟨obl_ld rfl rfl rfl (v_load rfl (by first | exact st.reads 0 rfl TF.t118 (getV_state ..) | exact st.reads 1 rfl TF.t118 (getV_state ..) | exact st.reads 2 rfl TF.t118 (getV_state ..) | exact st.reads 3 rfl TF.t118 (getV_state ..))), trivial⟩ (all2 ?_ ?_)
    ·refine stepE 4 (pure' := [7, 6, 5, 1, 0]) (lds' := [8]) rfl (by kernel_rfl) (by kernel_rfl) ?_
     refine wl_call rfl (c_factors st.im) rfl ?_
     rintro v16 w ⟨t, rfl⟩
     have st := st.pure t
     refine wl_nil ⟨rfl, ?_⟩
     refine fl_eff1 11 [7, 6, 5, 1, 0] [8] (by kernel_rfl) ⟨obl_ld rfl rfl rfl (v_load rfl (by first | exact st.reads 0 rfl TF.t118 (getV_state ..) | exact st.reads 1 rfl TF.t118 (getV_state ..) | exact st.reads 2 rfl TF.t118 (getV_state ..) | exact st.reads 3 rfl TF.t118 (getV_state ..))), trivial⟩ rfl ?_
     refine wl_alloc TF.z118 st rfl ?_
     intro b4 w st
     refine wl_nil ⟨rfl, ?_⟩
     refine FL.permB [11, 10, 9, 4, 3, 8, 7, 6, 5, 2, 1, 0] [7, 6, 5, 1, 0] [8] (by kernel_rfl) ?_
     exact fin _ _ _ _ _ rfl rfl rfl rfl rfl rfl rfl rfl rfl rfl (by first | exact st | exact st.perm p3_2 | exact st.perm p3_3 | exact st.perm p3_4 | exact st.perm p3_5 | exact st.perm p3_6)
    ·refine stepE 11 (pure' := [7, 6, 5, 1, 0]) (lds' := [8]) rfl (by kernel_rfl) (by kernel_rfl) ?_
     refine wl_alloc TF.z118 st rfl ?_
     intro b4 w st
     refine wl_nil ⟨rfl, ?_⟩
     refine fl_eff1 4 [7, 6, 5, 1, 0] [8] (by kernel_rfl) ⟨obl_ld rfl rfl rfl (v_load rfl (by first | exact st.reads 0 rfl TF.t118 (getV_state ..) | exact st.reads 1 rfl TF.t118 (getV_state ..) | exact st.reads 2 rfl TF.t118 (getV_state ..) | exact st.reads 3 rfl TF.t118 (getV_state ..))), trivial⟩ rfl ?_
     refine wl_call rfl (c_factors st.im) rfl ?_
     rintro v16 w ⟨t, rfl⟩
     have st := st.pure t
     refine wl_nil ⟨rfl, ?_⟩
     refine FL.permB [11, 10, 9, 4, 3, 8, 7, 6, 5, 2, 1, 0] [7, 6, 5, 1, 0] [8] (by kernel_rfl) ?_
     exact fin _ _ _ _ _ rfl rfl rfl rfl rfl rfl rfl rfl rfl rfl (by first | exact st | exact st.perm p3_2 | exact st.perm p3_3 | exact st.perm p3_4 | exact st.perm p3_5 | exact st.perm p3_6)
   ·refine stepE 11 (pure' := [7, 6, 5, 1, 0]) (lds' := [8]) rfl (by kernel_rfl) (by kernel_rfl) ?_
    refine wl_alloc TF.z118 st rfl ?_
    intro b4 w st
    refine wl_nil ⟨rfl, ?_⟩
    refine fl_effs [4, 9] (by kernel_rfl) ⟨obl_ld rfl rfl rfl (v_load rfl (by first | exact st.reads 0 rfl TF.t118 (getV_state ..) | exact st.reads 1 rfl TF.t118 (getV_state ..) | exact st.reads 2 rfl TF.t118 (getV_state ..) | exact st.reads 3 rfl TF.t118 (getV_state ..))), trivial⟩ (all2 ?_ ?_)
    ·refine stepE 4 (pure' := [7, 6, 5, 1, 0]) (lds' := [8]) rfl (by kernel_rfl) (by kernel_rfl) ?_
     refine wl_call rfl (c_factors st.im) rfl ?_
     rintro v16 w ⟨t, rfl⟩
     have st := st.pure t
     refine wl_nil ⟨rfl, ?_⟩
     refine fl_eff1 9 [7, 6, 5, 1, 0] [8] (by kernel_rfl) ⟨obl_ld rfl rfl rfl (v_load rfl (by first | exact st.reads 0 rfl TF.t118 (getV_state ..) | exact st.reads 1 rfl TF.t118 (getV_state ..) | exact st.reads 2 rfl TF.t118 (getV_state ..) | exact st.reads 3 rfl TF.t118 (getV_state ..))), trivial⟩ rfl ?_
     refine wl_alloc TF.z139 st rfl ?_
     intro b2 w st
     refine wl_nil ⟨rfl, ?_⟩
     refine FL.permB [11, 10, 9, 4, 3, 8, 7, 6, 5, 2, 1, 0] [7, 6, 5, 1, 0] [8] (by kernel_rfl) ?_
     exact fin _ _ _ _ _ rfl rfl rfl rfl rfl rfl rfl rfl rfl rfl (by first | exact st | exact st.perm p3_2 | exact st.perm p3_3 | exact st.perm p3_4 | exact st.perm p3_5 | exact st.perm p3_6)
    ·refine stepE 9 (pure' := [7, 6, 5, 1, 0]) (lds' := [8]) rfl (by kernel_rfl) (by kernel_rfl) ?_
     refine wl_alloc TF.z139 st rfl ?_
     intro b2 w st
     refine wl_nil ⟨rfl, ?_⟩
     refine fl_eff1 4 [7, 6, 5, 1, 0] [8] (by kernel_rfl) ⟨obl_ld rfl rfl rfl (v_load rfl (by first | exact st.reads 0 rfl TF.t118 (getV_state ..) | exact st.reads 1 rfl TF.t118 (getV_state ..) | exact st.reads 2 rfl TF.t118 (getV_state ..) | exact st.reads 3 rfl TF.t118 (getV_state ..))), trivial⟩ rfl ?_
     refine wl_call rfl (c_factors st.im) rfl ?_
     rintro v16 w ⟨t, rfl⟩
     have st := st.pure t
     refine wl_nil ⟨rfl, ?_⟩
     refine FL.permB [11, 10, 9, 4, 3, 8, 7, 6, 5, 2, 1, 0] [7, 6, 5, 1, 0] [8] (by kernel_rfl) ?_
     exact fin _ _ _ _ _ rfl rfl rfl rfl rfl rfl rfl rfl rfl rfl (by first | exact st | exact st.perm p3_2 | exact st.perm p3_3 | exact st.perm p3_4 | exact st.perm p3_5 | exact st.perm p3_6)
  ·refine stepE 11 (pure' := [7, 6, 5, 1, 0]) (lds' := [8]) rfl (by kernel_rfl) (by kernel_rfl) ?_
   refine wl_alloc TF.z118 st rfl ?_
   intro b4 w st
   refine wl_nil ⟨rfl, ?_⟩
   refine fl_effs [4, 9, 10] (by kernel_rfl) ⟨obl_ld rfl rfl rfl (v_load rfl (by first | exact st.reads 0 rfl TF.t118 (getV_state ..) | exact st.reads 1 rfl TF.t118 (getV_state ..) | exact st.reads 2 rfl TF.t118 (getV_state ..) | exact st.reads 3 rfl TF.t118 (getV_state ..))), trivial⟩ (all3 ?_ ?_ ?_)
   ·refine stepE 4 (pure' := [7, 6, 5, 1, 0]) (lds' := [8]) rfl (by kernel_rfl) (by kernel_rfl) ?_
    refine wl_call rfl (c_factors st.im) rfl ?_
    rintro v16 w ⟨t, rfl⟩
    have st := st.pure t
    refine wl_nil ⟨rfl, ?_⟩
    refine fl_effs [9, 10] (by kernel_rfl) ⟨obl_ld rfl rfl rfl (v_load rfl (by first | exact st.reads 0 rfl TF.t118 (getV_state ..) | exact st.reads 1 rfl TF.t118 (getV_state ..) | exact st.reads 2 rfl TF.t118 (getV_state ..) | exact st.reads 3 rfl TF.t118 (getV_state ..))), trivial⟩ (all2 ?_ ?_)
    ·refine stepE 9 (pure' := [7, 6, 5, 1, 0]) (lds' := [8]) rfl (by kernel_rfl) (by kernel_rfl) ?_
     refine wl_alloc TF.z139 st rfl ?_
     intro b2 w st
     refine wl_nil ⟨rfl, ?_⟩
     refine fl_eff1 10 [7, 6, 5, 1, 0] [8] (by kernel_rfl) ⟨obl_ld rfl rfl rfl (v_load rfl (by first | exact st.reads 0 rfl TF.t118 (getV_state ..) | exact st.reads 1 rfl TF.t118 (getV_state ..) | exact st.reads 2 rfl TF.t118 (getV_state ..) | exact st.reads 3 rfl TF.t118 (getV_state ..))), trivial⟩ rfl ?_
     refine wl_alloc TF.z139 st rfl ?_
     intro b3 w st
     refine wl_nil ⟨rfl, ?_⟩
     refine FL.permB [11, 10, 9, 4, 3, 8, 7, 6, 5, 2, 1, 0] [7, 6, 5, 1, 0] [8] (by kernel_rfl) ?_
     exact fin _ _ _ _ _ rfl rfl rfl rfl rfl rfl rfl rfl rfl rfl (by first | exact st | exact st.perm p3_2 | exact st.perm p3_3 | exact st.perm p3_4 | exact st.perm p3_5 | exact st.perm p3_6)
    ·refine stepE 10 (pure' := [7, 6, 5, 1, 0]) (lds' := [8]) rfl (by kernel_rfl) (by kernel_rfl) ?_
     refine wl_alloc TF.z139 st rfl ?_
     intro b3 w st
     refine wl_nil ⟨rfl, ?_⟩
     refine fl_eff1 9 [7, 6, 5, 1, 0] [8] (by kernel_rfl) ⟨obl_ld rfl rfl rfl (v_load rfl (by first | exact st.reads 0 rfl TF.t118 (getV_state ..) | exact st.reads 1 rfl TF.t118 (getV_state ..) | exact st.reads 2 rfl TF.t118 (getV_state ..) | exact st.reads 3 rfl TF.t118 (getV_state ..))), trivial⟩ rfl ?_
     refine wl_alloc TF.z139 st rfl ?_
     intro b2 w st
     refine wl_nil ⟨rfl, ?_⟩
     refine FL.permB [11, 10, 9, 4, 3, 8, 7, 6, 5, 2, 1, 0] [7, 6, 5, 1, 0] [8] (by kernel_rfl) ?_
     exact fin _ _ _ _ _ rfl rfl rfl rfl rfl rfl rfl rfl rfl rfl (by first | exact st | exact st.perm p3_2 | exact st.perm p3_3 | exact st.perm p3_4 | exact st.perm p3_5 | exact st.perm p3_6)
   ·refine stepE 9 (pure' := [7, 6, 5, 1, 0]) (lds' := [8]) rfl (by kernel_rfl) (by kernel_rfl) ?_
    refine wl_alloc TF.z139 st rfl ?_
    intro b2 w st
    refine wl_nil ⟨rfl, ?_⟩
    refine fl_effs [4, 10] (by kernel_rfl) ⟨obl_ld rfl rfl rfl (v_load rfl (by first | exact st.reads 0 rfl TF.t118 (getV_state ..) | exact st.reads 1 rfl TF.t118 (getV_state ..) | exact st.reads 2 rfl TF.t118 (getV_state ..) | exact st.reads 3 rfl TF.t118 (getV_state ..))), trivial⟩ (all2 ?_ ?_)
    ·refine stepE 4 (pure' := [7, 6, 5, 1, 0]) (lds' := [8]) rfl (by kernel_rfl) (by kernel_rfl) ?_
     refine wl_call rfl (c_factors st.im) rfl ?_
     rintro v16 w ⟨t, rfl⟩
     have st := st.pure t
     refine wl_nil ⟨rfl, ?_⟩
     refine fl_eff1 10 [7, 6, 5, 1, 0] [8] (by kernel_rfl) ⟨obl_ld rfl rfl rfl (v_load rfl (by first | exact st.reads 0 rfl TF.t118 (getV_state ..) | exact st.reads 1 rfl TF.t118 (getV_state ..) | exact st.reads 2 rfl TF.t118 (getV_state ..) | exact st.reads 3 rfl TF.t118 (getV_state ..))), trivial⟩ rfl ?_
     refine wl_alloc TF.z139 st rfl ?_
     intro b3 w st
     refine wl_nil ⟨rfl, ?_⟩
     refine FL.permB [11, 10, 9, 4, 3, 8, 7, 6, 5, 2, 1, 0] [7, 6, 5, 1, 0] [8] (by kernel_rfl) ?_
     exact fin _ _ _ _ _ rfl rfl rfl rfl rfl rfl rfl rfl rfl rfl (by first | exact st | exact st.perm p3_2 | exact st.perm p3_3 | exact st.perm p3_4 | exact st.perm p3_5 | exact st.perm p3_6)
    ·refine stepE 10 (pure' := [7, 6, 5, 1, 0]) (lds' := [8]) rfl (by kernel_rfl) (by kernel_rfl) ?_
     refine wl_alloc TF.z139 st rfl ?_
     intro b3 w st
     refine wl_nil ⟨rfl, ?_⟩
     refine fl_eff1 4 [7, 6, 5, 1, 0] [8] (by kernel_rfl) ⟨obl_ld rfl rfl rfl (v_load rfl (by first | exact st.reads 0 rfl TF.t118 (getV_state ..) | exact st.reads 1 rfl TF.t118 (getV_state ..) | exact st.reads 2 rfl TF.t118 (getV_state ..) | exact st.reads 3 rfl TF.t118 (getV_state ..))), trivial⟩ rfl ?_
     refine wl_call rfl (c_factors st.im) rfl ?_
     rintro v16 w ⟨t, rfl⟩
     have st := st.pure t
     refine wl_nil ⟨rfl, ?_⟩
     refine FL.permB [11, 10, 9, 4, 3, 8, 7, 6, 5, 2, 1, 0] [7, 6, 5, 1, 0] [8] (by kernel_rfl) ?_
     exact fin _ _ _ _ _ rfl rfl rfl rfl rfl rfl rfl rfl rfl rfl (by first | exact st | exact st.perm p3_2 | exact st.perm p3_3 | exact st.perm p3_4 | exact st.perm p3_5 | exact st.perm p3_6)
   ·refine stepE 10 (pure' := [7, 6, 5, 1, 0]) (lds' := [8]) rfl (by kernel_rfl) (by kernel_rfl) ?_
    refine wl_alloc TF.z139 st rfl ?_
    intro b3 w st
    refine wl_nil ⟨rfl, ?_⟩
    refine fl_effs [4, 9] (by kernel_rfl) ⟨obl_ld rfl rfl rfl (v_load rfl (by first | exact st.reads 0 rfl TF.t118 (getV_state ..) | exact st.reads 1 rfl TF.t118 (getV_state ..) | exact st.reads 2 rfl TF.t118 (getV_state ..) | exact st.reads 3 rfl TF.t118 (getV_state ..))), trivial⟩ (all2 ?_ ?_)
    ·refine stepE 4 (pure' := [7, 6, 5, 1, 0]) (lds' := [8]) rfl (by kernel_rfl) (by kernel_rfl) ?_
     refine wl_call rfl (c_factors st.im) rfl ?_
     rintro v16 w ⟨t, rfl⟩
     have st := st.pure t
     refine wl_nil ⟨rfl, ?_⟩
     refine fl_eff1 9 [7, 6, 5, 1, 0] [8] (by kernel_rfl) ⟨obl_ld rfl rfl rfl (v_load rfl (by first | exact st.reads 0 rfl TF.t118 (getV_state ..) | exact st.reads 1 rfl TF.t118 (getV_state ..) | exact st.reads 2 rfl TF.t118 (getV_state ..) | exact st.reads 3 rfl TF.t118 (getV_state ..))), trivial⟩ rfl ?_
     refine wl_alloc TF.z139 st rfl ?_
     intro b2 w st
     refine wl_nil ⟨rfl, ?_⟩
     refine FL.permB [11, 10, 9, 4, 3, 8, 7, 6, 5, 2, 1, 0] [7, 6, 5, 1, 0] [8] (by kernel_rfl) ?_
     exact fin _ _ _ _ _ rfl rfl rfl rfl rfl rfl rfl rfl rfl rfl (by first | exact st | exact st.perm p3_2 | exact st.perm p3_3 | exact st.perm p3_4 | exact st.perm p3_5 | exact st.perm p3_6)
    ·refine stepE 9 (pure' := [7, 6, 5, 1, 0]) (lds' := [8]) rfl (by kernel_rfl) (by kernel_rfl) ?_
     refine wl_alloc TF.z139 st rfl ?_
     intro b2 w st
     refine wl_nil ⟨rfl, ?_⟩
     refine fl_eff1 4 [7, 6, 5, 1, 0] [8] (by kernel_rfl) ⟨obl_ld rfl rfl rfl (v_load rfl (by first | exact st.reads 0 rfl TF.t118 (getV_state ..) | exact st.reads 1 rfl TF.t118 (getV_state ..) | exact st.reads 2 rfl TF.t118 (getV_state ..) | exact st.reads 3 rfl TF.t118 (getV_state ..))), trivial⟩ rfl ?_
     refine wl_call rfl (c_factors st.im) rfl ?_
     rintro v16 w ⟨t, rfl⟩
     have st := st.pure t
     refine wl_nil ⟨rfl, ?_⟩
     refine FL.permB [11, 10, 9, 4, 3, 8, 7, 6, 5, 2, 1, 0] [7, 6, 5, 1, 0] [8] (by kernel_rfl) ?_
     exact fin _ _ _ _ _ rfl rfl rfl rfl rfl rfl rfl rfl rfl rfl (by first | exact st | exact st.perm p3_2 | exact st.perm p3_3 | exact st.perm p3_4 | exact st.perm p3_5 | exact st.perm p3_6)
 ·refine stepE 9 (pure' := [7, 6, 5, 2, 1, 0]) (lds' := [8]) rfl (by kernel_rfl) (by kernel_rfl) ?_
  refine wl_alloc TF.z139 st rfl ?_
  intro b2 w st
  refine wl_nil ⟨rfl, ?_⟩
  refine fl_effs [3, 10, 11] (by kernel_rfl) ⟨obl_ld rfl rfl rfl (v_load rfl (by first | exact st.reads 0 rfl TF.t118 (getV_state ..) | exact st.reads 1 rfl TF.t118 (getV_state ..) | exact st.reads 2 rfl TF.t118 (getV_state ..) | exact st.reads 3 rfl TF.t118 (getV_state ..))), trivial⟩ (all3 ?_ ?_ ?_)
  ·refine stepE 3 (pure' := [7, 6, 5, 1, 0]) (lds' := [8]) rfl (by kernel_rfl) (by kernel_rfl) ?_
   refine wl_call rfl (by first | exact c_spreadS st 0 rfl hl | exact c_spreadS st 1 rfl hl | exact c_spreadS st 2 rfl hl | exact c_spreadS st 3 rfl hl) rfl ?_
   rintro v15 w ⟨t, rfl⟩
   have st := st.pure t
   refine wl_nil ⟨rfl, ?_⟩
   refine fl_effs [4, 10, 11] (by kernel_rfl) ⟨obl_ld rfl rfl rfl (v_load rfl (by first | exact st.reads 0 rfl TF.t118 (getV_state ..) | exact st.reads 1 rfl TF.t118 (getV_state ..) | exact st.reads 2 rfl TF.t118 (getV_state ..) | exact st.reads 3 rfl TF.t118 (getV_state ..))), trivial⟩ (all3 ?_ ?_ ?_)
   ·refine stepE 4 (pure' := [7, 6, 5, 1, 0]) (lds' := [8]) rfl (by kernel_rfl) (by kernel_rfl) ?_
    refine wl_call rfl (c_factors st.im) rfl ?_
    rintro v16 w ⟨t, rfl⟩
    have st := st.pure t
    refine wl_nil ⟨rfl, ?_⟩
    refine fl_effs [10, 11] (by kernel_rfl) ⟨obl_ld rfl rfl rfl (v_load rfl (by first | exact st.reads 0 rfl TF.t118 (getV_state ..) | exact st.reads 1 rfl TF.t118 (getV_state ..) | exact st.reads 2 rfl TF.t118 (getV_state ..) | exact st.reads 3 rfl TF.t118 (getV_state ..))), trivial⟩ (all2 ?_ ?_)
    ·refine stepE 10 (pure' := [7, 6, 5, 1, 0]) (lds' := [8]) rfl (by kernel_rfl) (by kernel_rfl) ?_
     refine wl_alloc TF.z139 st rfl ?_
     intro b3 w st
     refine wl_nil ⟨rfl, ?_⟩
     refine fl_eff1 11 [7, 6, 5, 1, 0] [8] (by kernel_rfl) ⟨obl_ld rfl rfl rfl (v_load rfl (by first | exact st.reads 0 rfl TF.t118 (getV_state ..) | exact st.reads 1 rfl TF.t118 (getV_state ..) | exact st.reads 2 rfl TF.t118 (getV_state ..) | exact st.reads 3 rfl TF.t118 (getV_state ..))), trivial⟩ rfl ?_
     refine wl_alloc TF.z118 st rfl ?_
     intro b4 w st
     refine wl_nil ⟨rfl, ?_⟩
     refine FL.permB [11, 10, 9, 4, 3, 8, 7, 6, 5, 2, 1, 0] [7, 6, 5, 1, 0] [8] (by kernel_rfl) ?_
     exact fin _ _ _ _ _ rfl rfl rfl rfl rfl rfl rfl rfl rfl rfl (by first | exact st | exact st.perm p3_2 | exact st.perm p3_3 | exact st.perm p3_4 | exact st.perm p3_5 | exact st.perm p3_6)
    ·refine stepE 11 (pure' := [7, 6, 5, 1, 0]) (lds' := [8]) rfl (by kernel_rfl) (by kernel_rfl) ?_
     refine wl_alloc TF.z118 st rfl ?_
     intro b4 w st
     refine wl_nil ⟨rfl, ?_⟩
     refine fl_eff1 10 [7, 6, 5, 1, 0] [8] (by kernel_rfl) ⟨obl_ld rfl rfl rfl (v_load rfl (by first | exact st.reads 0 rfl TF.t118 (getV_state ..) | exact st.reads 1 rfl TF.t118 (getV_state ..) | exact st.reads 2 rfl TF.t118 (getV_state ..) | exact st.reads 3 rfl TF.t118 (getV_state ..))), trivial⟩ rfl ?_
     refine wl_alloc TF.z139 st rfl ?_
     intro b3 w st
     refine wl_nil ⟨rfl, ?_⟩
     refine FL.permB [11, 10, 9, 4, 3, 8, 7, 6, 5, 2, 1, 0] [7, 6, 5, 1, 0] [8] (by kernel_rfl) ?_
     exact fin _ _ _ _ _ rfl rfl rfl rfl rfl rfl rfl rfl rfl rfl (by first | exact st | exact st.perm p3_2 | exact st.perm p3_3 | exact st.perm p3_4 | exact st.perm p3_5 | exact st.perm p3_6)
   ·refine stepE 10 (pure' := [7, 6, 5, 1, 0]) (lds' := [8]) rfl (by kernel_rfl) (by kernel_rfl) ?_
    refine wl_alloc TF.z139 st rfl ?_
    intro b3 w st
    refine wl_nil ⟨rfl, ?_⟩
    refine fl_effs [4, 11] (by kernel_rfl) ⟨obl_ld rfl rfl rfl (v_load rfl (by first | exact st.reads 0 rfl TF.t118 (getV_state ..) | exact st.reads 1 rfl TF.t118 (getV_state ..) | exact st.reads 2 rfl TF.t118 (getV_state ..) | exact st.reads 3 rfl TF.t118 (getV_state ..))), trivial⟩ (all2 ?_ ?_)
    ·refine stepE 4 (pure' := [7, 6, 5, 1, 0]) (lds' := [8]) rfl (by kernel_rfl) (by kernel_rfl) ?_
     refine wl_call rfl (c_factors st.im) rfl ?_
     rintro v16 w ⟨t, rfl⟩
     have st := st.pure t
     refine wl_nil ⟨rfl, ?_⟩
     refine fl_eff1 11 [7, 6, 5, 1, 0] [8] (by kernel_rfl) ⟨obl_ld rfl rfl rfl (v_load rfl (by first | exact st.reads 0 rfl TF.t118 (getV_state ..) | exact st.reads 1 rfl TF.t118 (getV_state ..) | exact st.reads 2 rfl TF.t118 (getV_state ..) | exact st.reads 3 rfl TF.t118 (getV_state ..))), trivial⟩ rfl ?_
     refine wl_alloc TF.z118 st rfl ?_
     intro b4 w st
     refine wl_nil ⟨rfl, ?_⟩
     refine FL.permB [11, 10, 9, 4, 3, 8, 7, 6, 5, 2, 1, 0] [7, 6, 5, 1, 0] [8] (by kernel_rfl) ?_
     exact fin _ _ _ _ _ rfl rfl rfl rfl rfl rfl rfl rfl rfl rfl (by first | exact st | exact st.perm p3_2 | exact st.perm p3_3 | exact st.perm p3_4 | exact st.perm p3_5 | exact st.perm p3_6)
    ·refine stepE 11 (pure' := [7, 6, 5, 1, 0]) (lds' := [8]) rfl (by kernel_rfl) (by kernel_rfl) ?_
     refine wl_alloc TF.z118 st rfl ?_
     intro b4 w st
     refine wl_nil ⟨rfl, ?_⟩
     refine fl_eff1 4 [7, 6, 5, 1, 0] [8] (by kernel_rfl) ⟨obl_ld rfl rfl rfl (v_load rfl (by first | exact st.reads 0 rfl TF.t118 (getV_state ..) | exact st.reads 1 rfl TF.t118 (getV_state ..) | exact st.reads 2 rfl TF.t118 (getV_state ..) | exact st.reads 3 rfl TF.t118 (getV_state ..))), trivial⟩ rfl ?_
     refine wl_call rfl (c_factors st.im) rfl ?_
     rintro v16 w ⟨t, rfl⟩
     have st := st.pure t
     refine wl_nil ⟨rfl, ?_⟩
     refine FL.permB [11, 10, 9, 4, 3, 8, 7, 6, 5, 2, 1, 0] [7, 6, 5, 1, 0] [8] (by kernel_rfl) ?_
     exact fin _ _ _ _ _ rfl rfl rfl rfl rfl rfl rfl rfl rfl rfl (by first | exact st | exact st.perm p3_2 | exact st.perm p3_3 | exact st.perm p3_4 | exact st.perm p3_5 | exact st.perm p3_6)
   ·refine stepE 11 (pure' := [7, 6, 5, 1, 0]) (lds' := [8]) rfl (by kernel_rfl) (by kernel_rfl) ?_
    refine wl_alloc TF.z118 st rfl ?_
    intro b4 w st
    refine wl_nil ⟨rfl, ?_⟩
    refine fl_effs [4, 10] (by kernel_rfl) ⟨obl_ld rfl rfl rfl (v_load rfl (by first | exact st.reads 0 rfl TF.t118 (getV_state ..) | exact st.reads 1 rfl TF.t118 (getV_state ..) | exact st.reads 2 rfl TF.t118 (getV_state ..) | exact st.reads 3 rfl TF.t118 (getV_state ..))), trivial⟩ (all2 ?_ ?_)
    ·refine stepE 4 (pure' := [7, 6, 5, 1, 0]) (lds' := [8]) rfl (by kernel_rfl) (by kernel_rfl) ?_
     refine wl_call rfl (c_factors st.im) rfl ?_
     rintro v16 w ⟨t, rfl⟩
     have st := st.pure t
     refine wl_nil ⟨rfl, ?_⟩
     refine fl_eff1 10 [7, 6, 5, 1, 0] [8] (by kernel_rfl) ⟨obl_ld rfl rfl rfl (v_load rfl (by first | exact st.reads 0 rfl TF.t118 (getV_state ..) | exact st.reads 1 rfl TF.t118 (getV_state ..) | exact st.reads 2 rfl TF.t118 (getV_state ..) | exact st.reads 3 rfl TF.t118 (getV_state ..))), trivial⟩ rfl ?_
     refine wl_alloc TF.z139 st rfl ?_
     intro b3 w st
     refine wl_nil ⟨rfl, ?_⟩
     refine FL.permB [11, 10, 9, 4, 3, 8, 7, 6, 5, 2, 1, 0] [7, 6, 5, 1, 0] [8] (by kernel_rfl) ?_
     exact fin _ _ _ _ _ rfl rfl rfl rfl rfl rfl rfl rfl rfl rfl (by first | exact st | exact st.perm p3_2 | exact st.perm p3_3 | exact st.perm p3_4 | exact st.perm p3_5 | exact st.perm p3_6)
    ·refine stepE 10 (pure' := [7, 6, 5, 1, 0]) (lds' := [8]) rfl (by kernel_rfl) (by kernel_rfl) ?_
     refine wl_alloc TF.z139 st rfl ?_
     intro b3 w st
     refine wl_nil ⟨rfl, ?_⟩
     refine fl_eff1 4 [7, 6, 5, 1, 0] [8] (by kernel_rfl) ⟨obl_ld rfl rfl rfl (v_load rfl (by first | exact st.reads 0 rfl TF.t118 (getV_state ..) | exact st.reads 1 rfl TF.t118 (getV_state ..) | exact st.reads 2 rfl TF.t118 (getV_state ..) | exact st.reads 3 rfl TF.t118 (getV_state ..))), trivial⟩ rfl ?_
     refine wl_call rfl (c_factors st.im) rfl ?_
     rintro v16 w ⟨t, rfl⟩
     have st := st.pure t
     refine wl_nil ⟨rfl, ?_⟩
     refine FL.permB [11, 10, 9, 4, 3, 8, 7, 6, 5, 2, 1, 0] [7, 6, 5, 1, 0] [8] (by kernel_rfl) ?_
     exact fin _ _ _ _ _ rfl rfl rfl rfl rfl rfl rfl rfl rfl rfl (by first | exact st | exact st.perm p3_2 | exact st.perm p3_3 | exact st.perm p3_4 | exact st.perm p3_5 | exact st.perm p3_6)
  ·refine stepE 10 (pure' := [7, 6, 5, 2, 1, 0]) (lds' := [8]) rfl (by kernel_rfl) (by kernel_rfl) ?_
   refine wl_alloc TF.z139 st rfl ?_
   intro b3 w st
   refine wl_nil ⟨rfl, ?_⟩
   refine fl_effs [3, 11] (by kernel_rfl) ⟨obl_ld rfl rfl rfl (v_load rfl (by first | exact st.reads 0 rfl TF.t118 (getV_state ..) | exact st.reads 1 rfl TF.t118 (getV_state ..) | exact st.reads 2 rfl TF.t118 (getV_state ..) | exact st.reads 3 rfl TF.t118 (getV_state ..))), trivial⟩ (all2 ?_ ?_)
   ·refine stepE 3 (pure' := [7, 6, 5, 1, 0]) (lds' := [8]) rfl (by kernel_rfl) (by kernel_rfl) ?_
    refine wl_call rfl (by first | exact c_spreadS st 0 rfl hl | exact c_spreadS st 1 rfl hl | exact c_spreadS st 2 rfl hl | exact c_spreadS st 3 rfl hl) rfl ?_
    rintro v15 w ⟨t, rfl⟩
    have st := st.pure t
    refine wl_nil ⟨rfl, ?_⟩
    refine fl_effs [4, 11] (by kernel_rfl) ⟨obl_ld rfl rfl rfl (v_load rfl (by first | exact st.reads 0 rfl TF.t118 (getV_state ..) | exact st.reads 1 rfl TF.t118 (getV_state ..) | exact st.reads 2 rfl TF.t118 (getV_state ..) | exact st.reads 3 rfl TF.t118 (getV_state ..))), trivial⟩ (all2 ?_ ?_)
    ·refine stepE 4 (pure' := [7, 6, 5, 1, 0]) (lds' := [8]) rfl (by kernel_rfl) (by kernel_rfl) ?_
     refine wl_call rfl (c_factors st.im) rfl ?_
     rintro v16 w ⟨t, rfl⟩
     have st := st.pure t
     refine wl_nil ⟨rfl, ?_⟩
     refine fl_eff1 11 [7, 6, 5, 1, 0] [8] (by kernel_rfl) ⟨obl_ld rfl rfl rfl (v_load rfl (by first | exact st.reads 0 rfl TF.t118 (getV_state ..) | exact st.reads 1 rfl TF.t118 (getV_state ..) | exact st.reads 2 rfl TF.t118 (getV_state ..) | exact st.reads 3 rfl TF.t118 (getV_state ..))), trivial⟩ rfl ?_
     refine wl_alloc TF.z118 st rfl ?_
     intro b4 w st
     refine wl_nil ⟨rfl, ?_⟩
     refine FL.permB [11, 10, 9, 4, 3, 8, 7, 6, 5, 2, 1, 0] [7, 6, 5, 1, 0] [8] (by kernel_rfl) ?_
     exact fin _ _ _ _ _ rfl rfl rfl rfl rfl rfl rfl rfl rfl rfl (by first | exact st | exact st.perm p3_2 | exact st.perm p3_3 | exact st.perm p3_4 | exact st.perm p3_5 | exact st.perm p3_6)
    ·refine stepE 11 (pure' := [7, 6, 5, 1, 0]) (lds' := [8]) rfl (by kernel_rfl) (by kernel_rfl) ?_
     refine wl_alloc TF.z118 st rfl ?_
     intro b4 w st
     refine wl_nil ⟨rfl, ?_⟩
     refine fl_eff1 4 [7, 6, 5, 1, 0] [8] (by kernel_rfl) ⟨obl_ld rfl rfl rfl (v_load rfl (by first | exact st.reads 0 rfl TF.t118 (getV_state ..) | exact st.reads 1 rfl TF.t118 (getV_state ..) | exact st.reads 2 rfl TF.t118 (getV_state ..) | exact st.reads 3 rfl TF.t118 (getV_state ..))), trivial⟩ rfl ?_
     refine wl_call rfl (c_factors st.im) rfl ?_
     rintro v16 w ⟨t, rfl⟩
     have st := st.pure t
     refine wl_nil ⟨rfl, ?_⟩
     refine FL.permB [11, 10, 9, 4, 3, 8, 7, 6, 5, 2, 1, 0] [7, 6, 5, 1, 0] [8] (by kernel_rfl) ?_
     exact fin _ _ _ _ _ rfl rfl rfl rfl rfl rfl rfl rfl rfl rfl (by first | exact st | exact st.perm p3_2 | exact st.perm p3_3 | exact st.perm p3_4 | exact st.perm p3_5 | exact st.perm p3_6)
   ·refine stepE 11 (pure' := [7, 6, 5, 2, 1, 0]) (lds' := [8]) rfl (by kernel_rfl) (by kernel_rfl) ?_
    refine wl_alloc TF.z118 st rfl ?_
    intro b4 w st
    refine wl_nil ⟨rfl, ?_⟩
    refine fl_eff1 3 [7, 6, 5, 1, 0] [8] (by kernel_rfl) ⟨obl_ld rfl rfl rfl (v_load rfl (by first | exact st.reads 0 rfl TF.t118 (getV_state ..) | exact st.reads 1 rfl TF.t118 (getV_state ..) | exact st.reads 2 rfl TF.t118 (getV_state ..) | exact st.reads 3 rfl TF.t118 (getV_state ..))), trivial⟩ rfl ?_
    refine wl_call rfl (by first | exact c_spreadS st 0 rfl hl | exact c_spreadS st 1 rfl hl | exact c_spreadS st 2 rfl hl | exact c_spreadS st 3 rfl hl) rfl ?_
    rintro v15 w ⟨t, rfl⟩
    have st := st.pure t
    refine wl_nil ⟨rfl, ?_⟩
    refine fl_eff1 4 [7, 6, 5, 1, 0] [8] (by kernel_rfl) ⟨obl_ld rfl rfl rfl (v_load rfl (by first | exact st.reads 0 rfl TF.t118 (getV_state ..) | exact st.reads 1 rfl TF.t118 (getV_state ..) | exact st.reads 2 rfl TF.t118 (getV_state ..) | exact st.reads 3 rfl TF.t118 (getV_state ..))), trivial⟩ rfl ?_
    refine wl_call rfl (c_factors st.im) rfl ?_
    rintro v16 w ⟨t, rfl⟩
    have st := st.pure t
    refine wl_nil ⟨rfl, ?_⟩
    refine FL.permB [11, 10, 9, 4, 3, 8, 7, 6, 5, 2, 1, 0] [7, 6, 5, 1, 0] [8] (by kernel_rfl) ?_
    exact fin _ _ _ _ _ rfl rfl rfl rfl rfl rfl rfl rfl rfl rfl (by first | exact st | exact st.perm p3_2 | exact st.perm p3_3 | exact st.perm p3_4 | exact st.perm p3_5 | exact st.perm p3_6)
  ·refine stepE 11 (pure' := [7, 6, 5, 2, 1, 0]) (lds' := [8]) rfl (by kernel_rfl) (by kernel_rfl) ?_
   refine wl_alloc TF.z118 st rfl ?_
   intro b4 w st
   refine wl_nil ⟨rfl, ?_⟩
   refine fl_effs [3, 10] (by kernel_rfl) ⟨obl_ld rfl rfl rfl (v_load rfl (by first | exact st.reads 0 rfl TF.t118 (getV_state ..) | exact st.reads 1 rfl TF.t118 (getV_state ..) | exact st.reads 2 rfl TF.t118 (getV_state ..) | exact st.reads 3 rfl TF.t118 (getV_state ..))), trivial⟩ (all2 ?_ ?_)
   ·refine stepE 3 (pure' := [7, 6, 5, 1, 0]) (lds' := [8]) rfl (by kernel_rfl) (by kernel_rfl) ?_
    refine wl_call rfl (by first | exact c_spreadS st 0 rfl hl | exact c_spreadS st 1 rfl hl | exact c_spreadS st 2 rfl hl | exact c_spreadS st 3 rfl hl) rfl ?_
    rintro v15 w ⟨t, rfl⟩
    have st := st.pure t
    refine wl_nil ⟨rfl, ?_⟩
    refine fl_effs [4, 10] (by kernel_rfl) ⟨obl_ld rfl rfl rfl (v_load rfl (by first | exact st.reads 0 rfl TF.t118 (getV_state ..) | exact st.reads 1 rfl TF.t118 (getV_state ..) | exact st.reads 2 rfl TF.t118 (getV_state ..) | exact st.reads 3 rfl TF.t118 (getV_state ..))), trivial⟩ (all2 ?_ ?_)
    ·refine stepE 4 (pure' := [7, 6, 5, 1, 0]) (lds' := [8]) rfl (by kernel_rfl) (by kernel_rfl) ?_
     refine wl_call rfl (c_factors st.im) rfl ?_
     rintro v16 w ⟨t, rfl⟩
     have st := st.pure t
     refine wl_nil ⟨rfl, ?_⟩
     refine fl_eff1 10 [7, 6, 5, 1, 0] [8] (by kernel_rfl) ⟨obl_ld rfl rfl rfl (v_load rfl (by first | exact st.reads 0 rfl TF.t118 (getV_state ..) | exact st.reads 1 rfl TF.t118 (getV_state ..) | exact st.reads 2 rfl TF.t118 (getV_state ..) | exact st.reads 3 rfl TF.t118 (getV_state ..))), trivial⟩ rfl ?_
     refine wl_alloc TF.z139 st rfl ?_
     intro b3 w st
     refine wl_nil ⟨rfl, ?_⟩
     refine FL.permB [11, 10, 9, 4, 3, 8, 7, 6, 5, 2, 1, 0] [7, 6, 5, 1, 0] [8] (by kernel_rfl) ?_
     exact fin _ _ _ _ _ rfl rfl rfl rfl rfl rfl rfl rfl rfl rfl (by first | exact st | exact st.perm p3_2 | exact st.perm p3_3 | exact st.perm p3_4 | exact st.perm p3_5 | exact st.perm p3_6)
    ·refine stepE 10 (pure' := [7, 6, 5, 1, 0]) (lds' := [8]) rfl (by kernel_rfl) (by kernel_rfl) ?_
     refine wl_alloc TF.z139 st rfl ?_
     intro b3 w st
     refine wl_nil ⟨rfl, ?_⟩
     refine fl_eff1 4 [7, 6, 5, 1, 0] [8] (by kernel_rfl) ⟨obl_ld rfl rfl rfl (v_load rfl (by first | exact st.reads 0 rfl TF.t118 (getV_state ..) | exact st.reads 1 rfl TF.t118 (getV_state ..) | exact st.reads 2 rfl TF.t118 (getV_state ..) | exact st.reads 3 rfl TF.t118 (getV_state ..))), trivial⟩ rfl ?_
     refine wl_call rfl (c_factors st.im) rfl ?_
     rintro v16 w ⟨t, rfl⟩
     have st := st.pure t
     refine wl_nil ⟨rfl, ?_⟩
     refine FL.permB [11, 10, 9, 4, 3, 8, 7, 6, 5, 2, 1, 0] [7, 6, 5, 1, 0] [8] (by kernel_rfl) ?_
     exact fin _ _ _ _ _ rfl rfl rfl rfl rfl rfl rfl rfl rfl rfl (by first | exact st | exact st.perm p3_2 | exact st.perm p3_3 | exact st.perm p3_4 | exact st.perm p3_5 | exact st.perm p3_6)
   ·refine stepE 10 (pure' := [7, 6, 5, 2, 1, 0]) (lds' := [8]) rfl (by kernel_rfl) (by kernel_rfl) ?_
    refine wl_alloc TF.z139 st rfl ?_
    intro b3 w st
    refine wl_nil ⟨rfl, ?_⟩
    refine fl_eff1 3 [7, 6, 5, 1, 0] [8] (by kernel_rfl) ⟨obl_ld rfl rfl rfl (v_load rfl (by first | exact st.reads 0 rfl TF.t118 (getV_state ..) | exact st.reads 1 rfl TF.t118 (getV_state ..) | exact st.reads 2 rfl TF.t118 (getV_state ..) | exact st.reads 3 rfl TF.t118 (getV_state ..))), trivial⟩ rfl ?_
    refine wl_call rfl (by first | exact c_spreadS st 0 rfl hl | exact c_spreadS st 1 rfl hl | exact c_spreadS st 2 rfl hl | exact c_spreadS st 3 rfl hl) rfl ?_
    rintro v15 w ⟨t, rfl⟩
    have st := st.pure t
    refine wl_nil ⟨rfl, ?_⟩
    refine fl_eff1 4 [7, 6, 5, 1, 0] [8] (by kernel_rfl) ⟨obl_ld rfl rfl rfl (v_load rfl (by first | exact st.reads 0 rfl TF.t118 (getV_state ..) | exact st.reads 1 rfl TF.t118 (getV_state ..) | exact st.reads 2 rfl TF.t118 (getV_state ..) | exact st.reads 3 rfl TF.t118 (getV_state ..))), trivial⟩ rfl ?_
    refine wl_call rfl (c_factors st.im) rfl ?_
    rintro v16 w ⟨t, rfl⟩
    have st := st.pure t
    refine wl_nil ⟨rfl, ?_⟩
    refine FL.permB [11, 10, 9, 4, 3, 8, 7, 6, 5, 2, 1, 0] [7, 6, 5, 1, 0] [8] (by kernel_rfl) ?_
    exact fin _ _ _ _ _ rfl rfl rfl rfl rfl rfl rfl rfl rfl rfl (by first | exact st | exact st.perm p3_2 | exact st.perm p3_3 | exact st.perm p3_4 | exact st.perm p3_5 | exact st.perm p3_6)
 ·refine stepE 10 (pure' := [7, 6, 5, 2, 1, 0]) (lds' := [8]) rfl (by kernel_rfl) (by kernel_rfl) ?_
  refine wl_alloc TF.z139 st rfl ?_
  intro b3 w st
  refine wl_nil ⟨rfl, ?_⟩
  refine fl_effs [3, 9, 11] (by kernel_rfl) ⟨obl_ld rfl rfl rfl (v_load rfl (by first | exact st.reads 0 rfl TF.t118 (getV_state ..) | exact st.reads 1 rfl TF.t118 (getV_state ..) | exact st.reads 2 rfl TF.t118 (getV_state ..) | exact st.reads 3 rfl TF.t118 (getV_state ..))), trivial⟩ (all3 ?_ ?_ ?_)
  ·refine stepE 3 (pure' := [7, 6, 5, 1, 0]) (lds' := [8]) rfl (by kernel_rfl) (by kernel_rfl) ?_
   refine wl_call rfl (by first | exact c_spreadS st 0 rfl hl | exact c_spreadS st 1 rfl hl | exact c_spreadS st 2 rfl hl | exact c_spreadS st 3 rfl hl) rfl ?_
   rintro v15 w ⟨t, rfl⟩
   have st := st.pure t
   refine wl_nil ⟨rfl, ?_⟩
   refine fl_effs [4, 9, 11] (by kernel_rfl) ⟨obl_ld rfl rfl rfl (v_load rfl (by first | exact st.reads 0 rfl TF.t118 (getV_state ..) | exact st.reads 1 rfl TF.t118 (getV_state ..) | exact st.reads 2 rfl TF.t118 (getV_state ..) | exact st.reads 3 rfl TF.t118 (getV_state ..))), trivial⟩ (all3 ?_ ?_ ?_)
   ·refine stepE 4 (pure' := [7, 6, 5, 1, 0]) (lds' := [8]) rfl (by kernel_rfl) (by kernel_rfl) ?_
    refine wl_call rfl (c_factors st.im) rfl ?_
    rintro v16 w ⟨t, rfl⟩
    have st := st.pure t
    refine wl_nil ⟨rfl, ?_⟩
    refine fl_effs [9, 11] (by kernel_rfl) ⟨obl_ld rfl rfl rfl (v_load rfl (by first | exact st.reads 0 rfl TF.t118 (getV_state ..) | exact st.reads 1 rfl TF.t118 (getV_state ..) | exact st.reads 2 rfl TF.t118 (getV_state ..) | exact st.reads 3 rfl TF.t118 (getV_state ..))), trivial⟩ (all2 ?_ ?_)
    ·refine stepE 9 (pure' := [7, 6, 5, 1, 0]) (lds' := [8]) rfl (by kernel_rfl) (by kernel_rfl) ?_
     refine wl_alloc TF.z139 st rfl ?_
     intro b2 w st
     refine wl_nil ⟨rfl, ?_⟩
     refine fl_eff1 11 [7, 6, 5, 1, 0] [8] (by kernel_rfl) ⟨obl_ld rfl rfl rfl (v_load rfl (by first | exact st.reads 0 rfl TF.t118 (getV_state ..) | exact st.reads 1 rfl TF.t118 (getV_state ..) | exact st.reads 2 rfl TF.t118 (getV_state ..) | exact st.reads 3 rfl TF.t118 (getV_state ..))), trivial⟩ rfl ?_
     refine wl_alloc TF.z118 st rfl ?_
     intro b4 w st
     refine wl_nil ⟨rfl, ?_⟩
     refine FL.permB [11, 10, 9, 4, 3, 8, 7, 6, 5, 2, 1, 0] [7, 6, 5, 1, 0] [8] (by kernel_rfl) ?_
     exact fin _ _ _ _ _ rfl rfl rfl rfl rfl rfl rfl rfl rfl rfl (by first | exact st | exact st.perm p3_2 | exact st.perm p3_3 | exact st.perm p3_4 | exact st.perm p3_5 | exact st.perm p3_6)
    ·refine stepE 11 (pure' := [7, 6, 5, 1, 0]) (lds' := [8]) rfl (by kernel_rfl) (by kernel_rfl) ?_
     refine wl_alloc TF.z118 st rfl ?_
     intro b4 w st
     refine wl_nil ⟨rfl, ?_⟩
     refine fl_eff1 9 [7, 6, 5, 1, 0] [8] (by kernel_rfl) ⟨obl_ld rfl rfl rfl (v_load rfl (by first | exact st.reads 0 rfl TF.t118 (getV_state ..) | exact st.reads 1 rfl TF.t118 (getV_state ..) | exact st.reads 2 rfl TF.t118 (getV_state ..) | exact st.reads 3 rfl TF.t118 (getV_state ..))), trivial⟩ rfl ?_
     refine wl_alloc TF.z139 st rfl ?_
     intro b2 w st
     refine wl_nil ⟨rfl, ?_⟩
     refine FL.permB [11, 10, 9, 4, 3, 8, 7, 6, 5, 2, 1, 0] [7, 6, 5, 1, 0] [8] (by kernel_rfl) ?_
     exact fin _ _ _ _ _ rfl rfl rfl rfl rfl rfl rfl rfl rfl rfl (by first | exact st | exact st.perm p3_2 | exact st.perm p3_3 | exact st.perm p3_4 | exact st.perm p3_5 | exact st.perm p3_6)
   ·refine stepE 9 (pure' := [7, 6, 5, 1, 0]) (lds' := [8]) rfl (by kernel_rfl) (by kernel_rfl) ?_
    refine wl_alloc TF.z139 st rfl ?_
    intro b2 w st
    refine wl_nil ⟨rfl, ?_⟩
    refine fl_effs [4, 11] (by kernel_rfl) ⟨obl_ld rfl rfl rfl (v_load rfl (by first | exact st.reads 0 rfl TF.t118 (getV_state ..) | exact st.reads 1 rfl TF.t118 (getV_state ..) | exact st.reads 2 rfl TF.t118 (getV_state ..) | exact st.reads 3 rfl TF.t118 (getV_state ..))), trivial⟩ (all2 ?_ ?_)
    ·refine stepE 4 (pure' := [7, 6, 5, 1, 0]) (lds' := [8]) rfl (by kernel_rfl) (by kernel_rfl) ?_
     refine wl_call rfl (c_factors st.im) rfl ?_
     rintro v16 w ⟨t, rfl⟩
     have st := st.pure t
     refine wl_nil ⟨rfl, ?_⟩
     refine fl_eff1 11 [7, 6, 5, 1, 0] [8] (by kernel_rfl) ⟨obl_ld rfl rfl rfl (v_load rfl (by first | exact st.reads 0 rfl TF.t118 (getV_state ..) | exact st.reads 1 rfl TF.t118 (getV_state ..) | exact st.reads 2 rfl TF.t118 (getV_state ..) | exact st.reads 3 rfl TF.t118 (getV_state ..))), trivial⟩ rfl ?_
     refine wl_alloc TF.z118 st rfl ?_
     intro b4 w st
     refine wl_nil ⟨rfl, ?_⟩
     refine FL.permB [11, 10, 9, 4, 3, 8, 7, 6, 5, 2, 1, 0] [7, 6, 5, 1, 0] [8] (by kernel_rfl) ?_
     exact fin _ _ _ _ _ rfl rfl rfl rfl rfl rfl rfl rfl rfl rfl (by first | exact st | exact st.perm p3_2 | exact st.perm p3_3 | exact st.perm p3_4 | exact st.perm p3_5 | exact st.perm p3_6)
    ·refine stepE 11 (pure' := [7, 6, 5, 1, 0]) (lds' := [8]) rfl (by kernel_rfl) (by kernel_rfl) ?_
     refine wl_alloc TF.z118 st rfl ?_
     intro b4 w st
     refine wl_nil ⟨rfl, ?_⟩
     refine fl_eff1 4 [7, 6, 5, 1, 0] [8] (by kernel_rfl) ⟨obl_ld rfl rfl rfl (v_load rfl (by first | exact st.reads 0 rfl TF.t118 (getV_state ..) | exact st.reads 1 rfl TF.t118 (getV_state ..) | exact st.reads 2 rfl TF.t118 (getV_state ..) | exact st.reads 3 rfl TF.t118 (getV_state ..))), trivial⟩ rfl ?_
     refine wl_call rfl (c_factors st.im) rfl ?_
     rintro v16 w ⟨t, rfl⟩
     have st := st.pure t
     refine wl_nil ⟨rfl, ?_⟩
     refine FL.permB [11, 10, 9, 4, 3, 8, 7, 6, 5, 2, 1, 0] [7, 6, 5, 1, 0] [8] (by kernel_rfl) ?_
     exact fin _ _ _ _ _ rfl rfl rfl rfl rfl rfl rfl rfl rfl rfl (by first | exact st | exact st.perm p3_2 | exact st.perm p3_3 | exact st.perm p3_4 | exact st.perm p3_5 | exact st.perm p3_6)
   ·refine stepE 11 (pure' := [7, 6, 5, 1, 0]) (lds' := [8]) rfl (by kernel_rfl) (by kernel_rfl) ?_
    refine wl_alloc TF.z118 st rfl ?_
    intro b4 w st
    refine wl_nil ⟨rfl, ?_⟩
    refine fl_effs [4, 9] (by kernel_rfl) ⟨obl_ld rfl rfl rfl (v_load rfl (by first | exact st.reads 0 rfl TF.t118 (getV_state ..) | exact st.reads 1 rfl TF.t118 (getV_state ..) | exact st.reads 2 rfl TF.t118 (getV_state ..) | exact st.reads 3 rfl TF.t118 (getV_state ..))), trivial⟩ (all2 ?_ ?_)
    ·refine stepE 4 (pure' := [7, 6, 5, 1, 0]) (lds' := [8]) rfl (by kernel_rfl) (by kernel_rfl) ?_
     refine wl_call rfl (c_factors st.im) rfl ?_
     rintro v16 w ⟨t, rfl⟩
     have st := st.pure t
     refine wl_nil ⟨rfl, ?_⟩
     refine fl_eff1 9 [7, 6, 5, 1, 0] [8] (by kernel_rfl) ⟨obl_ld rfl rfl rfl (v_load rfl (by first | exact st.reads 0 rfl TF.t118 (getV_state ..) | exact st.reads 1 rfl TF.t118 (getV_state ..) | exact st.reads 2 rfl TF.t118 (getV_state ..) | exact st.reads 3 rfl TF.t118 (getV_state ..))), trivial⟩ rfl ?_
     refine wl_alloc TF.z139 st rfl ?_
     intro b2 w st
     refine wl_nil ⟨rfl, ?_⟩
     refine FL.permB [11, 10, 9, 4, 3, 8, 7, 6, 5, 2, 1, 0] [7, 6, 5, 1, 0] [8] (by kernel_rfl) ?_
     exact fin _ _ _ _ _ rfl rfl rfl rfl rfl rfl rfl rfl rfl rfl (by first | exact st | exact st.perm p3_2 | exact st.perm p3_3 | exact st.perm p3_4 | exact st.perm p3_5 | exact st.perm p3_6)
    ·refine stepE 9 (pure' := [7, 6, 5, 1, 0]) (lds' := [8]) rfl (by kernel_rfl) (by kernel_rfl) ?_
     refine wl_alloc TF.z139 st rfl ?_
     intro b2 w st
     refine wl_nil ⟨rfl, ?_⟩
     refine fl_eff1 4 [7, 6, 5, 1, 0] [8] (by kernel_rfl) ⟨obl_ld rfl rfl rfl (v_load rfl (by first | exact st.reads 0 rfl TF.t118 (getV_state ..) | exact st.reads 1 rfl TF.t118 (getV_state ..) | exact st.reads 2 rfl TF.t118 (getV_state ..) | exact st.reads 3 rfl TF.t118 (getV_state ..))), trivial⟩ rfl ?_
     refine wl_call rfl (c_factors st.im) rfl ?_
     rintro v16 w ⟨t, rfl⟩
     have st := st.pure t
     refine wl_nil ⟨rfl, ?_⟩
     refine FL.permB [11, 10, 9, 4, 3, 8, 7, 6, 5, 2, 1, 0] [7, 6, 5, 1, 0] [8] (by kernel_rfl) ?_
     exact fin _ _ _ _ _ rfl rfl rfl rfl rfl rfl rfl rfl rfl rfl (by first | exact st | exact st.perm p3_2 | exact st.perm p3_3 | exact st.perm p3_4 | exact st.perm p3_5 | exact st.perm p3_6)
  ·refine stepE 9 (pure' := [7, 6, 5, 2, 1, 0]) (lds' := [8]) rfl (by kernel_rfl) (by kernel_rfl) ?_
   refine wl_alloc TF.z139 st rfl ?_
   intro b2 w st
   refine wl_nil ⟨rfl, ?_⟩
   refine fl_effs [3, 11] (by kernel_rfl) ⟨obl_ld rfl rfl rfl (v_load rfl (by first | exact st.reads 0 rfl TF.t118 (getV_state ..) | exact st.reads 1 rfl TF.t118 (getV_state ..) | exact st.reads 2 rfl TF.t118 (getV_state ..) | exact st.reads 3 rfl TF.t118 (getV_state ..))), trivial⟩ (all2 ?_ ?_)
   ·refine stepE 3 (pure' := [7, 6, 5, 1, 0]) (lds' := [8]) rfl (by kernel_rfl) (by kernel_rfl) ?_
    refine wl_call rfl (by first | exact c_spreadS st 0 rfl hl | exact c_spreadS st 1 rfl hl | exact c_spreadS st 2 rfl hl | exact c_spreadS st 3 rfl hl) rfl ?_
    rintro v15 w ⟨t, rfl⟩
    have st := st.pure t
    refine wl_nil ⟨rfl, ?_⟩
    refine fl_effs [4, 11] (by kernel_rfl) ⟨obl_ld rfl rfl rfl (v_load rfl (by first | exact st.reads 0 rfl TF.t118 (getV_state ..) | exact st.reads 1 rfl TF.t118 (getV_state ..) | exact st.reads 2 rfl TF.t118 (getV_state ..) | exact st.reads 3 rfl TF.t118 (getV_state ..))), trivial⟩ (all2 ?_ ?_)
    ·refine stepE 4 (pure' := [7, 6, 5, 1, 0]) (lds' := [8]) rfl (by kernel_rfl) (by kernel_rfl) ?_
     refine wl_call rfl (c_factors st.im) rfl ?_
     rintro v16 w ⟨t, rfl⟩
     have st := st.pure t
     refine wl_nil ⟨rfl, ?_⟩
     refine fl_eff1 11 [7, 6, 5, 1, 0] [8] (by kernel_rfl) ⟨obl_ld rfl rfl rfl (v_load rfl (by first | exact st.reads 0 rfl TF.t118 (getV_state ..) | exact st.reads 1 rfl TF.t118 (getV_state ..) | exact st.reads 2 rfl TF.t118 (getV_state ..) | exact st.reads 3 rfl TF.t118 (getV_state ..))), trivial⟩ rfl ?_
     refine wl_alloc TF.z118 st rfl ?_
     intro b4 w st
     refine wl_nil ⟨rfl, ?_⟩
     refine FL.permB [11, 10, 9, 4, 3, 8, 7, 6, 5, 2, 1, 0] [7, 6, 5, 1, 0] [8] (by kernel_rfl) ?_
     exact fin _ _ _ _ _ rfl rfl rfl rfl rfl rfl rfl rfl rfl rfl (by first | exact st | exact st.perm p3_2 | exact st.perm p3_3 | exact st.perm p3_4 | exact st.perm p3_5 | exact st.perm p3_6)
    ·refine stepE 11 (pure' := [7, 6, 5, 1, 0]) (lds' := [8]) rfl (by kernel_rfl) (by kernel_rfl) ?_
     refine wl_alloc TF.z118 st rfl ?_
     intro b4 w st
     refine wl_nil ⟨rfl, ?_⟩
     refine fl_eff1 4 [7, 6, 5, 1, 0] [8] (by kernel_rfl) ⟨obl_ld rfl rfl rfl (v_load rfl (by first | exact st.reads 0 rfl TF.t118 (getV_state ..) | exact st.reads 1 rfl TF.t118 (getV_state ..) | exact st.reads 2 rfl TF.t118 (getV_state ..) | exact st.reads 3 rfl TF.t118 (getV_state ..))), trivial⟩ rfl ?_
     refine wl_call rfl (c_factors st.im) rfl ?_
     rintro v16 w ⟨t, rfl⟩
     have st := st.pure t
     refine wl_nil ⟨rfl, ?_⟩
     refine FL.permB [11, 10, 9, 4, 3, 8, 7, 6, 5, 2, 1, 0] [7, 6, 5, 1, 0] [8] (by kernel_rfl) ?_
     exact fin _ _ _ _ _ rfl rfl rfl rfl rfl rfl rfl rfl rfl rfl (by first | exact st | exact st.perm p3_2 | exact st.perm p3_3 | exact st.perm p3_4 | exact st.perm p3_5 | exact st.perm p3_6)
   ·refine stepE 11 (pure' := [7, 6, 5, 2, 1, 0]) (lds' := [8]) rfl (by kernel_rfl) (by kernel_rfl) ?_
    refine wl_alloc TF.z118 st rfl ?_
    intro b4 w st
    refine wl_nil ⟨rfl, ?_⟩
    refine fl_eff1 3 [7, 6, 5, 1, 0] [8] (by kernel_rfl) ⟨obl_ld rfl rfl rfl (v_load rfl (by first | exact st.reads 0 rfl TF.t118 (getV_state ..) | exact st.reads 1 rfl TF.t118 (getV_state ..) | exact st.reads 2 rfl TF.t118 (getV_state ..) | exact st.reads 3 rfl TF.t118 (getV_state ..))), trivial⟩ rfl ?_
    refine wl_call rfl (by first | exact c_spreadS st 0 rfl hl | exact c_spreadS st 1 rfl hl | exact c_spreadS st 2 rfl hl | exact c_spreadS st 3 rfl hl) rfl ?_
    rintro v15 w ⟨t, rfl⟩
    have st := st.pure t
    refine wl_nil ⟨rfl, ?_⟩
    refine fl_eff1 4 [7, 6, 5, 1, 0] [8] (by kernel_rfl) ⟨obl_ld rfl rfl rfl (v_load rfl (by first | exact st.reads 0 rfl TF.t118 (getV_state ..) | exact st.reads 1 rfl TF.t118 (getV_state ..) | exact st.reads 2 rfl TF.t118 (getV_state ..) | exact st.reads 3 rfl TF.t118 (getV_state ..))), trivial⟩ rfl ?_
    refine wl_call rfl (c_factors st.im) rfl ?_
    rintro v16 w ⟨t, rfl⟩
    have st := st.pure t
    refine wl_nil ⟨rfl, ?_⟩
    refine FL.permB [11, 10, 9, 4, 3, 8, 7, 6, 5, 2, 1, 0] [7, 6, 5, 1, 0] [8] (by kernel_rfl) ?_
    exact fin _ _ _ _ _ rfl rfl rfl rfl rfl rfl rfl rfl rfl rfl (by first | exact st | exact st.perm p3_2 | exact st.perm p3_3 | exact st.perm p3_4 | exact st.perm p3_5 | exact st.perm p3_6)
  ·refine stepE 11 (pure' := [7, 6, 5, 2, 1, 0]) (lds' := [8]) rfl (by kernel_rfl) (by kernel_rfl) ?_
   refine wl_alloc TF.z118 st rfl ?_
   intro b4 w st
   refine wl_nil ⟨rfl, ?_⟩
   refine fl_effs [3, 9] (by kernel_rfl) ⟨obl_ld rfl rfl rfl (v_load rfl (by first | exact st.reads 0 rfl TF.t118 (getV_state ..) | exact st.reads 1 rfl TF.t118 (getV_state ..) | exact st.reads 2 rfl TF.t118 (getV_state ..) | exact st.reads 3 rfl TF.t118 (getV_state ..))), trivial⟩ (all2 ?_ ?_)
   ·refine stepE 3 (pure' := [7, 6, 5, 1, 0]) (lds' := [8]) rfl (by kernel_rfl) (by kernel_rfl) ?_
    refine wl_call rfl (by first | exact c_spreadS st 0 rfl hl | exact c_spreadS st 1 rfl hl | exact c_spreadS st 2 rfl hl | exact c_spreadS st 3 rfl hl) rfl ?_
    rintro v15 w ⟨t, rfl⟩
    have st := st.pure t
    refine wl_nil ⟨rfl, ?_⟩
    refine fl_effs [4, 9] (by kernel_rfl) ⟨obl_ld rfl rfl rfl (v_load rfl (by first | exact st.reads 0 rfl TF.t118 (getV_state ..) | exact st.reads 1 rfl TF.t118 (getV_state ..) | exact st.reads 2 rfl TF.t118 (getV_state ..) | exact st.reads 3 rfl TF.t118 (getV_state ..))), trivial⟩ (all2 ?_ ?_)
    ·refine stepE 4 (pure' := [7, 6, 5, 1, 0]) (lds' := [8]) rfl (by kernel_rfl) (by kernel_rfl) ?_
     refine wl_call rfl (c_factors st.im) rfl ?_
     rintro v16 w ⟨t, rfl⟩
     have st := st.pure t
     refine wl_nil ⟨rfl, ?_⟩
     refine fl_eff1 9 [7, 6, 5, 1, 0] [8] (by kernel_rfl) ⟨obl_ld rfl rfl rfl (v_load rfl (by first | exact st.reads 0 rfl TF.t118 (getV_state ..) | exact st.reads 1 rfl TF.t118 (getV_state ..) | exact st.reads 2 rfl TF.t118 (getV_state ..) | exact st.reads 3 rfl TF.t118 (getV_state ..))), trivial⟩ rfl ?_
     refine wl_alloc TF.z139 st rfl ?_
     intro b2 w st
     refine wl_nil ⟨rfl, ?_⟩
     refine FL.permB [11, 10, 9, 4, 3, 8, 7, 6, 5, 2, 1, 0] [7, 6, 5, 1, 0] [8] (by kernel_rfl) ?_
     exact fin _ _ _ _ _ rfl rfl rfl rfl rfl rfl rfl rfl rfl rfl (by first | exact st | exact st.perm p3_2 | exact st.perm p3_3 | exact st.perm p3_4 | exact st.perm p3_5 | exact st.perm p3_6)
    ·refine stepE 9 (pure' := [7, 6, 5, 1, 0]) (lds' := [8]) rfl (by kernel_rfl) (by kernel_rfl) ?_
     refine wl_alloc TF.z139 st rfl ?_
     intro b2 w st
     refine wl_nil ⟨rfl, ?_⟩
     refine fl_eff1 4 [7, 6, 5, 1, 0] [8] (by kernel_rfl) ⟨obl_ld rfl rfl rfl (v_load rfl (by first | exact st.reads 0 rfl TF.t118 (getV_state ..) | exact st.reads 1 rfl TF.t118 (getV_state ..) | exact st.reads 2 rfl TF.t118 (getV_state ..) | exact st.reads 3 rfl TF.t118 (getV_state ..))), trivial⟩ rfl ?_
     refine wl_call rfl (c_factors st.im) rfl ?_
     rintro v16 w ⟨t, rfl⟩
     have st := st.pure t
     refine wl_nil ⟨rfl, ?_⟩
     refine FL.permB [11, 10, 9, 4, 3, 8, 7, 6, 5, 2, 1, 0] [7, 6, 5, 1, 0] [8] (by kernel_rfl) ?_
     exact fin _ _ _ _ _ rfl rfl rfl rfl rfl rfl rfl rfl rfl rfl (by first | exact st | exact st.perm p3_2 | exact st.perm p3_3 | exact st.perm p3_4 | exact st.perm p3_5 | exact st.perm p3_6)
   ·refine stepE 9 (pure' := [7, 6, 5, 2, 1, 0]) (lds' := [8]) rfl (by kernel_rfl) (by kernel_rfl) ?_
    refine wl_alloc TF.z139 st rfl ?_
    intro b2 w st
    refine wl_nil ⟨rfl, ?_⟩
    refine fl_eff1 3 [7, 6, 5, 1, 0] [8] (by kernel_rfl) ⟨obl_ld rfl rfl rfl (v_load rfl (by first | exact st.reads 0 rfl TF.t118 (getV_state ..) | exact st.reads 1 rfl TF.t118 (getV_state ..) | exact st.reads 2 rfl TF.t118 (getV_state ..) | exact st.reads 3 rfl TF.t118 (getV_state ..))), trivial⟩ rfl ?_
    refine wl_call rfl (by first | exact c_spreadS st 0 rfl hl | exact c_spreadS st 1 rfl hl | exact c_spreadS st 2 rfl hl | exact c_spreadS st 3 rfl hl) rfl ?_
    rintro v15 w ⟨t, rfl⟩
    have st := st.pure t
    refine wl_nil ⟨rfl, ?_⟩
    refine fl_eff1 4 [7, 6, 5, 1, 0] [8] (by kernel_rfl) ⟨obl_ld rfl rfl rfl (v_load rfl (by first | exact st.reads 0 rfl TF.t118 (getV_state ..) | exact st.reads 1 rfl TF.t118 (getV_state ..) | exact st.reads 2 rfl TF.t118 (getV_state ..) | exact st.reads 3 rfl TF.t118 (getV_state ..))), trivial⟩ rfl ?_
    refine wl_call rfl (c_factors st.im) rfl ?_
    rintro v16 w ⟨t, rfl⟩
    have st := st.pure t
    refine wl_nil ⟨rfl, ?_⟩
    refine FL.permB [11, 10, 9, 4, 3, 8, 7, 6, 5, 2, 1, 0] [7, 6, 5, 1, 0] [8] (by kernel_rfl) ?_
    exact fin _ _ _ _ _ rfl rfl rfl rfl rfl rfl rfl rfl rfl rfl (by first | exact st | exact st.perm p3_2 | exact st.perm p3_3 | exact st.perm p3_4 | exact st.perm p3_5 | exact st.perm p3_6)
 ·refine stepE 11 (pure' := [7, 6, 5, 2, 1, 0]) (lds' := [8]) rfl (by kernel_rfl) (by kernel_rfl) ?_
  refine wl_alloc TF.z118 st rfl ?_
  intro b4 w st
  refine wl_nil ⟨rfl, ?_⟩
  refine fl_effs [3, 9, 10] (by kernel_rfl) ⟨obl_ld rfl rfl rfl (v_load rfl (by first | exact st.reads 0 rfl TF.t118 (getV_state ..) | exact st.reads 1 rfl TF.t118 (getV_state ..) | exact st.reads 2 rfl TF.t118 (getV_state ..) | exact st.reads 3 rfl TF.t118 (getV_state ..))), trivial⟩ (all3 ?_ ?_ ?_)
  ·refine stepE 3 (pure' := [7, 6, 5, 1, 0]) (lds' := [8]) rfl (by kernel_rfl) (by kernel_rfl) ?_
   refine wl_call rfl (by first | exact c_spreadS st 0 rfl hl | exact c_spreadS st 1 rfl hl | exact c_spreadS st 2 rfl hl | exact c_spreadS st 3 rfl hl) rfl ?_
   rintro v15 w ⟨t, rfl⟩
   have st := st.pure t
   refine wl_nil ⟨rfl, ?_⟩
   refine fl_effs [4, 9, 10] (by kernel_rfl) ⟨obl_ld rfl rfl rfl (v_load rfl (by first | exact st.reads 0 rfl TF.t118 (getV_state ..) | exact st.reads 1 rfl TF.t118 (getV_state ..) | exact st.reads 2 rfl TF.t118 (getV_state ..) | exact st.reads 3 rfl TF.t118 (getV_state ..))), trivial⟩ (all3 ?_ ?_ ?_)
   ·refine stepE 4 (pure' := [7, 6, 5, 1, 0]) (lds' := [8]) rfl (by kernel_rfl) (by kernel_rfl) ?_
    refine wl_call rfl (c_factors st.im) rfl ?_
    rintro v16 w ⟨t, rfl⟩
    have st := st.pure t
    refine wl_nil ⟨rfl, ?_⟩
    refine fl_effs [9, 10] (by kernel_rfl) ⟨obl_ld rfl rfl rfl (v_load rfl (by first | exact st.reads 0 rfl TF.t118 (getV_state ..) | exact st.reads 1 rfl TF.t118 (getV_state ..) | exact st.reads 2 rfl TF.t118 (getV_state ..) | exact st.reads 3 rfl TF.t118 (getV_state ..))), trivial⟩ (all2 ?_ ?_)
    ·refine stepE 9 (pure' := [7, 6, 5, 1, 0]) (lds' := [8]) rfl (by kernel_rfl) (by kernel_rfl) ?_
     refine wl_alloc TF.z139 st rfl ?_
     intro b2 w st
     refine wl_nil ⟨rfl, ?_⟩
     refine fl_eff1 10 [7, 6, 5, 1, 0] [8] (by kernel_rfl) ⟨obl_ld rfl rfl rfl (v_load rfl (by first | exact st.reads 0 rfl TF.t118 (getV_state ..) | exact st.reads 1 rfl TF.t118 (getV_state ..) | exact st.reads 2 rfl TF.t118 (getV_state ..) | exact st.reads 3 rfl TF.t118 (getV_state ..))), trivial⟩ rfl ?_
     refine wl_alloc TF.z139 st rfl ?_
     intro b3 w st
     refine wl_nil ⟨rfl, ?_⟩
     refine FL.permB [11, 10, 9, 4, 3, 8, 7, 6, 5, 2, 1, 0] [7, 6, 5, 1, 0] [8] (by kernel_rfl) ?_
     exact fin _ _ _ _ _ rfl rfl rfl rfl rfl rfl rfl rfl rfl rfl (by first | exact st | exact st.perm p3_2 | exact st.perm p3_3 | exact st.perm p3_4 | exact st.perm p3_5 | exact st.perm p3_6)
    ·refine stepE 10 (pure' := [7, 6, 5, 1, 0]) (lds' := [8]) rfl (by kernel_rfl) (by kernel_rfl) ?_
     refine wl_alloc TF.z139 st rfl ?_
     intro b3 w st
     refine wl_nil ⟨rfl, ?_⟩
     refine fl_eff1 9 [7, 6, 5, 1, 0] [8] (by kernel_rfl) ⟨obl_ld rfl rfl rfl (v_load rfl (by first | exact st.reads 0 rfl TF.t118 (getV_state ..) | exact st.reads 1 rfl TF.t118 (getV_state ..) | exact st.reads 2 rfl TF.t118 (getV_state ..) | exact st.reads 3 rfl TF.t118 (getV_state ..))), trivial⟩ rfl ?_
     refine wl_alloc TF.z139 st rfl ?_
     intro b2 w st
     refine wl_nil ⟨rfl, ?_⟩
     refine FL.permB [11, 10, 9, 4, 3, 8, 7, 6, 5, 2, 1, 0] [7, 6, 5, 1, 0] [8] (by kernel_rfl) ?_
     exact fin _ _ _ _ _ rfl rfl rfl rfl rfl rfl rfl rfl rfl rfl (by first | exact st | exact st.perm p3_2 | exact st.perm p3_3 | exact st.perm p3_4 | exact st.perm p3_5 | exact st.perm p3_6)
   ·refine stepE 9 (pure' := [7, 6, 5, 1, 0]) (lds' := [8]) rfl (by kernel_rfl) (by kernel_rfl) ?_
    refine wl_alloc TF.z139 st rfl ?_
    intro b2 w st
    refine wl_nil ⟨rfl, ?_⟩
    refine fl_effs [4, 10] (by kernel_rfl) ⟨obl_ld rfl rfl rfl (v_load rfl (by first | exact st.reads 0 rfl TF.t118 (getV_state ..) | exact st.reads 1 rfl TF.t118 (getV_state ..) | exact st.reads 2 rfl TF.t118 (getV_state ..) | exact st.reads 3 rfl TF.t118 (getV_state ..))), trivial⟩ (all2 ?_ ?_)
    ·refine stepE 4 (pure' := [7, 6, 5, 1, 0]) (lds' := [8]) rfl (by kernel_rfl) (by kernel_rfl) ?_
     refine wl_call rfl (c_factors st.im) rfl ?_
     rintro v16 w ⟨t, rfl⟩
     have st := st.pure t
     refine wl_nil ⟨rfl, ?_⟩
     refine fl_eff1 10 [7, 6, 5, 1, 0] [8] (by kernel_rfl) ⟨obl_ld rfl rfl rfl (v_load rfl (by first | exact st.reads 0 rfl TF.t118 (getV_state ..) | exact st.reads 1 rfl TF.t118 (getV_state ..) | exact st.reads 2 rfl TF.t118 (getV_state ..) | exact st.reads 3 rfl TF.t118 (getV_state ..))), trivial⟩ rfl ?_
     refine wl_alloc TF.z139 st rfl ?_
     intro b3 w st
     refine wl_nil ⟨rfl, ?_⟩
     refine FL.permB [11, 10, 9, 4, 3, 8, 7, 6, 5, 2, 1, 0] [7, 6, 5, 1, 0] [8] (by kernel_rfl) ?_
     exact fin _ _ _ _ _ rfl rfl rfl rfl rfl rfl rfl rfl rfl rfl (by first | exact st | exact st.perm p3_2 | exact st.perm p3_3 | exact st.perm p3_4 | exact st.perm p3_5 | exact st.perm p3_6)
    ·refine stepE 10 (pure' := [7, 6, 5, 1, 0]) (lds' := [8]) rfl (by kernel_rfl) (by kernel_rfl) ?_
     refine wl_alloc TF.z139 st rfl ?_
     intro b3 w st
     refine wl_nil ⟨rfl, ?_⟩
     refine fl_eff1 4 [7, 6, 5, 1, 0] [8] (by kernel_rfl) ⟨obl_ld rfl rfl rfl (v_load rfl (by first | exact st.reads 0 rfl TF.t118 (getV_state ..) | exact st.reads 1 rfl TF.t118 (getV_state ..) | exact st.reads 2 rfl TF.t118 (getV_state ..) | exact st.reads 3 rfl TF.t118 (getV_state ..))), trivial⟩ rfl ?_
     refine wl_call rfl (c_factors st.im) rfl ?_
     rintro v16 w ⟨t, rfl⟩
     have st := st.pure t
     refine wl_nil ⟨rfl, ?_⟩
     refine FL.permB [11, 10, 9, 4, 3, 8, 7, 6, 5, 2, 1, 0] [7, 6, 5, 1, 0] [8] (by kernel_rfl) ?_
     exact fin _ _ _ _ _ rfl rfl rfl rfl rfl rfl rfl rfl rfl rfl (by first | exact st | exact st.perm p3_2 | exact st.perm p3_3 | exact st.perm p3_4 | exact st.perm p3_5 | exact st.perm p3_6)
   ·refine stepE 10 (pure' := [7, 6, 5, 1, 0]) (lds' := [8]) rfl (by kernel_rfl) (by kernel_rfl) ?_
    refine wl_alloc TF.z139 st rfl ?_
    intro b3 w st
    refine wl_nil ⟨rfl, ?_⟩
    refine fl_effs [4, 9] (by kernel_rfl) ⟨obl_ld rfl rfl rfl (v_load rfl (by first | exact st.reads 0 rfl TF.t118 (getV_state ..) | exact st.reads 1 rfl TF.t118 (getV_state ..) | exact st.reads 2 rfl TF.t118 (getV_state ..) | exact st.reads 3 rfl TF.t118 (getV_state ..))), trivial⟩ (all2 ?_ ?_)
    ·refine stepE 4 (pure' := [7, 6, 5, 1, 0]) (lds' := [8]) rfl (by kernel_rfl) (by kernel_rfl) ?_
     refine wl_call rfl (c_factors st.im) rfl ?_
     rintro v16 w ⟨t, rfl⟩
     have st := st.pure t
     refine wl_nil ⟨rfl, ?_⟩
     refine fl_eff1 9 [7, 6, 5, 1, 0] [8] (by kernel_rfl) ⟨obl_ld rfl rfl rfl (v_load rfl (by first | exact st.reads 0 rfl TF.t118 (getV_state ..) | exact st.reads 1 rfl TF.t118 (getV_state ..) | exact st.reads 2 rfl TF.t118 (getV_state ..) | exact st.reads 3 rfl TF.t118 (getV_state ..))), trivial⟩ rfl ?_
     refine wl_alloc TF.z139 st rfl ?_
     intro b2 w st
     refine wl_nil ⟨rfl, ?_⟩
     refine FL.permB [11, 10, 9, 4, 3, 8, 7, 6, 5, 2, 1, 0] [7, 6, 5, 1, 0] [8] (by kernel_rfl) ?_
     exact fin _ _ _ _ _ rfl rfl rfl rfl rfl rfl rfl rfl rfl rfl (by first | exact st | exact st.perm p3_2 | exact st.perm p3_3 | exact st.perm p3_4 | exact st.perm p3_5 | exact st.perm p3_6)
    ·refine stepE 9 (pure' := [7, 6, 5, 1, 0]) (lds' := [8]) rfl (by kernel_rfl) (by kernel_rfl) ?_
     refine wl_alloc TF.z139 st rfl ?_
     intro b2 w st
     refine wl_nil ⟨rfl, ?_⟩
     refine fl_eff1 4 [7, 6, 5, 1, 0] [8] (by kernel_rfl) ⟨obl_ld rfl rfl rfl (v_load rfl (by first | exact st.reads 0 rfl TF.t118 (getV_state ..) | exact st.reads 1 rfl TF.t118 (getV_state ..) | exact st.reads 2 rfl TF.t118 (getV_state ..) | exact st.reads 3 rfl TF.t118 (getV_state ..))), trivial⟩ rfl ?_
     refine wl_call rfl (c_factors st.im) rfl ?_
     rintro v16 w ⟨t, rfl⟩
     have st := st.pure t
     refine wl_nil ⟨rfl, ?_⟩
     refine FL.permB [11, 10, 9, 4, 3, 8, 7, 6, 5, 2, 1, 0] [7, 6, 5, 1, 0] [8] (by kernel_rfl) ?_
     exact fin _ _ _ _ _ rfl rfl rfl rfl rfl rfl rfl rfl rfl rfl (by first | exact st | exact st.perm p3_2 | exact st.perm p3_3 | exact st.perm p3_4 | exact st.perm p3_5 | exact st.perm p3_6)
  ·refine stepE 9 (pure' := [7, 6, 5, 2, 1, 0]) (lds' := [8]) rfl (by kernel_rfl) (by kernel_rfl) ?_
   refine wl_alloc TF.z139 st rfl ?_
   intro b2 w st
   refine wl_nil ⟨rfl, ?_⟩
   refine fl_effs [3, 10] (by kernel_rfl) ⟨obl_ld rfl rfl rfl (v_load rfl (by first | exact st.reads 0 rfl TF.t118 (getV_state ..) | exact st.reads 1 rfl TF.t118 (getV_state ..) | exact st.reads 2 rfl TF.t118 (getV_state ..) | exact st.reads 3 rfl TF.t118 (getV_state ..))), trivial⟩ (all2 ?_ ?_)
   ·refine stepE 3 (pure' := [7, 6, 5, 1, 0]) (lds' := [8]) rfl (by kernel_rfl) (by kernel_rfl) ?_
    refine wl_call rfl (by first | exact c_spreadS st 0 rfl hl | exact c_spreadS st 1 rfl hl | exact c_spreadS st 2 rfl hl | exact c_spreadS st 3 rfl hl) rfl ?_
    rintro v15 w ⟨t, rfl⟩
    have st := st.pure t
    refine wl_nil ⟨rfl, ?_⟩
    refine fl_effs [4, 10] (by kernel_rfl) ⟨obl_ld rfl rfl rfl (v_load rfl (by first | exact st.reads 0 rfl TF.t118 (getV_state ..) | exact st.reads 1 rfl TF.t118 (getV_state ..) | exact st.reads 2 rfl TF.t118 (getV_state ..) | exact st.reads 3 rfl TF.t118 (getV_state ..))), trivial⟩ (all2 ?_ ?_)
    ·refine stepE 4 (pure' := [7, 6, 5, 1, 0]) (lds' := [8]) rfl (by kernel_rfl) (by kernel_rfl) ?_
     refine wl_call rfl (c_factors st.im) rfl ?_
     rintro v16 w ⟨t, rfl⟩
     have st := st.pure t
     refine wl_nil ⟨rfl, ?_⟩
     refine fl_eff1 10 [7, 6, 5, 1, 0] [8] (by kernel_rfl) ⟨obl_ld rfl rfl rfl (v_load rfl (by first | exact st.reads 0 rfl TF.t118 (getV_state ..) | exact st.reads 1 rfl TF.t118 (getV_state ..) | exact st.reads 2 rfl TF.t118 (getV_state ..) | exact st.reads 3 rfl TF.t118 (getV_state ..))), trivial⟩ rfl ?_
     refine wl_alloc TF.z139 st rfl ?_
     intro b3 w st
     refine wl_nil ⟨rfl, ?_⟩
     refine FL.permB [11, 10, 9, 4, 3, 8, 7, 6, 5, 2, 1, 0] [7, 6, 5, 1, 0] [8] (by kernel_rfl) ?_
     exact fin _ _ _ _ _ rfl rfl rfl rfl rfl rfl rfl rfl rfl rfl (by first | exact st | exact st.perm p3_2 | exact st.perm p3_3 | exact st.perm p3_4 | exact st.perm p3_5 | exact st.perm p3_6)
    ·refine stepE 10 (pure' := [7, 6, 5, 1, 0]) (lds' := [8]) rfl (by kernel_rfl) (by kernel_rfl) ?_
     refine wl_alloc TF.z139 st rfl ?_
     intro b3 w st
     refine wl_nil ⟨rfl, ?_⟩
     refine fl_eff1 4 [7, 6, 5, 1, 0] [8] (by kernel_rfl) ⟨obl_ld rfl rfl rfl (v_load rfl (by first | exact st.reads 0 rfl TF.t118 (getV_state ..) | exact st.reads 1 rfl TF.t118 (getV_state ..) | exact st.reads 2 rfl TF.t118 (getV_state ..) | exact st.reads 3 rfl TF.t118 (getV_state ..))), trivial⟩ rfl ?_
     refine wl_call rfl (c_factors st.im) rfl ?_
     rintro v16 w ⟨t, rfl⟩
     have st := st.pure t
     refine wl_nil ⟨rfl, ?_⟩
     refine FL.permB [11, 10, 9, 4, 3, 8, 7, 6, 5, 2, 1, 0] [7, 6, 5, 1, 0] [8] (by kernel_rfl) ?_
     exact fin _ _ _ _ _ rfl rfl rfl rfl rfl rfl rfl rfl rfl rfl (by first | exact st | exact st.perm p3_2 | exact st.perm p3_3 | exact st.perm p3_4 | exact st.perm p3_5 | exact st.perm p3_6)
   ·refine stepE 10 (pure' := [7, 6, 5, 2, 1, 0]) (lds' := [8]) rfl (by kernel_rfl) (by kernel_rfl) ?_
    refine wl_alloc TF.z139 st rfl ?_
    intro b3 w st
    refine wl_nil ⟨rfl, ?_⟩
    refine fl_eff1 3 [7, 6, 5, 1, 0] [8] (by kernel_rfl) ⟨obl_ld rfl rfl rfl (v_load rfl (by first | exact st.reads 0 rfl TF.t118 (getV_state ..) | exact st.reads 1 rfl TF.t118 (getV_state ..) | exact st.reads 2 rfl TF.t118 (getV_state ..) | exact st.reads 3 rfl TF.t118 (getV_state ..))), trivial⟩ rfl ?_
    refine wl_call rfl (by first | exact c_spreadS st 0 rfl hl | exact c_spreadS st 1 rfl hl | exact c_spreadS st 2 rfl hl | exact c_spreadS st 3 rfl hl) rfl ?_
    rintro v15 w ⟨t, rfl⟩
    have st := st.pure t
    refine wl_nil ⟨rfl, ?_⟩
    refine fl_eff1 4 [7, 6, 5, 1, 0] [8] (by kernel_rfl) ⟨obl_ld rfl rfl rfl (v_load rfl (by first | exact st.reads 0 rfl TF.t118 (getV_state ..) | exact st.reads 1 rfl TF.t118 (getV_state ..) | exact st.reads 2 rfl TF.t118 (getV_state ..) | exact st.reads 3 rfl TF.t118 (getV_state ..))), trivial⟩ rfl ?_
    refine wl_call rfl (c_factors st.im) rfl ?_
    rintro v16 w ⟨t, rfl⟩
    have st := st.pure t
    refine wl_nil ⟨rfl, ?_⟩
    refine FL.permB [11, 10, 9, 4, 3, 8, 7, 6, 5, 2, 1, 0] [7, 6, 5, 1, 0] [8] (by kernel_rfl) ?_
    exact fin _ _ _ _ _ rfl rfl rfl rfl rfl rfl rfl rfl rfl rfl (by first | exact st | exact st.perm p3_2 | exact st.perm p3_3 | exact st.perm p3_4 | exact st.perm p3_5 | exact st.perm p3_6)
  ·refine stepE 10 (pure' := [7, 6, 5, 2, 1, 0]) (lds' := [8]) rfl (by kernel_rfl) (by kernel_rfl) ?_
   refine wl_alloc TF.z139 st rfl ?_
   intro b3 w st
   refine wl_nil ⟨rfl, ?_⟩
   refine fl_effs [3, 9] (by kernel_rfl) ⟨obl_ld rfl rfl rfl (v_load rfl (by first | exact st.reads 0 rfl TF.t118 (getV_state ..) | exact st.reads 1 rfl TF.t118 (getV_state ..) | exact st.reads 2 rfl TF.t118 (getV_state ..) | exact st.reads 3 rfl TF.t118 (getV_state ..))), trivial⟩ (all2 ?_ ?_)
   ·refine stepE 3 (pure' := [7, 6, 5, 1, 0]) (lds' := [8]) rfl (by kernel_rfl) (by kernel_rfl) ?_
    refine wl_call rfl (by first | exact c_spreadS st 0 rfl hl | exact c_spreadS st 1 rfl hl | exact c_spreadS st 2 rfl hl | exact c_spreadS st 3 rfl hl) rfl ?_
    rintro v15 w ⟨t, rfl⟩
    have st := st.pure t
    refine wl_nil ⟨rfl, ?_⟩
    refine fl_effs [4, 9] (by kernel_rfl) ⟨obl_ld rfl rfl rfl (v_load rfl (by first | exact st.reads 0 rfl TF.t118 (getV_state ..) | exact st.reads 1 rfl TF.t118 (getV_state ..) | exact st.reads 2 rfl TF.t118 (getV_state ..) | exact st.reads 3 rfl TF.t118 (getV_state ..))), trivial⟩ (all2 ?_ ?_)
    ·refine stepE 4 (pure' := [7, 6, 5, 1, 0]) (lds' := [8]) rfl (by kernel_rfl) (by kernel_rfl) ?_
     refine wl_call rfl (c_factors st.im) rfl ?_
     rintro v16 w ⟨t, rfl⟩
     have st := st.pure t
     refine wl_nil ⟨rfl, ?_⟩
     refine fl_eff1 9 [7, 6, 5, 1, 0] [8] (by kernel_rfl) ⟨obl_ld rfl rfl rfl (v_load rfl (by first | exact st.reads 0 rfl TF.t118 (getV_state ..) | exact st.reads 1 rfl TF.t118 (getV_state ..) | exact st.reads 2 rfl TF.t118 (getV_state ..) | exact st.reads 3 rfl TF.t118 (getV_state ..))), trivial⟩ rfl ?_
     refine wl_alloc TF.z139 st rfl ?_
     intro b2 w st
     refine wl_nil ⟨rfl, ?_⟩
     refine FL.permB [11, 10, 9, 4, 3, 8, 7, 6, 5, 2, 1, 0] [7, 6, 5, 1, 0] [8] (by kernel_rfl) ?_
     exact fin _ _ _ _ _ rfl rfl rfl rfl rfl rfl rfl rfl rfl rfl (by first | exact st | exact st.perm p3_2 | exact st.perm p3_3 | exact st.perm p3_4 | exact st.perm p3_5 | exact st.perm p3_6)
    ·refine stepE 9 (pure' := [7, 6, 5, 1, 0]) (lds' := [8]) rfl (by kernel_rfl) (by kernel_rfl) ?_
     refine wl_alloc TF.z139 st rfl ?_
     intro b2 w st
     refine wl_nil ⟨rfl, ?_⟩
     refine fl_eff1 4 [7, 6, 5, 1, 0] [8] (by kernel_rfl) ⟨obl_ld rfl rfl rfl (v_load rfl (by first | exact st.reads 0 rfl TF.t118 (getV_state ..) | exact st.reads 1 rfl TF.t118 (getV_state ..) | exact st.reads 2 rfl TF.t118 (getV_state ..) | exact st.reads 3 rfl TF.t118 (getV_state ..))), trivial⟩ rfl ?_
     refine wl_call rfl (c_factors st.im) rfl ?_
     rintro v16 w ⟨t, rfl⟩
     have st := st.pure t
     refine wl_nil ⟨rfl, ?_⟩
     refine FL.permB [11, 10, 9, 4, 3, 8, 7, 6, 5, 2, 1, 0] [7, 6, 5, 1, 0] [8] (by kernel_rfl) ?_
     exact fin _ _ _ _ _ rfl rfl rfl rfl rfl rfl rfl rfl rfl rfl (by first | exact st | exact st.perm p3_2 | exact st.perm p3_3 | exact st.perm p3_4 | exact st.perm p3_5 | exact st.perm p3_6)
   ·refine stepE 9 (pure' := [7, 6, 5, 2, 1, 0]) (lds' := [8]) rfl (by kernel_rfl) (by kernel_rfl) ?_
    refine wl_alloc TF.z139 st rfl ?_
    intro b2 w st
    refine wl_nil ⟨rfl, ?_⟩
    refine fl_eff1 3 [7, 6, 5, 1, 0] [8] (by kernel_rfl) ⟨obl_ld rfl rfl rfl (v_load rfl (by first | exact st.reads 0 rfl TF.t118 (getV_state ..) | exact st.reads 1 rfl TF.t118 (getV_state ..) | exact st.reads 2 rfl TF.t118 (getV_state ..) | exact st.reads 3 rfl TF.t118 (getV_state ..))), trivial⟩ rfl ?_
    refine wl_call rfl (by first | exact c_spreadS st 0 rfl hl | exact c_spreadS st 1 rfl hl | exact c_spreadS st 2 rfl hl | exact c_spreadS st 3 rfl hl) rfl ?_
    rintro v15 w ⟨t, rfl⟩
    have st := st.pure t
    refine wl_nil ⟨rfl, ?_⟩
    refine fl_eff1 4 [7, 6, 5, 1, 0] [8] (by kernel_rfl) ⟨obl_ld rfl rfl rfl (v_load rfl (by first | exact st.reads 0 rfl TF.t118 (getV_state ..) | exact st.reads 1 rfl TF.t118 (getV_state ..) | exact st.reads 2 rfl TF.t118 (getV_state ..) | exact st.reads 3 rfl TF.t118 (getV_state ..))), trivial⟩ rfl ?_
    refine wl_call rfl (c_factors st.im) rfl ?_
    rintro v16 w ⟨t, rfl⟩
    have st := st.pure t
    refine wl_nil ⟨rfl, ?_⟩
    refine FL.permB [11, 10, 9, 4, 3, 8, 7, 6, 5, 2, 1, 0] [7, 6, 5, 1, 0] [8] (by kernel_rfl) ?_
    exact fin _ _ _ _ _ rfl rfl rfl rfl rfl rfl rfl rfl rfl rfl (by first | exact st | exact st.perm p3_2 | exact st.perm p3_3 | exact st.perm p3_4 | exact st.perm p3_5 | exact st.perm p3_6)
end
end Go.Proofs.Ytonlmjpenonabaa

namespace Go.Proofs.Ytonlmjpenonabaa
open Go Go.RowKit K SH
namespace SH
def spl (S : List UInt8) (o : Nat) (l : List UInt8) : List UInt8 := S.take o ++ l ++ S.drop (o + l.length)
theorem length_spl {S l : List UInt8} {o : Nat} (h : o + l.length ≤ S.length) : (spl S o l).length = S.length := by simp [spl]; omega
theorem hs_append (L y : List UInt8) : ∀ k, 64 * k ≤ L.length → hs (L ++ y) k = hs L k
 | 0, _ => rfl
 | k + 1, h => by
  have ih := hs_append L y k (by omega)
  have e : ((L ++ y).drop (64 * k)).take 64 = (L.drop (64 * k)).take 64 := by
   rw [List.drop_append_of_le_length (by omega), List.take_append_of_le_length (by simp; omega)]
  rw [hs, hs, ih, e]
structure HSt (L : List UInt8) (v : V8) (bk : List UInt8) (hv : Nat) : Prop where
 st : v = hs L (L.length / 64)
 at_ : hv = L.length % 64
 len : bk.length = 64
 pre : bk.take hv = L.drop (64 * (L.length / 64))
theorem HSt.lt {L bk : List UInt8} {v : V8} {hv : Nat} (h : HSt L v bk hv) : hv < 64 := by rw [h.at_]; exact Nat.mod_lt _ (by decide)
theorem HSt.part {L bk y : List UInt8} {v : V8} {hv : Nat} (h : HSt L v bk hv) (hy : hv + y.length < 64) : HSt (L ++ y) v (spl bk hv y) (hv + y.length) := by
 have h1 := h.at_
 have hd : (L ++ y).length / 64 = L.length / 64 := by rw [List.length_append]; omega
 have hl := h.len
 refine ⟨?_, by rw [List.length_append]; omega, by rw [length_spl (by omega), hl], ?_⟩
 ·rw [hd, hs_append _ _ _ (by omega)]
  exact h.st
 ·rw [hd, List.drop_append_of_le_length (by omega), ← h.pre]
  unfold spl
  have hlt : (bk.take hv).length = hv := by simp; omega
  rw [List.take_append_of_le_length (by simp; omega), List.take_of_length_le (by simp; omega)]
theorem HSt.whole {L bk y : List UInt8} {v : V8} {hv : Nat} (h : HSt L v bk hv) (hy : hv + y.length = 64) : HSt (L ++ y) (comp v (spl bk hv y)) (spl bk hv y) 0 := by
 have h1 := h.at_
 have h2 := h.lt
 have hd : (L ++ y).length / 64 = L.length / 64 + 1 := by rw [List.length_append]; omega
 have hl := h.len
 have hsp : spl bk hv y = bk.take hv ++ y := by
  unfold spl
  rw [List.drop_eq_nil_of_le (by omega), List.append_nil]
 refine ⟨?_, by rw [List.length_append]; omega, by rw [length_spl (by omega), hl], ?_⟩
 ·rw [hd, hs, hs_append _ _ _ (by omega), ← h.st, List.drop_append_of_le_length (by omega), ← h.pre, ← hsp, List.take_of_length_le (by rw [length_spl (by omega)]; omega)]
 ·rw [hd, List.take_zero, List.drop_eq_nil_of_le (by rw [List.length_append]; omega)]
def HashAt (L : List UInt8) (c : Array Value) : Prop := ∃ v bk hv, c = hashC v bk (hv : Nat) (UInt64.ofNat L.length) ∧ HSt L v bk hv
theorem setSeg_hash {v : V8} {bk l : List UInt8} {hv : Int} {n : UInt64} {o : Nat} (h : o + l.length ≤ bk.length) : setSeg (hashC v bk hv n) (8 + o * 1) (bs l) = hashC v (spl bk o l) hv n := by
 have e1 : bs bk = bs (bk.take o) ++ bs ((bk.drop o).take l.length) ++ bs (bk.drop (o + l.length)) := by
  unfold bs
  rw [← List.map_append, ← List.map_append, List.append_assoc]
  congr 1
  rw [← List.drop_drop, List.take_append_drop, List.take_append_drop]
 have e2 : hashC v bk hv n = ((ws v.l ++ bs (bk.take o)) ++ bs ((bk.drop o).take l.length) ++ (bs (bk.drop (o + l.length)) ++ [.int .i64 hv, u64 n])).toArray := by
  unfold hashC
  rw [e1]
  simp
 rw [e2, setSeg_mid (by simp [ws, bs, length_l]; omega) (by simp [bs]; omega)]
 unfold hashC spl bs
 simp
theorem set_have {v : V8} {bk : List UInt8} {hv x : Int} {n : UInt64} (hl : bk.length = 64) : (hashC v bk hv n).setIfInBounds (0 + 72) (.int .i64 x) = hashC v bk x n := by
 unfold hashC
 have := set_app (A := ws v.l ++ bs bk) (B := [u64 n]) (x := .int .i64 x) (y := .int .i64 hv) (n := 0 + 72) (by simp [ws, bs, hl, length_l])
 exact this
theorem set_bytes {v : V8} {bk : List UInt8} {hv : Int} {n k : UInt64} (hl : bk.length = 64) : (hashC v bk hv n).setIfInBounds (0 + 73) (u64 k) = hashC v bk hv k := by
 unfold hashC
 have := set_app (A := ws v.l ++ bs bk ++ [.int .i64 hv]) (B := []) (x := u64 k) (y := u64 n) (n := 0 + 73) (by simp [ws, bs, hl, length_l])
 simpa using this
theorem getV_have {v : V8} {bk : List UInt8} {hv : Int} {n : UInt64} (hl : bk.length = 64) : getV false 1 (hashC v bk hv n) (0 + 72) = some (.int .i64 hv) := by
 unfold getV hashC
 simp only [Bool.false_eq_true, if_false]
 rw [List.getElem?_append_right (by simp [ws, bs, hl, length_l])]
 simp [ws, bs, hl, length_l]
theorem getV_bytes {v : V8} {bk : List UInt8} {hv : Int} {n : UInt64} (hl : bk.length = 64) : getV false 1 (hashC v bk hv n) (0 + 73) = some (u64 n) := by
 unfold getV hashC
 simp only [Bool.false_eq_true, if_false]
 rw [List.getElem?_append_right (by simp [ws, bs, hl, length_l])]
 simp [ws, bs, hl, length_l]
theorem size_hashC {v : V8} {bk : List UInt8} {hv : Int} {n : UInt64} (hl : bk.length = 64) : (hashC v bk hv n).size = 74 := by simp [hashC, ws, bs, hl, length_l]
end SH
section
variable {m : Mem} {wI : World}
theorem c_hwrite {b : Nat} {c : Array Value} {L x : List UInt8} {v : Value} (him : Im m wI) (hE : (K.blk b c 146).holds wI) (hm : m b = none) (hH : HashAt L c) (hx : SlM m v 1 x.length (bs x)) (hb : L.length + x.length ≤ 2199023255552) :
  Ret Try.prog 80 #[.pointer (some ⟨b, 0, none⟩), v] wI fun _ w' => ∃ c', Tch wI w' [b] [b] ∧ (K.blk b c' 146).holds w' ∧ HashAt (L ++ x) c' := by
 have st := St.startE him hE (by simpa [K.blk] using hm)
 obtain ⟨vs, bk, hv, rfl, hst⟩ := hH
 have hx0 := hx
 obtain ⟨_, xa, xc, rfl, _⟩ := hx
 refine ret_of Try.call80 Try.func80 rfl Try.ntmps80 Try.results80 rfl ?_
 refine wc_seq ?_
 refine wc_region ?_
 refine wl_val (v_move' (by conv => (lhs; whnf))) rfl ?_
 refine wl_val (v_nil rfl) rfl ?_
 refine wl_val (v_fa TF.f146_3 rfl) rfl ?_
 refine wl_val (v_load rfl (st.reads 0 rfl TF.t39 (getV_bytes hst.len))) rfl ?_
 refine wl_val (v_move' (by conv => (lhs; whnf))) rfl ?_
 refine wl_val (v_len_s Try.underlying37 rfl) rfl ?_
 refine wl_val (v_convi_64 (n := x.length) Try.underlying3 Try.underlying39 rfl) rfl ?_
 refine wl_val (v_add64 rfl rfl) rfl ?_
 refine wl_val (v_nil rfl) rfl ?_
 refine wl_val (v_fa TF.f146_3 rfl) rfl ?_
 refine wl_store1 (v := u64 (UInt64.ofNat L.length + UInt64.ofNat x.length)) 0 st rfl TF.t39 rfl rfl rfl (by rw [size_hashC hst.len]; omega) ?_
 intro w st
 refine wl_nil ?_
 refine then_go ?_
 refine wc_block ?_
 have e : (hashC vs bk (hv : Nat) (UInt64.ofNat L.length)).setIfInBounds (0 + 73) (u64 (UInt64.ofNat L.length + UInt64.ofNat x.length)) = hashC vs bk (hv : Nat) (UInt64.ofNat (L ++ x).length) := by
  rw [set_bytes hst.len, List.length_append, UInt64.ofNat_add]
 change St _ _ _ _ _ [K.blk b ((hashC vs bk (hv : Nat) (UInt64.ofNat L.length)).setIfInBounds (0 + 73) (u64 (UInt64.ofNat L.length + UInt64.ofNat x.length))) _] at st
 rw [e] at st
 refine wc_loop (S := Nat) (fun q r w' => ∃ y z vs bk hv v', x = y ++ z ∧ q = z.length ∧ r 0 = .pointer (some ⟨b, 0, none⟩) ∧ r 1 = v' ∧ SlM m v' 1 z.length (bs z) ∧ HSt (L ++ y) vs bk hv ∧ St m m [b] wI w' [K.blk b (hashC vs bk (hv : Nat) (UInt64.ofNat (L ++ x).length)) 146]) id x.length ⟨[], x, vs, bk, hv, _, rfl, rfl, rfl, rfl, hx0, by rw [List.append_nil]; exact hst, st⟩ ?_
 clear st hst
 rintro q r w2 ⟨y, z, vs, bk, hv, v', hxyz, hq, h0, h1, hz, hst, st⟩
 have hz0 := hz
 obtain ⟨_, za, zc, rfl, hzk, _⟩ := hz
 refine wc_o 0 h0 (wc_o 1 h1 ?_)
 refine wc_seq ?_
 refine wc_seq ?_
 refine wc_region ?_
 refine wl_val (v_move' (by conv => (lhs; whnf))) rfl ?_
 refine wl_val (v_len_s Try.underlying37 rfl) rfl ?_
 refine wl_val (v_gtr rfl rfl) rfl ?_
 refine wl_nil ?_
 refine then_go ?_
 refine wc_if rfl (fun h17 => ?_) (fun h17 => ?_)
 ·refine wc_skip ?_
  refine then_go ?_
  refine wc_block ?_
  refine wc_seq ?_
  have hlt := hst.lt
  have hblen := hst.len
  have hLy : (L ++ y).length ≤ 2199023255552 := by rw [hxyz] at hb; simp at hb ⊢; omega
  have hzl : z.length ≤ 2199023255552 := by rw [hxyz] at hb; simp at hb ⊢; omega
  obtain ⟨k, hk⟩ : ∃ k, k = min z.length (64 - hv) := ⟨_, rfl⟩
  have hk1 : k ≤ z.length := by omega
  have hzt : (z.take k).length = k := by simp; omega
  refine wc_draw TF.mixed ?_
  have st := st.pure (touch_drew _)
  refine fl_val 0 rfl (fun _ => (v_move' (by conv => (lhs; whnf)))) rfl (by kernel_rfl) ?_
  refine fl_val 1 rfl (fun _ => (v_nil rfl)) rfl (by kernel_rfl) ?_
  refine fl_val 2 rfl (fun _ => (v_fa TF.f146_1 rfl)) rfl (by kernel_rfl) ?_
  refine fl_val 3 rfl (fun _ => (v_move' (by conv => (lhs; whnf)))) rfl (by kernel_rfl) ?_
  refine fl_val 4 rfl (fun _ => (v_nil rfl)) rfl (by kernel_rfl) ?_
  refine fl_val 5 rfl (fun _ => (v_fa TF.f146_2 rfl)) rfl (by kernel_rfl) ?_
  refine fl_ld 6 rfl (v_load rfl (by first | exact st.reads 0 rfl TF.t3 (getV_have hst.len) | exact st.reads 0 rfl TF.t3 (getV_have hsl))) (by kernel_rfl) ?_
  refine fl_val 7 rfl (fun _ => (v_sla hv 64 Try.underlying144 TF.t5 rfl ⟨_, _, rfl, rfl⟩ rfl (by omega) (by omega) (by omega))) rfl (by kernel_rfl) ?_
  refine fl_val 8 rfl (fun _ => (v_move' (by conv => (lhs; whnf)))) rfl (by kernel_rfl) ?_
  refine fl_eff1 9 [5, 4, 3, 2, 1, 0] [6] (by kernel_rfl) ⟨obl_ld rfl rfl rfl (v_load rfl (by first | exact st.reads 0 rfl TF.t3 (getV_have hst.len) | exact st.reads 0 rfl TF.t3 (getV_have hsl))), trivial⟩ rfl ?_
  refine wl_copy (size := 1) (b := b) (off := 0 + 8 + hv * 1) (len := 64 - hv) (cap := 64 - hv) (j := z.length) (news := bs z) 0 st rfl Try.underlying37 TF.t5 rfl rfl (hz0.src st.im (one_bs _)) (by rw [size_hashC hst.len]; omega) rfl ?_
  intro w st
  rw [← hk] at st ⊢
  have e : setSeg (hashC vs bk (hv : Nat) (UInt64.ofNat (L ++ x).length)) (0 + 8 + hv * 1) ((bs z).take (k * 1)) = hashC vs (spl bk hv (z.take k)) (hv : Nat) (UInt64.ofNat (L ++ x).length) := by
   rw [show (bs z).take (k * 1) = bs (z.take k) by rw [Nat.mul_one, bs, bs, List.map_take], show 0 + 8 + hv * 1 = 8 + hv * 1 by omega, setSeg_hash (by rw [hzt]; omega)]
  change St _ _ _ _ _ [K.blk b (setSeg (hashC vs bk (hv : Nat) (UInt64.ofNat (L ++ x).length)) (0 + 8 + hv * 1) ((bs z).take (k * 1))) _] at st
  rw [e] at st
  have hsl : (spl bk hv (z.take k)).length = 64 := by rw [length_spl (by rw [hzt]; omega), hblen]
  refine wl_nil ⟨rfl, ?_⟩
  refine fl_eff1 10 [] [] (by kernel_rfl) ⟨obl_ld rfl rfl rfl (v_load rfl (by first | exact st.reads 0 rfl TF.t3 (getV_have hst.len) | exact st.reads 0 rfl TF.t3 (getV_have hsl))), trivial⟩ rfl ?_
  refine wl_val (v_assign' (by conv => (lhs; whnf))) rfl ?_
  refine wl_nil ⟨rfl, ?_⟩
  refine fl_nil (by kernel_rfl) trivial ?_
  refine then_go ?_
  refine wc_seq ?_
  refine wc_draw TF.mixed ?_
  have st := st.pure (touch_drew _)
  refine fl_val 0 rfl (fun _ => (v_move' (by conv => (lhs; whnf)))) rfl (by kernel_rfl) ?_
  refine fl_val 1 rfl (fun _ => (v_move' (by conv => (lhs; whnf)))) rfl (by kernel_rfl) ?_
  refine fl_val 2 rfl (fun _ => (v_nil rfl)) rfl (by kernel_rfl) ?_
  refine fl_val 3 rfl (fun _ => (v_fa TF.f146_2 rfl)) rfl (by kernel_rfl) ?_
  refine fl_ld 4 rfl (v_load rfl (st.reads 0 rfl TF.t3 (getV_have hsl))) (by kernel_rfl) ?_
  refine fl_val 5 rfl (fun _ => (v_move' (by conv => (lhs; whnf)))) rfl (by kernel_rfl) ?_
  refine fl_val 6 rfl (fun _ => (v_add' (c := ((hv + k : Nat) : Int)) rfl rfl (by omega) (by omega) (by omega))) rfl (by kernel_rfl) ?_
  refine fl_val 7 rfl (fun _ => (v_move' (by conv => (lhs; whnf)))) rfl (by kernel_rfl) ?_
  refine fl_val 8 rfl (fun _ => (v_move' (by conv => (lhs; whnf)))) rfl (by kernel_rfl) ?_
  refine fl_val 9 rfl (fun _ => (v_slice_s (l := k) (h := z.length) Try.underlying37 TF.t5 rfl ⟨_, _, rfl, rfl⟩ rfl hk1 hzk)) rfl (by kernel_rfl) ?_
  refine fl_val 10 rfl (fun _ => (v_nil rfl)) rfl (by kernel_rfl) ?_
  refine fl_val 11 rfl (fun _ => (v_fa TF.f146_2 rfl)) rfl (by kernel_rfl) ?_
  refine fl_eff1 12 [10, 9, 8, 7] [] (by kernel_rfl) ⟨obl_ld rfl rfl rfl (v_load rfl (st.reads 0 rfl TF.t3 (getV_have hsl))), trivial⟩ rfl ?_
  refine wl_store1 (v := .int .i64 ((hv + k : Nat) : Int)) 0 st rfl TF.t3 rfl rfl rfl (by rw [size_hashC hsl]; omega) ?_
  intro w st
  have e3 := set_have (v := vs) (bk := spl bk hv (z.take k)) (hv := (hv : Nat)) (x := ((hv + k : Nat) : Int)) (n := UInt64.ofNat (L ++ x).length) hsl
  change St _ _ _ _ _ [K.blk b ((hashC vs (spl bk hv (z.take k)) (hv : Nat) (UInt64.ofNat (L ++ x).length)).setIfInBounds (0 + 72) (.int .i64 ((hv + k : Nat) : Int))) _] at st
  rw [e3] at st
  have hz2 := hz0.subB k z.length hk1 (Nat.le_refl _)
  have hzd : (z.drop k).take (z.length - k) = z.drop k := List.take_of_length_le (by simp)
  rw [hzd, show z.length - k = (z.drop k).length by simp] at hz2
  rw [show z.length - k = (z.drop k).length by simp]
  refine wl_nil ⟨rfl, ?_⟩
  refine fl_eff1 13 [] [] (by kernel_rfl) trivial rfl ?_
  refine wl_val (v_assign' (by conv => (lhs; whnf))) rfl ?_
  refine wl_nil ⟨rfl, ?_⟩
  refine fl_nil (by kernel_rfl) trivial ?_
  refine then_go ?_
  refine wc_seq ?_
  refine wc_region ?_
  refine wl_val (v_move' (by conv => (lhs; whnf))) rfl ?_
  refine wl_val (v_nil rfl) rfl ?_
  refine wl_val (v_fa TF.f146_2 rfl) rfl ?_
  refine wl_val (v_load rfl (st.reads 0 rfl TF.t3 (getV_have hsl))) rfl ?_
  refine wl_val (v_eql rfl rfl) rfl ?_
  refine wl_nil ?_
  refine then_go ?_
  refine wc_if rfl (fun h44 => ?_) (fun h44 => ?_)
  ·refine wc_region ?_
   refine wl_val (v_move' (by conv => (lhs; whnf))) rfl ?_
   refine wl_call rfl (c_mix st.im (st.at (i := 0) rfl) (st.none (i := 0) rfl b (by simp [K.blk])) hsl) rfl ?_
   rintro v46 w ⟨t, hE2⟩
   have st := st.step 0 rfl t hE2
   change St _ _ _ _ _ [K.blk b (hashC (comp vs (spl bk hv (z.take k))) (spl bk hv (z.take k)) ((0 : Nat) : Int) (UInt64.ofNat (L ++ x).length)) _] at st
   refine wl_nil ?_
   refine block_go (then_go ?_)
   have hw := hst.whole (y := z.take k) (by rw [hzt]; omega)
   rw [List.append_assoc] at hw
   exact ⟨(z.drop k).length, by simp; omega, y ++ z.take k, z.drop k, _, _, 0, _, by rw [List.append_assoc, List.take_append_drop, hxyz], rfl, rfl, rfl, hz2, hw, st⟩
  ·refine wc_skip ?_
   refine block_go (then_go ?_)
   have hw := hst.part (y := z.take k) (by rw [hzt]; omega)
   rw [List.append_assoc, hzt] at hw
   exact ⟨(z.drop k).length, by simp; omega, y ++ z.take k, z.drop k, _, _, _, _, by rw [List.append_assoc, List.take_append_drop, hxyz], rfl, rfl, rfl, hz2, hw, st⟩
 ·refine wc_exit (then_exit (then_exit (block_hit ?_)))
  have hz0l : z = [] := List.eq_nil_of_length_eq_zero (by omega)
  have hxy : x = y := by rw [hxyz, hz0l, List.append_nil]
  rw [← hxy] at hst
  exact end0 ⟨_, st.touch, st.at (i := 0) rfl, vs, bk, hv, rfl, hst⟩
end
end Go.Proofs.Ytonlmjpenonabaa

namespace Go.Proofs.Ytonlmjpenonabaa
open Go Go.RowKit K SH
namespace SH
theorem one_hashC {v : V8} {bk : List UInt8} {hv : Int} {n : UInt64} : ∀ u ∈ (hashC v bk hv n).toList, u.oneCell' = true := by
 intro u hu
 simp only [hashC, List.mem_append, List.mem_cons, List.not_mem_nil, or_false] at hu
 rcases hu with (h | h) | h | h
 ·exact one_ws _ u h
 ·exact one_bs _ u h
 ·rw [h]; rfl
 ·rw [h]; rfl
theorem hashAt_nil : HashAt [] (hashC h0 (List.replicate 64 0) 0 0) := ⟨h0, _, 0, rfl, ⟨rfl, rfl, by simp, rfl⟩⟩
end SH
section
variable {m : Mem} {wI : World}
theorem c_hnew (him : Im m wI) : Ret Try.prog 79 #[] wI fun v w' => ∃ b c, v = .pointer (some ⟨b, 0, none⟩) ∧ Tch wI w' [] [b] ∧ (K.blk b c 146).holds w' ∧ HashAt [] c := by
 have st := St.start him
 refine ret_of Try.call79 Try.func79 rfl Try.ntmps79 Try.results79 rfl ?_
 refine wc_seq ?_
 refine wc_region ?_
 refine wl_val (v_assign' (by conv => (lhs; whnf))) rfl ?_
 refine wl_nil ?_
 refine then_go ?_
 refine wc_seq ?_
 refine wc_region ?_
 refine wl_val (v_build_fill (c' := (ws h0.l).toArray) [(0, u32 1779033703), (1, u32 3144134277), (2, u32 1013904242), (3, u32 2773480762), (4, u32 1359893119), (5, u32 2600822924), (6, u32 528734635), (7, u32 1541459225)] TF.z118 Try.underlying118 TF.t117 rfl (fill8 _ _ _ _ _ _ _ _)) rfl ?_
 refine wl_val (v_build (c' := hashC h0 (List.replicate 64 0) 0 0) [(0, arr32 h0.l)] TF.z146 TF.p146 rfl (fill_one [] (List.replicate 8 (u32 0)) (List.replicate 64 (u8 0) ++ [.int .i64 0, u64 0]) rfl rfl rfl rfl)) rfl ?_
 refine wl_box (v := .agg (hashC h0 (List.replicate 64 0) 0 0)) rfl st rfl ?_
 intro b w st
 refine wl_val (v_assign' (by conv => (lhs; whnf))) rfl ?_
 refine wl_nil ?_
 refine then_go ?_
 refine wc_ret ?_
 have hf := (St.finish (Es := []) (l := [_]) st).1
 exact ret1 rfl ⟨b, _, rfl, ⟨hf.os, hf.tape, hf.output, hf.size, hf.block, fun k hk => hf.out k (by simpa [joinE, K.blk] using hk)⟩, st.at (i := 0) rfl, hashAt_nil⟩
theorem c_hclone {b : Nat} {v : V8} {bk : List UInt8} {hv : Int} {n : UInt64} {t : TypeId} {fr : Nat × Nat} (him : Im m wI) (hm : m b = some (.cells (hashC v bk hv n) t fr)) (hl : bk.length = 64) :
  Ret Try.prog 103 #[.pointer (some ⟨b, 0, none⟩)] wI fun v' w' => ∃ b', v' = .pointer (some ⟨b', 0, none⟩) ∧ Tch wI w' [] [b'] ∧ (K.blk b' (hashC v bk hv n) 146).holds w' := by
 have st := St.start him
 refine ret_of Try.call103 Try.func103 rfl Try.ntmps103 Try.results103 rfl ?_
 refine wc_seq ?_
 refine wc_region ?_
 refine wl_val (v_assign' (by conv => (lhs; whnf))) rfl ?_
 refine wl_nil ?_
 refine then_go ?_
 refine wc_seq ?_
 refine wc_region ?_
 refine wl_val (v_move' (by conv => (lhs; whnf))) rfl ?_
 refine wl_val (v_nil rfl) rfl ?_
 refine wl_val (v_load rfl (st.readm hm TF.t146 (getV_all (size_hashC hl)))) rfl ?_
 refine wl_alloc TF.z146 st rfl ?_
 intro b3 w st
 refine wl_storeW (cs := hashC v bk hv n) 0 st rfl TF.t146 rfl rfl (size_hashC hl) rfl one_hashC ?_
 intro w st
 refine wl_nil ?_
 refine then_go ?_
 refine wc_seq ?_
 refine wc_region ?_
 refine wl_val (v_assign' (by conv => (lhs; whnf))) rfl ?_
 refine wl_nil ?_
 refine then_go ?_
 refine wc_ret ?_
 have hf := (St.finish (Es := []) (l := [_]) st).1
 exact ret1 rfl ⟨b3, rfl, ⟨hf.os, hf.tape, hf.output, hf.size, hf.block, fun k hk => hf.out k (by simpa [joinE, K.blk] using hk)⟩, st.at (i := 0) rfl⟩
theorem c_hdigest {b : Nat} {L : List UInt8} {c : Array Value} {t : TypeId} {fr : Nat × Nat} (him : Im m wI) (hm : m b = some (.cells c t fr)) (hH : HashAt L c) (hL : L.length ≤ 1099511627776) :
  Ret Try.prog 81 #[.pointer (some ⟨b, 0, none⟩)] wI fun v w' => Tch wI w' [] [] ∧ v = arr (sum L) := by
 have st := St.start him
 obtain ⟨vs, bk, hv, rfl, hst⟩ := hH
 have hfl := full_le L
 have hfm := full_mod L (by omega)
 refine ret_of Try.call81 Try.func81 rfl Try.ntmps81 Try.results81 rfl ?_
 refine wc_seq ?_
 refine wc_region ?_
 refine wl_alloc TF.z28 st rfl ?_
 intro b2 w st
 refine wl_nil ?_
 refine then_go ?_
 refine wc_seq ?_
 refine wc_region ?_
 refine wl_val (v_move' (by conv => (lhs; whnf))) rfl ?_
 refine wl_call rfl (c_hclone st.im hm hst.len) rfl ?_
 rintro v9 w ⟨b3, rfl, t, hE⟩
 have st := st.new (E := K.blk b3 _ _) t hE
 refine wl_val (v_assign' (by conv => (lhs; whnf))) rfl ?_
 refine wl_nil ?_
 refine then_go ?_
 refine wc_seq ?_
 refine wc_region ?_
 refine wl_val (v_move' (by conv => (lhs; whnf))) rfl ?_
 refine wl_val (v_move' (by conv => (lhs; whnf))) rfl ?_
 refine wl_val (v_nil rfl) rfl ?_
 refine wl_val (v_fa TF.f146_3 rfl) rfl ?_
 refine wl_val (v_load rfl (st.readm hm TF.t39 (getV_bytes hst.len))) rfl ?_
 refine wl_call rfl (c_pad st.im) rfl ?_
 rintro v15 w ⟨t, m1, hg1, hi1, hp⟩
 have st := st.grown hg1 t hi1
 refine wl_call rfl (c_hwrite (L := L) st.im (st.at (i := 0) rfl) (st.none (i := 0) rfl b3 (by simp [K.blk])) ⟨vs, bk, hv, rfl, hst⟩ hp (by rw [length_pad]; have := zs_lt (UInt64.ofNat L.length).toNat; omega)) rfl ?_
 rintro v16 w ⟨c2, t, hE2, hH2⟩
 have st := st.step 0 rfl t hE2
 rw [show L ++ pad (UInt64.ofNat L.length) = full L from rfl] at hH2
 obtain ⟨v2, bk2, hv2, rfl, hst2⟩ := hH2
 have hsum : sum L = dig v2 := by rw [hst2.st]; rfl
 change St _ _ _ _ _ [K.blk b3 (hashC v2 bk2 (hv2 : Nat) (UInt64.ofNat (full L).length)) _, _] at st
 refine wl_nil ?_
 refine then_go ?_
 refine wc_seq ?_
 refine wc_region ?_
 refine wl_alloc TF.z28 st rfl ?_
 intro b4 w st
 refine wl_nil ?_
 refine then_go ?_
 refine wc_seq ?_
 refine wc_seq ?_
 refine wc_region ?_
 refine wl_val (v_move' (by conv => (lhs; whnf))) rfl ?_
 refine wl_val (v_nil rfl) rfl ?_
 refine wl_val (v_fa TF.f146_0 rfl) rfl ?_
 refine wl_val (v_load rfl (st.reads 1 rfl TF.t118 (getV_state ..))) rfl ?_
 refine wl_val (v_move' (by conv => (lhs; whnf))) rfl ?_
 refine wl_nil ?_
 refine then_go ?_
 refine wc_block ?_
 refine wc_loop (S := Nat) (fun q r w' => ∃ i, q + i = 8 ∧ r 2 = .pointer (some ⟨b2, 0, none⟩) ∧ r 4 = .pointer (some ⟨b4, 0, none⟩) ∧ r 20 = arr32 v2.l ∧ r 21 = .int .i64 i ∧
  St m m1 [] wI w' [K.blk b4 (bs ((List.range (4 * i)).map (digB v2)) ++ List.replicate (32 - 4 * i) (u8 0)).toArray 28, K.blk b3 (hashC v2 bk2 (hv2 : Nat) (UInt64.ofNat (full L).length)) 146, K.blk b2 (Array.replicate 32 (u8 0)) 28]) id 8 ⟨0, rfl, rfl, rfl, rfl, rfl, st⟩ ?_
 rintro q r w2 ⟨i, hqi, h2, h4, h20, h21, st⟩
 refine wc_o 2 h2 (wc_o 4 h4 (wc_o 20 h20 (wc_o 21 h21 ?_)))
 refine wc_seq ?_
 refine wc_region ?_
 refine wl_val (v_lss rfl rfl) rfl ?_
 refine wl_nil ?_
 refine then_go ?_
 refine wc_seq ?_
 refine wc_if rfl (fun h22 => ?_) (fun h22 => ?_)
 ·refine wc_skip ?_
  refine then_go ?_
  refine wc_seq ?_
  refine wc_block ?_
  refine wc_seq ?_
  have hi : i < 8 := by omega
  refine wc_region ?_
  refine wl_val (v_move' (by conv => (lhs; whnf))) rfl ?_
  refine wl_val (v_index_a (v := u32 (v2.l.getD i 0)) Try.underlying118 TF.t117 rfl rfl (by omega) (by omega) (getV_wse (j := i) (by simp) (by rw [length_l]; omega))) rfl ?_
  refine wl_val (v_assign' (by conv => (lhs; whnf))) rfl ?_
  refine wl_val (v_assign' (by conv => (lhs; whnf))) rfl ?_
  refine wl_nil ?_
  refine then_go ?_
  refine wc_seq ?_
  refine wc_region ?_
  refine wl_val (v_move' (by conv => (lhs; whnf))) rfl ?_
  refine wl_nil ?_
  refine then_go ?_
  refine wc_block ?_
  refine wc_loop (S := Nat) (fun q r w' => ∃ k, q + k = 4 ∧ r 2 = .pointer (some ⟨b2, 0, none⟩) ∧ r 4 = .pointer (some ⟨b4, 0, none⟩) ∧ r 5 = .int .i64 i ∧ r 6 = u32 (v2.l.getD i 0) ∧ r 20 = arr32 v2.l ∧ r 21 = .int .i64 i ∧ r 25 = .int .i64 k ∧
   St m m1 [] wI w' [K.blk b4 (bs ((List.range (4 * i + k)).map (digB v2)) ++ List.replicate (32 - (4 * i + k)) (u8 0)).toArray 28, K.blk b3 (hashC v2 bk2 (hv2 : Nat) (UInt64.ofNat (full L).length)) 146, K.blk b2 (Array.replicate 32 (u8 0)) 28]) id 4 ⟨0, rfl, rfl, rfl, rfl, rfl, rfl, rfl, rfl, st⟩ ?_
  rintro q2 r w3 ⟨k, hqk, h2, h4, h5, h6, h20, h21, h25, st⟩
  refine wc_o 2 h2 (wc_o 4 h4 (wc_o 5 h5 (wc_o 6 h6 (wc_o 20 h20 (wc_o 21 h21 (wc_o 25 h25 ?_))))))
  refine wc_seq ?_
  refine wc_region ?_
  refine wl_val (v_lss rfl rfl) rfl ?_
  refine wl_nil ?_
  refine then_go ?_
  refine wc_seq ?_
  refine wc_if rfl (fun h26 => ?_) (fun h26 => ?_)
  ·refine wc_skip ?_
   refine then_go ?_
   refine wc_seq ?_
   refine wc_block ?_
   refine wc_seq ?_
   have hk : k < 4 := by omega
   refine wc_region ?_
   refine wl_val (v_move' (by conv => (lhs; whnf))) rfl ?_
   refine wl_val (v_assign' (by conv => (lhs; whnf))) rfl ?_
   refine wl_nil ?_
   refine then_go ?_
   refine wc_region ?_
   refine wl_val (v_move' (by conv => (lhs; whnf))) rfl ?_
   refine wl_val (v_mul' (c := ((4 * i : Nat) : Int)) rfl rfl (by omega) (by omega) (by omega)) rfl ?_
   refine wl_val (v_move' (by conv => (lhs; whnf))) rfl ?_
   refine wl_val (v_add' (c := ((4 * i + k : Nat) : Int)) rfl rfl (by omega) (by omega) (by omega)) rfl ?_
   refine wl_val (v_move' (by conv => (lhs; whnf))) rfl ?_
   refine wl_val (v_move' (by conv => (lhs; whnf))) rfl ?_
   refine wl_val (v_mul' (c := ((8 * k : Nat) : Int)) rfl rfl (by omega) (by omega) (by omega)) rfl ?_
   refine wl_val (v_sub' (c := ((24 - 8 * k : Nat) : Int)) rfl rfl (by omega) (by omega) (by omega)) rfl ?_
   refine wl_val (v_shr32 (24 - 8 * k) rfl rfl (by first | omega | decide | (dsimp only at *; omega))) rfl ?_
   refine wl_val (v_conv32_8 Try.underlying117 Try.underlying5 rfl) rfl ?_
   refine wl_val (v_iaa (4 * i + k) Try.underlying28 TF.t5 rfl rfl (by first | rfl | omega) (by first | omega | (dsimp only at *; omega))) rfl ?_
   have hdb : UInt8.ofNat (shr32 (v2.l.getD i 0) (24 - 8 * k)).toNat = digB v2 (4 * i + k) := by
    unfold digB
    rw [show (4 * i + k) / 4 = i by omega, show (4 * i + k) % 4 = k by omega]
   refine wl_store1 (v := u8 (UInt8.ofNat (shr32 (v2.l.getD i 0) (24 - 8 * k)).toNat)) 0 st rfl TF.t5 rfl rfl rfl (by simp [bs]; omega) ?_
   intro w st
   refine wl_nil ?_
   refine block_go (then_go ?_)
   refine wc_region ?_
   refine wl_val (v_add' rfl rfl rfl (by first | omega | (dsimp only at *; omega)) (by first | omega | (dsimp only at *; omega))) rfl ?_
   refine wl_val (v_move' (by conv => (lhs; whnf))) rfl ?_
   refine wl_nil ?_
   refine then_go ?_
   refine ⟨q2 - 1, by simp; omega, k + 1, by omega, rfl, rfl, rfl, rfl, rfl, rfl, rfl, ?_⟩
   have e : (bs ((List.range (4 * i + k)).map (digB v2)) ++ List.replicate (32 - (4 * i + k)) (u8 0)).toArray.setIfInBounds (0 + (4 * i + k) * 1) (u8 (digB v2 (4 * i + k))) = (bs ((List.range (4 * i + (k + 1))).map (digB v2)) ++ List.replicate (32 - (4 * i + (k + 1))) (u8 0)).toArray := by
    rw [show 32 - (4 * i + k) = (32 - (4 * i + (k + 1))) + 1 by omega, List.replicate_succ, set_app (by simp [bs]), show 4 * i + (k + 1) = (4 * i + k) + 1 by omega, List.range_succ]
    simp [bs]
   rw [hdb] at st
   rw [← e]
   exact st
  ·refine wc_exit (then_exit (then_exit (block_hit ?_)))
   refine block_go (then_go ?_)
   refine wc_region ?_
   refine wl_val (v_add' rfl rfl rfl (by first | omega | (dsimp only at *; omega)) (by first | omega | (dsimp only at *; omega))) rfl ?_
   refine wl_val (v_move' (by conv => (lhs; whnf))) rfl ?_
   refine wl_nil ?_
   refine then_go ?_
   have hk4 : k = 4 := by omega
   subst hk4
   refine ⟨q - 1, by simp; omega, i + 1, by omega, rfl, rfl, rfl, rfl, ?_⟩
   rw [show 4 * (i + 1) = 4 * i + 4 by omega]
   exact st
 ·refine wc_exit (then_exit (then_exit (block_hit ?_)))
  refine then_go ?_
  refine wc_seq ?_
  have hi8 : i = 8 := by omega
  subst hi8
  have e : (bs ((List.range (4 * 8)).map (digB v2)) ++ List.replicate (32 - 4 * 8) (u8 0)).toArray = (bs (sum L)).toArray := by rw [hsum]; simp [dig]
  rw [e] at st
  refine wc_region ?_
  refine wl_val (v_load rfl (st.reads 0 rfl TF.t28 (getV_all (by simp [bs, length_sum])))) rfl ?_
  refine wl_storeW (cs := (bs (sum L)).toArray) 2 st rfl TF.t28 rfl rfl (by simp [bs, length_sum]) rfl (by simpa using one_bs _) ?_
  intro w st
  refine wl_nil ?_
  refine then_go ?_
  refine wc_ret ?_
  exact ret1c rfl (st.reads 2 rfl TF.t28 (getV_all (by simp [bs, length_sum]))) ⟨(st.keepOnly (l := []) (List.nil_sublist _)).touch, rfl⟩
theorem c_sum {bv : Value} {b : List UInt8} (him : Im m wI) (hb : SlM m bv 1 b.length (bs b)) (hl : b.length ≤ 1099511627776) :
  Ret Try.prog 62 #[bv] wI fun v w' => Tch wI w' [] [] ∧ v = arr (sum b) := by
 have st := St.start him
 refine ret_of Try.call62 Try.func62 rfl Try.ntmps62 Try.results62 rfl ?_
 refine wc_seq ?_
 refine wc_region ?_
 refine wl_alloc TF.z28 st rfl ?_
 intro b2 w st
 refine wl_nil ?_
 refine then_go ?_
 refine wc_seq ?_
 refine wc_region ?_
 refine wl_call rfl (c_hnew st.im) rfl ?_
 rintro v4 w ⟨b3, c3, rfl, t, hE, hH⟩
 have st := st.new (E := K.blk b3 c3 _) t hE
 refine wl_val (v_assign' (by conv => (lhs; whnf))) rfl ?_
 refine wl_nil ?_
 refine then_go ?_
 refine wc_seq ?_
 refine wc_region ?_
 refine wl_val (v_move' (by conv => (lhs; whnf))) rfl ?_
 refine wl_val (v_move' (by conv => (lhs; whnf))) rfl ?_
 refine wl_call rfl (c_hwrite st.im (st.at (i := 0) rfl) (st.none (i := 0) rfl b3 (by simp [K.blk])) hH hb (by simp; omega)) rfl ?_
 rintro v7 w ⟨c4, t, hE4, hH4⟩
 have st := st.step 0 rfl t hE4
 rw [List.nil_append] at hH4
 change St _ _ _ _ _ [K.blk b3 c4 _, _] at st
 refine wl_nil ?_
 refine then_go ?_
 refine wc_seq ?_
 refine wc_region ?_
 refine wl_val (v_move' (by conv => (lhs; whnf))) rfl ?_
 obtain ⟨ml, himl, _, hbl, _⟩ := st.lend (i := 0) rfl
 refine wl_call rfl (c_hdigest himl hbl hH4 hl) rfl ?_
 rintro v9 w ⟨t, rfl⟩
 have st := st.pure t
 refine wl_storeW (cs := (bs (sum b)).toArray) 1 st rfl TF.t28 rfl rfl (by simp [bs, length_sum]) rfl (by simpa using one_bs _) ?_
 intro w st
 refine wl_nil ?_
 refine then_go ?_
 refine wc_ret ?_
 exact ret1c rfl (st.reads 1 rfl TF.t28 (getV_all (by simp [bs, length_sum]))) ⟨(st.keepOnly (l := []) (List.nil_sublist _)).touch, rfl⟩
end
end Go.Proofs.Ytonlmjpenonabaa

namespace Go.Proofs.Ytonlmjpenonabaa
open Go Go.RowKit K SH
theorem K.SlM.narrow {m : Mem} {a : Option Addr} {k cap size : Nat} {xs : List Value} (h : SlM m (.slice a k cap) size k xs) : SlM m (.slice a k k) size k xs := by
 obtain ⟨h1, a', c', he, h3, h4, h5⟩ := h
 cases he
 exact ⟨h1, a, k, rfl, Nat.le_refl _, fun e => by have := h4 e; omega, h5⟩
def PcsM (m : Mem) (v : Value) (L : List (List UInt8 × Value)) : Prop := SlM m v 1 L.length (L.map (·.2)) ∧ ∀ x ∈ L, SlM m x.2 1 x.1.length (bs x.1)
theorem PcsM.mono {m m' : Mem} {v : Value} {L : List (List UInt8 × Value)} (h : PcsM m v L) (hm : ∀ k o, m k = some o → m' k = some o) : PcsM m' v L := ⟨h.1.mono hm, fun x hx => (h.2 x hx).mono hm⟩
def joinB (L : List (List UInt8 × Value)) : List UInt8 := L.flatMap (·.1)
theorem PcsM.elem {m : Mem} {v : Value} {L : List (List UInt8 × Value)} (h : PcsM m v L) {i : Nat} (hi : i < L.length) :
  ∃ b o cap, v = .slice (some ⟨b, o, none⟩) L.length cap ∧ SlM m L[i].2 1 L[i].1.length (bs L[i].1) ∧ ∀ {w : World} (_ : Im m w), Reads Try.prog w 37 ⟨b, o + i * 1, none⟩ L[i].2 := by
 obtain ⟨b, o, cap, hv, _, hr⟩ := h.1.elem Try.prog (i := i) hi (by omega)
 refine ⟨b, o, cap, hv, h.2 _ (List.getElem_mem _), fun {w} him => ?_⟩
 have := hr him (off := 0) (v' := L[i].2) TF.t37 (by
  have e : cellsAt (L.map (·.2)) 1 i = [L[i].2] := by simp [cellsAt, List.drop_eq_getElem_cons, hi]
  rw [e]
  rfl)
 simpa using this
theorem joinB_take {L : List (List UInt8 × Value)} {i : Nat} (hi : i < L.length) : joinB (L.take (i + 1)) = joinB (L.take i) ++ L[i].1 := by
 unfold joinB
 rw [List.take_succ_eq_append_getElem hi, List.flatMap_append]
 simp only [List.flatMap_cons, List.flatMap_nil, List.append_nil]
theorem joinB_le {L : List (List UInt8 × Value)} (i : Nat) : (joinB (L.take i)).length ≤ (joinB L).length := by
 have e : joinB L = joinB (L.take i) ++ joinB (L.drop i) := by
  unfold joinB
  rw [← List.flatMap_append, List.take_append_drop]
 rw [e, List.length_append]
 omega
section
variable {m : Mem} {wI : World}
theorem c_begin {c : UInt8} {pv : Value} {L : List (List UInt8 × Value)} (him : Im m wI) (hp : PcsM m pv L) (hb : (joinB L).length ≤ 1099511627776) (hLl : L.length ≤ 1099511627776) :
  Ret Try.prog 78 #[u8 c, pv] wI fun v w' => Out m wI w' fun m' => SlM m' v 1 (c :: joinB L).length (bs (c :: joinB L)) := by
 have st := St.start him
 have hp0 := hp
 obtain ⟨⟨_, pa, pc, rfl, _⟩, _⟩ := hp
 refine ret_of Try.call78 Try.func78 rfl Try.ntmps78 Try.results78 rfl ?_
 refine wc_seq ?_
 refine wc_region ?_
 refine wl_val (v_assign' (by conv => (lhs; whnf))) rfl ?_
 refine wl_nil ?_
 refine then_go ?_
 refine wc_seq ?_
 refine wc_region ?_
 refine wl_val (v_move' (by conv => (lhs; whnf))) rfl ?_
 refine wl_byte1 c Try.underlying37 TF.t5 TF.z5 rfl st rfl ?_
 intro b9 w st
 refine wl_val (v_assign' (by conv => (lhs; whnf))) rfl ?_
 refine wl_nil ?_
 obtain ⟨m1, hg1, hm1, st⟩ := st.freeze (i := 0) rfl (by simp)
 change St _ _ _ _ _ [] at st
 have hs1 : SlM m1 (.slice (some ⟨b9, 0, none⟩) 1 1) 1 (c :: joinB (L.take 0)).length (bs (c :: joinB (L.take 0))) := SlM.ofBlock (pre := []) (post := []) hm1 (by simp [joinB]) rfl (Nat.le_refl _)
 refine then_go ?_
 refine wc_seq ?_
 refine wc_seq ?_
 refine wc_region ?_
 refine wl_val (v_move' (by conv => (lhs; whnf))) rfl ?_
 refine wl_val (v_len_s Try.underlying29 rfl) rfl ?_
 refine wl_val (v_move' (by conv => (lhs; whnf))) rfl ?_
 refine wl_nil ?_
 refine then_go ?_
 refine wc_block ?_
 refine wc_loop (S := Nat) (fun q r w' => ∃ i m' v, q + i = L.length ∧ r 5 = v ∧ r 10 = .slice pa L.length pc ∧ r 11 = .int .i64 L.length ∧ r 12 = .int .i64 i ∧ (∀ k o, m k = some o → m' k = some o) ∧ SlM m' v 1 (c :: joinB (L.take i)).length (bs (c :: joinB (L.take i))) ∧ St m m' [] wI w' []) id L.length ⟨0, m1, _, by omega, rfl, rfl, rfl, rfl, hg1.le, hs1, st⟩ ?_
 clear hs1 st
 rintro q r w2 ⟨i, m', v, hqi, h5, h10, h11, h12, hmm, hs, st⟩
 have hs0 := hs
 obtain ⟨_, sa, sc, rfl, hsk, _⟩ := hs
 refine wc_o 5 h5 (wc_o 10 h10 (wc_o 11 h11 (wc_o 12 h12 ?_)))
 refine wc_seq ?_
 refine wc_region ?_
 refine wl_val (v_lss rfl rfl) rfl ?_
 refine wl_nil ?_
 refine then_go ?_
 refine wc_seq ?_
 refine wc_if rfl (fun h13 => ?_) (fun h13 => ?_)
 ·refine wc_skip ?_
  refine then_go ?_
  refine wc_seq ?_
  refine wc_block ?_
  refine wc_seq ?_
  have hi : i < L.length := by omega
  have hjl := joinB_le (L := L) i
  have hjl2 := joinB_le (L := L) (i + 1)
  obtain ⟨lb, lo, lcap, hlv, hel, hrd⟩ := (hp0.mono hmm).elem hi
  simp only [Value.slice.injEq] at hlv
  obtain ⟨hpa, _, _⟩ := hlv
  rw [hpa]
  rw [joinB_take hi, List.length_append] at hjl2
  refine wc_region ?_
  refine wl_val (v_ias i Try.underlying29 TF.t37 rfl rfl (by first | rfl | omega) (by first | omega | (dsimp only at *; omega))) rfl ?_
  refine wl_val (v_load rfl (hrd st.im)) rfl ?_
  refine wl_val (v_assign' (by conv => (lhs; whnf))) rfl ?_
  refine wl_nil ?_
  refine then_go ?_
  refine wc_region ?_
  refine wl_val (v_move' (by conv => (lhs; whnf))) rfl ?_
  refine wl_val (v_move' (by conv => (lhs; whnf))) rfl ?_
  refine wl_val (v_len_s Try.underlying37 rfl) rfl ?_
  refine wl_val (v_move' (by conv => (lhs; whnf))) rfl ?_
  refine wl_val (v_len_s Try.underlying37 rfl) rfl ?_
  refine wl_val (v_slice_full (h := (c :: joinB (L.take i)).length) Try.underlying37 TF.t5 rfl rfl rfl hsk) rfl ?_
  refine wl_val (v_move' (by conv => (lhs; whnf))) rfl ?_
  refine wl_appFull (l2 := L[i].1) st hs0.narrow Try.underlying37 TF.t5 TF.z5 rfl rfl (hel.src st.im (one_bs _)) (by rw [List.length_cons]; omega) (by rw [List.length_cons]; omega) rfl ?_
  intro m2 v23 w hle2 st hs2
  refine wl_val (v_assign' (by conv => (lhs; whnf))) rfl ?_
  refine wl_nil ?_
  refine block_go (then_go ?_)
  refine wc_region ?_
  refine wl_val (v_add' rfl rfl rfl (by first | omega | (dsimp only at *; omega)) (by first | omega | (dsimp only at *; omega))) rfl ?_
  refine wl_val (v_move' (by conv => (lhs; whnf))) rfl ?_
  refine wl_nil ?_
  refine then_go ?_
  refine ⟨q - 1, by simp; omega, i + 1, m2, v23, by omega, rfl, rfl, rfl, rfl, fun k o h => hle2 k o (hmm k o h), ?_, st⟩
  rw [joinB_take hi]
  exact hs2
 ·refine wc_exit (then_exit (then_exit (block_hit ?_)))
  refine then_go ?_
  refine wc_seq ?_
  refine wc_region ?_
  refine wl_val (v_move' (by conv => (lhs; whnf))) rfl ?_
  refine wl_val (v_assign' (by conv => (lhs; whnf))) rfl ?_
  refine wl_nil ?_
  refine then_go ?_
  refine wc_ret ?_
  have hiL : i = L.length := by omega
  subst hiL
  rw [List.take_length] at hs0
  exact ret1 rfl (st.out (by rw [List.take_length]; exact hs0))
end
end Go.Proofs.Ytonlmjpenonabaa

namespace Go.Proofs.Ytonlmjpenonabaa
open Go Go.RowKit K SH
section
variable {P : Program} {n : Nat} {ops : Array Oper} {Q : Po} {rest : List Oper} {r : Fr} {w : World} {d : Nat} {ty : TypeId} {pos : String} {after : Array Edge} {m0 m : Mem} {F : List Nat} {w0 : World} {Es : List Ent}
theorem wl_pcs2 {x y : Operand} {v1 v2 : Value} {l1 l2 : List UInt8} (st : St m0 m [] w0 w Es) (hx : ev r x = v1) (hy : ev r y = v2) (h1 : SlM m v1 1 l1.length (bs l1)) (h2 : SlM m v2 1 l2.length (bs l2)) (hd : Nat.blt d n = true)
  (kk : ∀ m' v' w', (∀ k o, m k = some o → m' k = some o) → St m0 m' [] w0 w' Es → PcsM m' v' [(l1, v1), (l2, v2)] → WL Try.prog n ops Q rest (upd d v' r) w') :
  WL Try.prog n ops Q (⟨some d, .buildSlice 29 2 #[(0, x), (1, y)], ty, pos, after, none⟩ :: rest) r w := by
 have o1 : v1.oneCell' = true := by obtain ⟨_, a, c, rfl, _⟩ := h1; rfl
 have o2 : v2.oneCell' = true := by obtain ⟨_, a, c, rfl, _⟩ := h2; rfl
 refine wl_buildSlice (c' := #[v1, v2]) [(0, v1), (1, v2)] Try.underlying29 TF.t37 TF.z37 (by decide) (by decide) (by simp [hx, hy]) (fill_one [] [.slice none 0 0] [.slice none 0 0] (by rw [show (Value.slice none 0 0).cells = Array.replicate (0 + 1) (Value.slice none 0 0) from rfl, madeCells_rep]; rfl) rfl (by rw [cells_one o1]; rfl) ?_) st hd ?_
 ·rw [cells_one o1]
  refine fill_one [v1] [.slice none 0 0] [] rfl rfl (by rw [cells_one o2]; rfl) ?_
  rw [cells_one o2]
  rfl
 ·intro b w' st'
  obtain ⟨m1, hg1, hm1, st1⟩ := st'.freeze (i := 0) rfl (by simp)
  refine kk m1 _ w' hg1.le st1 ⟨SlM.of hm1 (by simp) (Nat.le_refl _) (fun j u hj => by simpa using hj), ?_⟩
  intro z hz
  simp only [List.mem_cons, List.not_mem_nil, or_false] at hz
  rcases hz with rfl | rfl
  ·exact h1.mono hg1.le
  ·exact h2.mono hg1.le
end
section
variable {m : Mem} {wI : World}
theorem c_join {pv : Value} {L : List (List UInt8 × Value)} (him : Im m wI) (hp : PcsM m pv L) (hb : (joinB L).length ≤ 1099511627776) (hLl : L.length ≤ 1099511627776) :
  Ret Try.prog 59 #[pv] wI fun v w' => Out m wI w' fun m' => SlM m' v 1 (joinB L).length (bs (joinB L)) := by
 have st := St.start him
 have hp0 := hp
 obtain ⟨⟨_, pa, pc, rfl, _⟩, _⟩ := hp
 refine ret_of Try.call59 Try.func59 rfl Try.ntmps59 Try.results59 rfl ?_
 refine wc_seq ?_
 refine wc_region ?_
 refine wl_val (v_assign' (by conv => (lhs; whnf))) rfl ?_
 refine wl_nil ?_
 refine then_go ?_
 refine wc_seq ?_
 refine wc_region ?_
 refine wl_val (v_assign' (by conv => (lhs; whnf))) rfl ?_
 refine wl_nil ?_
 refine then_go ?_
 refine wc_seq ?_
 refine wc_seq ?_
 refine wc_region ?_
 refine wl_val (v_assign' (by conv => (lhs; whnf))) rfl ?_
 refine wl_nil ?_
 refine then_go ?_
 refine wc_block ?_
 have st := nilRow st 5 1
 change St _ _ _ _ _ [rowE _ _ 1 (joinB (L.take 0)).length (bs (joinB (L.take 0)))] at st
 refine wc_loop (S := Nat) (fun q r w' => ∃ i v, q + i = L.length ∧ r 0 = .slice pa L.length pc ∧ r 3 = v ∧ r 4 = .int .i64 i ∧ St m m [] wI w' [rowE v 5 1 (joinB (L.take i)).length (bs (joinB (L.take i)))]) id L.length ⟨0, _, by omega, rfl, rfl, rfl, st⟩ ?_
 rintro q r w2 ⟨i, v, hqi, h0, h3, h4, st⟩
 refine wc_o 0 h0 (wc_o 3 h3 (wc_o 4 h4 ?_))
 refine wc_seq ?_
 refine wc_seq ?_
 refine wc_region ?_
 refine wl_val (v_move' (by conv => (lhs; whnf))) rfl ?_
 refine wl_val (v_move' (by conv => (lhs; whnf))) rfl ?_
 refine wl_val (v_len_s Try.underlying29 rfl) rfl ?_
 refine wl_val (v_lss rfl rfl) rfl ?_
 refine wl_nil ?_
 refine then_go ?_
 refine wc_if rfl (fun h8 => ?_) (fun h8 => ?_)
 ·refine wc_skip ?_
  refine then_go ?_
  refine wc_seq ?_
  refine wc_block ?_
  have hi : i < L.length := by omega
  have hjl2 := joinB_le (L := L) (i + 1)
  obtain ⟨lb, lo, lcap, hlv, hel, hrd⟩ := hp0.elem hi
  simp only [Value.slice.injEq] at hlv
  obtain ⟨hpa, _, _⟩ := hlv
  rw [hpa]
  rw [joinB_take hi, List.length_append] at hjl2
  refine wc_region ?_
  refine wl_val (v_move' (by conv => (lhs; whnf))) rfl ?_
  refine wl_val (v_move' (by conv => (lhs; whnf))) rfl ?_
  refine wl_val (v_move' (by conv => (lhs; whnf))) rfl ?_
  refine wl_val (v_ias i Try.underlying29 TF.t37 rfl rfl (by first | rfl | omega) (by first | omega | (dsimp only at *; omega))) rfl ?_
  refine wl_val (v_load rfl (hrd st.im)) rfl ?_
  refine wl_appB (l2 := L[i].1) st Try.underlying37 Try.underlying37 (.inr ⟨_, rfl⟩) TF.t5 TF.z5 rfl rfl (hel.src st.im (one_bs _)) (by omega) (by omega) rfl ?_
  intro v16 w st hv16
  refine wl_val (v_assign' (by conv => (lhs; whnf))) rfl ?_
  refine wl_nil ?_
  refine block_go (then_go ?_)
  refine wc_region ?_
  refine wl_val (v_move' (by conv => (lhs; whnf))) rfl ?_
  refine wl_val (v_add' rfl rfl rfl (by first | omega | (dsimp only at *; omega)) (by first | omega | (dsimp only at *; omega))) rfl ?_
  refine wl_val (v_assign' (by conv => (lhs; whnf))) rfl ?_
  refine wl_nil ?_
  refine then_go ?_
  refine ⟨q - 1, by simp; omega, i + 1, v16, by omega, rfl, rfl, rfl, ?_⟩
  rw [joinB_take hi]
  exact st
 ·refine wc_exit (then_exit (then_exit (block_hit ?_)))
  refine then_go ?_
  refine wc_seq ?_
  refine wc_region ?_
  refine wl_val (v_move' (by conv => (lhs; whnf))) rfl ?_
  refine wl_val (v_assign' (by conv => (lhs; whnf))) rfl ?_
  refine wl_nil ?_
  refine then_go ?_
  refine wc_ret ?_
  have hiL : i = L.length := by omega
  subst hiL
  rw [List.take_length] at st
  exact ret1 rfl st.bytesOut
theorem c_leafb {x y : List UInt8} (him : Im m wI) (hx : x.length = 32) (hy : y.length = 32) :
  Ret Try.prog 68 #[arr x, arr y] wI fun v w' => Out m wI w' fun m' => SlM m' v 1 (76 :: (x ++ y)).length (bs (76 :: (x ++ y))) := by
 have st := St.start him
 refine ret_of Try.call68 Try.func68 rfl Try.ntmps68 Try.results68 rfl ?_
 refine wc_seq ?_
 refine wc_region ?_
 refine wl_box (v := arr x) rfl st rfl ?_
 intro b2 w st
 refine wl_box (v := arr y) rfl st rfl ?_
 intro b3 w st
 refine wl_val (v_assign' (by conv => (lhs; whnf))) rfl ?_
 refine wl_nil ?_
 obtain ⟨m1, hg1, hm1, st⟩ := st.freeze (i := 0) rfl (by simp)
 change St _ _ _ _ _ [_] at st
 obtain ⟨m2, hg2, hm2, st⟩ := st.freeze (i := 0) rfl (by simp)
 change St _ _ _ _ _ [] at st
 have hsx : SlM m2 (.slice (some ⟨b2, 0 + 0 * 1, none⟩) (32 - 0) (32 - 0)) 1 x.length (bs x) := by
  have := SlM.ofBlock (o := 0) (cap := 32) (l := x) (pre := []) (post := []) hm2 (by simp [arr, Value.cells]) rfl (by omega)
  rw [hx] at this ⊢
  exact this
 have hsy : SlM m2 (.slice (some ⟨b3, 0 + 0 * 1, none⟩) (32 - 0) (32 - 0)) 1 y.length (bs y) := by
  have := SlM.ofBlock (o := 0) (cap := 32) (l := y) (pre := []) (post := []) (hg2.le _ _ hm1) (by simp [arr, Value.cells]) rfl (by omega)
  rw [hy] at this ⊢
  exact this
 refine then_go ?_
 refine wc_seq ?_
 refine wc_draw TF.mixed ?_
 have st := st.pure (touch_drew _)
 refine fl_val 0 rfl (fun _ => (v_sla 0 32 Try.underlying28 TF.t5 rfl rfl rfl (by omega) (by omega) (by omega))) rfl (by kernel_rfl) ?_
 refine fl_val 1 rfl (fun _ => (v_sla 0 32 Try.underlying28 TF.t5 rfl rfl rfl (by omega) (by omega) (by omega))) rfl (by kernel_rfl) ?_
 refine fl_eff1 2 [] [] (by kernel_rfl) trivial rfl ?_
 refine wl_pcs2 st rfl rfl hsx hsy rfl ?_
 intro m3 v7 w hle3 st hp3
 refine wl_nil ⟨rfl, ?_⟩
 refine fl_eff1 3 [] [] (by kernel_rfl) trivial rfl ?_
 have hj : ∀ a b, joinB [(x, a), (y, b)] = x ++ y := fun a b => by simp [joinB]
 refine wl_call rfl (c_begin (c := 76) st.im hp3 (by rw [hj, List.length_append]; omega) (by simp)) rfl ?_
 rintro v8 w ⟨t, m4, hg4, hi4, hs4⟩
 have st := st.grown hg4 t hi4
 rw [hj] at hs4
 refine wl_nil ⟨rfl, ?_⟩
 refine fl_eff1 4 [] [] (by kernel_rfl) trivial rfl ?_
 refine wl_val (v_assign' (by conv => (lhs; whnf))) rfl ?_
 refine wl_nil ⟨rfl, ?_⟩
 refine fl_nil (by kernel_rfl) trivial ?_
 refine then_go ?_
 refine wc_ret ?_
 exact ret1 rfl (st.out hs4)
theorem c_nodeb {x y : List UInt8} (him : Im m wI) (hx : x.length = 32) (hy : y.length = 32) :
  Ret Try.prog 87 #[arr x, arr y] wI fun v w' => Out m wI w' fun m' => SlM m' v 1 (78 :: (x ++ y)).length (bs (78 :: (x ++ y))) := by
 have st := St.start him
 refine ret_of Try.call87 Try.func87 rfl Try.ntmps87 Try.results87 rfl ?_
 refine wc_seq ?_
 refine wc_region ?_
 refine wl_box (v := arr x) rfl st rfl ?_
 intro b2 w st
 refine wl_box (v := arr y) rfl st rfl ?_
 intro b3 w st
 refine wl_val (v_assign' (by conv => (lhs; whnf))) rfl ?_
 refine wl_nil ?_
 obtain ⟨m1, hg1, hm1, st⟩ := st.freeze (i := 0) rfl (by simp)
 change St _ _ _ _ _ [_] at st
 obtain ⟨m2, hg2, hm2, st⟩ := st.freeze (i := 0) rfl (by simp)
 change St _ _ _ _ _ [] at st
 have hsx : SlM m2 (.slice (some ⟨b2, 0 + 0 * 1, none⟩) (32 - 0) (32 - 0)) 1 x.length (bs x) := by
  have := SlM.ofBlock (o := 0) (cap := 32) (l := x) (pre := []) (post := []) hm2 (by simp [arr, Value.cells]) rfl (by omega)
  rw [hx] at this ⊢
  exact this
 have hsy : SlM m2 (.slice (some ⟨b3, 0 + 0 * 1, none⟩) (32 - 0) (32 - 0)) 1 y.length (bs y) := by
  have := SlM.ofBlock (o := 0) (cap := 32) (l := y) (pre := []) (post := []) (hg2.le _ _ hm1) (by simp [arr, Value.cells]) rfl (by omega)
  rw [hy] at this ⊢
  exact this
 refine then_go ?_
 refine wc_seq ?_
 refine wc_draw TF.mixed ?_
 have st := st.pure (touch_drew _)
 refine fl_val 0 rfl (fun _ => (v_sla 0 32 Try.underlying28 TF.t5 rfl rfl rfl (by omega) (by omega) (by omega))) rfl (by kernel_rfl) ?_
 refine fl_val 1 rfl (fun _ => (v_sla 0 32 Try.underlying28 TF.t5 rfl rfl rfl (by omega) (by omega) (by omega))) rfl (by kernel_rfl) ?_
 refine fl_eff1 2 [] [] (by kernel_rfl) trivial rfl ?_
 refine wl_pcs2 st rfl rfl hsx hsy rfl ?_
 intro m3 v7 w hle3 st hp3
 refine wl_nil ⟨rfl, ?_⟩
 refine fl_eff1 3 [] [] (by kernel_rfl) trivial rfl ?_
 have hj : ∀ a b, joinB [(x, a), (y, b)] = x ++ y := fun a b => by simp [joinB]
 refine wl_call rfl (c_begin (c := 78) st.im hp3 (by rw [hj, List.length_append]; omega) (by simp)) rfl ?_
 rintro v8 w ⟨t, m4, hg4, hi4, hs4⟩
 have st := st.grown hg4 t hi4
 rw [hj] at hs4
 refine wl_nil ⟨rfl, ?_⟩
 refine fl_eff1 4 [] [] (by kernel_rfl) trivial rfl ?_
 refine wl_val (v_assign' (by conv => (lhs; whnf))) rfl ?_
 refine wl_nil ⟨rfl, ?_⟩
 refine fl_nil (by kernel_rfl) trivial ?_
 refine then_go ?_
 refine wc_ret ?_
 exact ret1 rfl (st.out hs4)
theorem c_emptyb (him : Im m wI) : Ret Try.prog 53 #[] wI fun v w' => Out m wI w' fun m' => SlM m' v 1 [(69 : UInt8)].length (bs [69]) := by
 have st := St.start him
 refine ret_of Try.call53 Try.func53 rfl Try.ntmps53 Try.results53 rfl ?_
 refine wc_seq ?_
 refine wc_region ?_
 refine wl_val (v_assign' (by conv => (lhs; whnf))) rfl ?_
 refine wl_nil ?_
 refine then_go ?_
 refine wc_seq ?_
 refine wc_region ?_
 refine wl_call rfl (c_begin (c := 69) (L := []) st.im ⟨SlM.nil, by simp⟩ (by simp [joinB]) (by simp)) rfl ?_
 rintro v1 w ⟨t, m2, hg2, hi2, hs2⟩
 have st := st.grown hg2 t hi2
 refine wl_val (v_assign' (by conv => (lhs; whnf))) rfl ?_
 refine wl_nil ?_
 refine then_go ?_
 refine wc_ret ?_
 exact ret1 rfl (st.out hs2)
theorem c_tagsof {bv : Value} {b : List UInt8} (him : Im m wI) (hb : SlM m bv 1 b.length (bs b)) (hl : b.length ≤ 1099511627776) :
  Ret Try.prog 38 #[bv] wI fun v w' => Tch wI w' [] [] ∧ v = arr (sum b) := by
 have st := St.start him
 refine ret_of Try.call38 Try.func38 rfl Try.ntmps38 Try.results38 rfl ?_
 refine wc_seq ?_
 refine wc_region ?_
 refine wl_alloc TF.z28 st rfl ?_
 intro b2 w st
 refine wl_nil ?_
 refine then_go ?_
 refine wc_seq ?_
 refine wc_region ?_
 refine wl_val (v_move' (by conv => (lhs; whnf))) rfl ?_
 refine wl_call rfl (c_sum st.im hb hl) rfl ?_
 rintro v4 w ⟨t, rfl⟩
 have st := st.pure t
 refine wl_storeW (cs := (bs (sum b)).toArray) 0 st rfl TF.t28 rfl rfl (by simp [bs, length_sum]) rfl (by simpa using one_bs _) ?_
 intro w st
 refine wl_nil ?_
 refine then_go ?_
 refine wc_ret ?_
 exact ret1c rfl (st.reads 0 rfl TF.t28 (getV_all (by simp [bs, length_sum]))) ⟨(st.keepOnly (l := []) (List.nil_sublist _)).touch, rfl⟩
theorem c_ref3of {bv : Value} {b : List UInt8} (him : Im m wI) (hb : SlM m bv 1 b.length (bs b)) (hl : b.length ≤ 1099511627776) :
  Ret Try.prog 28 #[bv] wI fun v w' => Tch wI w' [] [] ∧ v = arr (sum b) := by
 have st := St.start him
 refine ret_of Try.call28 Try.func28 rfl Try.ntmps28 Try.results28 rfl ?_
 refine wc_seq ?_
 refine wc_region ?_
 refine wl_alloc TF.z28 st rfl ?_
 intro b2 w st
 refine wl_nil ?_
 refine then_go ?_
 refine wc_seq ?_
 refine wc_region ?_
 refine wl_val (v_move' (by conv => (lhs; whnf))) rfl ?_
 refine wl_call rfl (c_rsum st.im hb hl) rfl ?_
 rintro v4 w ⟨t, rfl⟩
 have st := st.pure t
 refine wl_storeW (cs := (bs (sum b)).toArray) 0 st rfl TF.t28 rfl rfl (by simp [bs, length_sum]) rfl (by simpa using one_bs _) ?_
 intro w st
 refine wl_nil ?_
 refine then_go ?_
 refine wc_ret ?_
 exact ret1c rfl (st.reads 0 rfl TF.t28 (getV_all (by simp [bs, length_sum]))) ⟨(st.keepOnly (l := []) (List.nil_sublist _)).touch, rfl⟩
end
end Go.Proofs.Ytonlmjpenonabaa

namespace Go.Proofs.Ytonlmjpenonabaa
open Go Go.RowKit K
abbrev By := List UInt8
namespace PT
def bit (d : By) (i : Nat) : Bool := (d.getD (i / 8) 0).toNat.testBit (7 - i % 8)
def bitI (d : By) (i : Int) : Bool := if 0 ≤ i ∧ i < 256 then bit d i.toNat else false
end PT
open PT
section
variable {P : Program} {r : Fr} {w : World} {ty : TypeId} {T U : TypeId} {x y : Operand}
theorem v_shr128 {k : IntKind} (j : Nat) (hx : ev r x = .int .u8 128) (hy : ev r y = .int k j) (hj : j < 8) : Val P (.binOp .shr T x y U) ty r w (.int .u8 (2 ^ (7 - j) : Nat)) w := by
 have h := v_shr (P := P) (w := w) (ty := ty) (T := T) (U := U) hx hy (by omega)
 have e : (128 : Int).fdiv (2 ^ (min ((j : Int).toNat) IntKind.u8.bits)) = ((2 ^ (7 - j) : Nat) : Int) := by
  rw [Int.toNat_natCast]
  match j, hj with
  | 0, _ => rfl
  | 1, _ => rfl
  | 2, _ => rfl
  | 3, _ => rfl
  | 4, _ => rfl
  | 5, _ => rfl
  | 6, _ => rfl
  | 7, _ => rfl
 rw [e] at h
 exact h
theorem v_and8 {a : UInt8} (n : Nat) (hn : n < 256) (hx : ev r x = u8 a) (hy : ev r y = .int .u8 n) : Val P (.binOp .and T x y U) ty r w (.int .u8 (a.toNat &&& n : Nat)) w := by
 have h := v_and (P := P) (w := w) (ty := ty) (T := T) (U := U) hx hy
 have ha := a.toNat_lt
 have e : IntKind.u8.wrap ((BitVec.ofInt IntKind.u8.bits (a.toNat : Int) &&& BitVec.ofInt IntKind.u8.bits (n : Int)).toNat) = ((a.toNat &&& n : Nat) : Int) := by
  rw [show IntKind.u8.bits = 8 from rfl, BitVec.ofInt_natCast, BitVec.ofInt_natCast, BitVec.toNat_and, BitVec.toNat_ofNat, BitVec.toNat_ofNat, Nat.mod_eq_of_lt (by omega), Nat.mod_eq_of_lt (by omega), wrap_u8, UInt8.toNat_ofNat', Nat.mod_eq_of_lt]
  exact Nat.lt_of_le_of_lt Nat.and_le_right hn
 rw [e] at h
 exact h
theorem and_bit (a j : Nat) : decide (¬ ((a &&& 2 ^ j : Nat) : Int) = 0) = a.testBit j := by
 cases h : a.testBit j with
 | false =>
  have e : a &&& 2 ^ j = 0 := by
   apply Nat.eq_of_testBit_eq
   intro i
   rw [Nat.testBit_and, Nat.testBit_two_pow, Nat.zero_testBit]
   by_cases hij : j = i
   ·subst hij; simp [h]
   ·simp [hij]
  simp [e]
 | true =>
  have e : a &&& 2 ^ j ≠ 0 := fun e => by
   have h2 : (a &&& 2 ^ j).testBit j = true := by rw [Nat.testBit_and, Nat.testBit_two_pow]; simp [h]
   rw [e, Nat.zero_testBit] at h2
   cases h2
  simp only [decide_eq_true_eq]
  omega
theorem getV_bsd {l : By} {o j : Nat} (ho : o = j) (hj : j < l.length) : getV false 1 (bs l).toArray o = some (u8 (l.getD j 0)) := by
 subst ho
 unfold getV
 simp [bs, List.getD, hj]
end
section
variable {m : Mem} {wI : World}
theorem c_bit {d : By} {i : Int} (him : Im m wI) (hd : d.length = 32) : Ret Try.prog 66 #[arr d, .int .i64 i] wI fun v w' => Tch wI w' [] [] ∧ v = .bool (bitI d i) := by
 have st := St.start him
 refine ret_of Try.call66 Try.func66 rfl Try.ntmps66 Try.results66 rfl ?_
 refine wc_seq ?_
 refine wc_region ?_
 refine wl_box (v := arr d) rfl st rfl ?_
 intro b2 w st
 refine wl_val (v_assign' (by conv => (lhs; whnf))) rfl ?_
 refine wl_nil ?_
 refine then_go ?_
 refine wc_seq ?_
 by_cases h0 : 0 ≤ i
 ·obtain ⟨k, rfl⟩ := Int.eq_ofNat_of_zero_le h0
  by_cases h1 : k < 256
  ·refine wc_draw TF.mixed ?_
   have st := st.pure (touch_drew _)
   refine fl_val 0 rfl (fun _ => (v_move' (by conv => (lhs; whnf)))) rfl (by kernel_rfl) ?_
   refine fl_val 1 rfl (fun _ => (v_geq rfl rfl)) rfl (by kernel_rfl) ?_
   rw [show decide ((0 : Int) ≤ (k : Int)) = true from decide_eq_true h0]
   refine fl_val 2 rfl (fun _ => (v_move' (by conv => (lhs; whnf)))) rfl (by kernel_rfl) ?_
   refine fl_on 3 rfl rfl rfl rfl (fun _ => (v_move' (by conv => (lhs; whnf)))) rfl (by kernel_rfl) ?_
   refine fl_on 4 rfl rfl rfl rfl (fun _ => (v_lss rfl rfl)) rfl (by kernel_rfl) ?_
   rw [show decide ((k : Int) < 256) = true from decide_eq_true (by omega)]
   refine fl_val 5 rfl (fun _ => (v_pick rfl)) rfl (by kernel_rfl) ?_
   refine fl_val 6 rfl (fun _ => (v_move' (by conv => (lhs; whnf)))) rfl (by kernel_rfl) ?_
   refine fl_on 7 rfl rfl rfl rfl (fun _ => (v_move' (by conv => (lhs; whnf)))) rfl (by kernel_rfl) ?_
   refine fl_on 8 rfl rfl rfl rfl (fun _ => (v_quo' (c := ((k / 8 : Nat) : Int)) rfl rfl (by omega) (by omega) (by omega) (by omega))) rfl (by kernel_rfl) ?_
   refine fl_on 9 rfl rfl rfl rfl (fun _ => (v_iaa (k / 8) Try.underlying28 TF.t5 rfl rfl (by first | rfl | omega) (by first | omega | (dsimp only at *; omega)))) rfl (by kernel_rfl) ?_
   refine fl_ond 10 rfl rfl rfl rfl (v_load rfl (st.reads (v := u8 (d.getD (k / 8) 0)) 0 rfl TF.t5 (getV_bsd (j := k / 8) (by omega) (by omega)))) rfl (by kernel_rfl) ?_
   refine fl_on 11 rfl rfl rfl rfl (fun _ => (v_move' (by conv => (lhs; whnf)))) rfl (by kernel_rfl) ?_
   refine fl_on 12 rfl rfl rfl rfl (fun _ => (v_rem' (c := ((k % 8 : Nat) : Int)) rfl rfl (by omega) (by omega) (by omega))) rfl (by kernel_rfl) ?_
   refine fl_on 13 rfl rfl rfl rfl (fun _ => (v_shr128 (k % 8) rfl rfl (by omega))) rfl (by kernel_rfl) ?_
   refine fl_on 14 rfl rfl rfl rfl (fun _ => (v_and8 (2 ^ (7 - k % 8)) (Nat.lt_of_le_of_lt (Nat.pow_le_pow_right (by decide) (Nat.sub_le _ _)) (by decide)) rfl rfl)) rfl (by kernel_rfl) ?_
   refine fl_on 15 rfl rfl rfl rfl (fun _ => (v_neq rfl rfl)) rfl (by kernel_rfl) ?_
   rw [and_bit]
   refine fl_val 16 rfl (fun _ => (v_pick rfl)) rfl (by kernel_rfl) ?_
   refine fl_eff1 17 [] [] (by kernel_rfl) ⟨obl_on rfl rfl rfl rfl rfl (v_load rfl (st.reads (v := u8 (d.getD (k / 8) 0)) 0 rfl TF.t5 (getV_bsd (j := k / 8) (by omega) (by omega)))), trivial⟩ rfl ?_
   refine wl_val (v_assign' (by conv => (lhs; whnf))) rfl ?_
   refine wl_nil ⟨rfl, ?_⟩
   refine fl_nil (by kernel_rfl) trivial ?_
   refine then_go ?_
   refine wc_ret ?_
   exact ret1 rfl ⟨(st.keepOnly (l := []) (List.nil_sublist _)).touch, by rw [bitI, if_pos ⟨h0, by omega⟩]; rfl⟩
  ·refine wc_draw TF.mixed ?_
   have st := st.pure (touch_drew _)
   refine fl_val 0 rfl (fun _ => (v_move' (by conv => (lhs; whnf)))) rfl (by kernel_rfl) ?_
   refine fl_val 1 rfl (fun _ => (v_geq rfl rfl)) rfl (by kernel_rfl) ?_
   rw [show decide ((0 : Int) ≤ (k : Int)) = true from decide_eq_true h0]
   refine fl_val 2 rfl (fun _ => (v_move' (by conv => (lhs; whnf)))) rfl (by kernel_rfl) ?_
   refine fl_on 3 rfl rfl rfl rfl (fun _ => (v_move' (by conv => (lhs; whnf)))) rfl (by kernel_rfl) ?_
   refine fl_on 4 rfl rfl rfl rfl (fun _ => (v_lss rfl rfl)) rfl (by kernel_rfl) ?_
   rw [show decide ((k : Int) < 256) = false from decide_eq_false (by omega)]
   refine fl_val 5 rfl (fun _ => (v_pick rfl)) rfl (by kernel_rfl) ?_
   refine fl_val 6 rfl (fun _ => (v_move' (by conv => (lhs; whnf)))) rfl (by kernel_rfl) ?_
   refine fl_off 7 rfl rfl rfl rfl rfl rfl (by kernel_rfl) ?_
   refine fl_off 8 rfl rfl rfl rfl rfl rfl (by kernel_rfl) ?_
   refine fl_off 9 rfl rfl rfl rfl rfl rfl (by kernel_rfl) ?_
   refine fl_offd 10 rfl rfl rfl rfl rfl rfl (by kernel_rfl) ?_
   refine fl_off 11 rfl rfl rfl rfl rfl rfl (by kernel_rfl) ?_
   refine fl_off 12 rfl rfl rfl rfl rfl rfl (by kernel_rfl) ?_
   refine fl_off 13 rfl rfl rfl rfl rfl rfl (by kernel_rfl) ?_
   refine fl_off 14 rfl rfl rfl rfl rfl rfl (by kernel_rfl) ?_
   refine fl_off 15 rfl rfl rfl rfl rfl rfl (by kernel_rfl) ?_
   refine fl_val 16 rfl (fun _ => (v_pick rfl)) rfl (by kernel_rfl) ?_
   refine fl_eff1 17 [] [] (by kernel_rfl) ⟨obl_off rfl rfl rfl rfl rfl rfl, trivial⟩ rfl ?_
   refine wl_val (v_assign' (by conv => (lhs; whnf))) rfl ?_
   refine wl_nil ⟨rfl, ?_⟩
   refine fl_nil (by kernel_rfl) trivial ?_
   refine then_go ?_
   refine wc_ret ?_
   exact ret1 rfl ⟨(st.keepOnly (l := []) (List.nil_sublist _)).touch, by rw [bitI, if_neg (by omega)]; rfl⟩
 ·refine wc_draw TF.mixed ?_
  have st := st.pure (touch_drew _)
  refine fl_val 0 rfl (fun _ => (v_move' (by conv => (lhs; whnf)))) rfl (by kernel_rfl) ?_
  refine fl_val 1 rfl (fun _ => (v_geq rfl rfl)) rfl (by kernel_rfl) ?_
  rw [show decide ((0 : Int) ≤ i) = false from decide_eq_false h0]
  refine fl_val 2 rfl (fun _ => (v_move' (by conv => (lhs; whnf)))) rfl (by kernel_rfl) ?_
  refine fl_off 3 rfl rfl rfl rfl rfl rfl (by kernel_rfl) ?_
  refine fl_off 4 rfl rfl rfl rfl rfl rfl (by kernel_rfl) ?_
  refine fl_val 5 rfl (fun _ => (v_pick rfl)) rfl (by kernel_rfl) ?_
  refine fl_val 6 rfl (fun _ => (v_move' (by conv => (lhs; whnf)))) rfl (by kernel_rfl) ?_
  refine fl_off 7 rfl rfl rfl rfl rfl rfl (by kernel_rfl) ?_
  refine fl_off 8 rfl rfl rfl rfl rfl rfl (by kernel_rfl) ?_
  refine fl_off 9 rfl rfl rfl rfl rfl rfl (by kernel_rfl) ?_
  refine fl_offd 10 rfl rfl rfl rfl rfl rfl (by kernel_rfl) ?_
  refine fl_off 11 rfl rfl rfl rfl rfl rfl (by kernel_rfl) ?_
  refine fl_off 12 rfl rfl rfl rfl rfl rfl (by kernel_rfl) ?_
  refine fl_off 13 rfl rfl rfl rfl rfl rfl (by kernel_rfl) ?_
  refine fl_off 14 rfl rfl rfl rfl rfl rfl (by kernel_rfl) ?_
  refine fl_off 15 rfl rfl rfl rfl rfl rfl (by kernel_rfl) ?_
  refine fl_val 16 rfl (fun _ => (v_pick rfl)) rfl (by kernel_rfl) ?_
  refine fl_eff1 17 [] [] (by kernel_rfl) ⟨obl_off rfl rfl rfl rfl rfl rfl, trivial⟩ rfl ?_
  refine wl_val (v_assign' (by conv => (lhs; whnf))) rfl ?_
  refine wl_nil ⟨rfl, ?_⟩
  refine fl_nil (by kernel_rfl) trivial ?_
  refine then_go ?_
  refine wc_ret ?_
  exact ret1 rfl ⟨(st.keepOnly (l := []) (List.nil_sublist _)).touch, by rw [bitI, if_neg (by omega)]; rfl⟩
theorem div_bit (x s : Nat) : decide (((x / 2 ^ s % 2 : Nat) : Int) = 1) = x.testBit s := by
 rw [Nat.testBit_eq_decide_div_mod_eq]
 exact decide_eq_decide.2 (by omega)
theorem c_rbit {d : By} {i : Int} (him : Im m wI) (hd : d.length = 32) : Ret Try.prog 60 #[arr d, .int .i64 i] wI fun v w' => Tch wI w' [] [] ∧ v = .bool (bitI d i) := by
 have st := St.start him
 refine ret_of Try.call60 Try.func60 rfl Try.ntmps60 Try.results60 rfl ?_
 refine wc_seq ?_
 refine wc_region ?_
 refine wl_box (v := arr d) rfl st rfl ?_
 intro b2 w st
 refine wl_val (v_assign' (by conv => (lhs; whnf))) rfl ?_
 refine wl_nil ?_
 refine then_go ?_
 refine wc_seq ?_
 refine wc_seq ?_
 refine wc_region ?_
 refine wl_val (v_move' (by conv => (lhs; whnf))) rfl ?_
 refine wl_val (v_lss rfl rfl) rfl ?_
 refine wl_val (v_move' (by conv => (lhs; whnf))) rfl ?_
 by_cases hg2 : i < 0
 ·rw [show decide (i < 0) = true from decide_eq_true hg2]
  refine wl_off rfl rfl rfl rfl ?_
  refine wl_off rfl rfl rfl rfl ?_
  refine wl_val (v_pick rfl) rfl ?_
  refine wl_nil ?_
  refine then_go ?_
  refine wc_true rfl ?_
  refine wc_seq ?_
  refine wc_region ?_
  refine wl_val (v_assign' (by conv => (lhs; whnf))) rfl ?_
  refine wl_nil ?_
  refine then_go ?_
  refine wc_ret (then_ret ?_)
  exact ret1 rfl ⟨(st.keepOnly (l := []) (List.nil_sublist _)).touch, by rw [bitI, if_neg (by omega)]; rfl⟩
 ·rw [show decide (i < 0) = false from decide_eq_false hg2]
  refine wl_on rfl rfl ?_
  refine wl_val (v_move' (by conv => (lhs; whnf))) rfl ?_
  refine wl_on rfl rfl ?_
  refine wl_val (v_gtr rfl rfl) rfl ?_
  refine wl_val (v_pick rfl) rfl ?_
  refine wl_nil ?_
  refine then_go ?_
  refine wc_if rfl (fun h12 => ?_) (fun h12 => ?_)
  ·refine wc_seq ?_
   refine wc_region ?_
   refine wl_val (v_assign' (by conv => (lhs; whnf))) rfl ?_
   refine wl_nil ?_
   refine then_go ?_
   refine wc_ret (then_ret ?_)
   exact ret1 rfl ⟨(st.keepOnly (l := []) (List.nil_sublist _)).touch, by rw [bitI, if_neg (by omega)]; rfl⟩
  ·refine wc_skip ?_
   refine then_go ?_
   refine wc_seq ?_
   obtain ⟨k, rfl⟩ := Int.eq_ofNat_of_zero_le (show 0 ≤ i by omega)
   have hk : k < 256 := by omega
   obtain ⟨x, hx⟩ : ∃ x, x = (d.getD (k / 8) 0).toNat := ⟨_, rfl⟩
   have hx256 : x < 256 := by rw [hx]; exact (d.getD (k / 8) 0).toNat_lt
   refine wc_region ?_
   refine wl_val (v_move' (by conv => (lhs; whnf))) rfl ?_
   refine wl_val (v_quo' (c := ((k / 8 : Nat) : Int)) rfl rfl (by omega) (by omega) (by omega) (by omega)) rfl ?_
   refine wl_val (v_iaa (k / 8) Try.underlying28 TF.t5 rfl rfl (by first | rfl | omega) (by first | omega | (dsimp only at *; omega))) rfl ?_
   refine wl_val (v_load rfl (st.reads (v := u8 (d.getD (k / 8) 0)) 0 rfl TF.t5 (getV_bsd (j := k / 8) (by omega) (by omega)))) rfl ?_
   refine wl_val (v_conv Try.underlying5 Try.underlying3 rfl) rfl ?_
   rw [← hx, wrap_i64 (by omega) (by omega)]
   refine wl_val (v_assign' (by conv => (lhs; whnf))) rfl ?_
   refine wl_nil ?_
   refine then_go ?_
   refine wc_seq ?_
   refine wc_seq ?_
   refine wc_region ?_
   refine wl_val (v_assign' (by conv => (lhs; whnf))) rfl ?_
   refine wl_nil ?_
   refine then_go ?_
   refine wc_block ?_
   refine wc_loop (S := Nat) (fun q r w' => ∃ j, q + j = 7 - k % 8 ∧ r 1 = .int .i64 k ∧ r 5 = .int .i64 (x / 2 ^ j : Nat) ∧ r 6 = .int .i64 (7 - j : Nat) ∧ St m m [] wI w' [K.blk b2 (arr d).cells 28]) id (7 - k % 8) ⟨0, rfl, rfl, by rw [Nat.pow_zero, Nat.div_one]; rfl, rfl, st⟩ ?_
   rintro q r w2 ⟨j, hqj, h1, h5, h6, st⟩
   refine wc_o 1 h1 (wc_o 5 h5 (wc_o 6 h6 ?_))
   refine wc_seq ?_
   refine wc_seq ?_
   refine wc_region ?_
   refine wl_val (v_move' (by conv => (lhs; whnf))) rfl ?_
   refine wl_val (v_move' (by conv => (lhs; whnf))) rfl ?_
   refine wl_val (v_rem' (c := ((k % 8 : Nat) : Int)) rfl rfl (by omega) (by omega) (by omega)) rfl ?_
   refine wl_val (v_gtr rfl rfl) rfl ?_
   refine wl_nil ?_
   refine then_go ?_
   refine wc_if rfl (fun h21 => ?_) (fun h21 => ?_)
   ·refine wc_skip ?_
    refine then_go ?_
    refine wc_seq ?_
    refine wc_block ?_
    have hxj : x / 2 ^ j ≤ x := Nat.div_le_self _ _
    refine wc_region ?_
    refine wl_val (v_move' (by conv => (lhs; whnf))) rfl ?_
    refine wl_val (v_quo' (c := ((x / 2 ^ (j + 1) : Nat) : Int)) rfl rfl (Int.natCast_nonneg _) (by omega) (by rw [Nat.pow_succ, ← Nat.div_div_eq_div_mul]; rfl) (Int.le_trans (Int.ofNat_le.2 hxj) (by omega))) rfl ?_
    refine wl_val (v_assign' (by conv => (lhs; whnf))) rfl ?_
    refine wl_nil ?_
    refine block_go (then_go ?_)
    refine wc_region ?_
    refine wl_val (v_move' (by conv => (lhs; whnf))) rfl ?_
    refine wl_val (v_sub' (c := ((7 - (j + 1) : Nat) : Int)) rfl rfl (by omega) (by omega) (by omega)) rfl ?_
    refine wl_val (v_assign' (by conv => (lhs; whnf))) rfl ?_
    refine wl_nil ?_
    refine then_go ?_
    exact ⟨q - 1, by simp; omega, j + 1, by omega, rfl, rfl, rfl, st⟩
   ·refine wc_exit (then_exit (then_exit (block_hit ?_)))
    refine then_go ?_
    refine wc_seq ?_
    have hj : j = 7 - k % 8 := by omega
    subst hj
    have hxj : x / 2 ^ (7 - k % 8) ≤ x := Nat.div_le_self _ _
    refine wc_region ?_
    refine wl_val (v_move' (by conv => (lhs; whnf))) rfl ?_
    refine wl_val (v_rem' (c := ((x / 2 ^ (7 - k % 8) % 2 : Nat) : Int)) rfl rfl (Int.natCast_nonneg _) (by omega) rfl) rfl ?_
    refine wl_val (v_eql rfl rfl) rfl ?_
    rw [div_bit]
    refine wl_val (v_assign' (by conv => (lhs; whnf))) rfl ?_
    refine wl_nil ?_
    refine then_go ?_
    refine wc_ret ?_
    exact ret1 rfl ⟨(st.keepOnly (l := []) (List.nil_sublist _)).touch, by rw [bitI, if_pos (by omega)]; unfold bit; rw [hx]; rfl⟩
end
end Go.Proofs.Ytonlmjpenonabaa

namespace Go.Proofs.Ytonlmjpenonabaa
open Go Go.RowKit
namespace K
abbrev FR (ρ : Option Nat) : Fence := { Fence.wide with round := ρ }
section
variable {P : Program} {ops : Array Oper} {Q : Exit → Act → World → Prop}
theorem callsIn_of {ρ : Option Nat} {n : Nat} {f : FuncId} {args : Array Value} {w : World} {R : Ending → World → Prop} (h : Calls P f args w R) : CallsIn (FR ρ) n P f args w R :=
 callsIn_wide (n := n).2 h
theorem rowsIn_of {ρ : Option Nat} {n : Nat} {row : String} {args : Array Value} {w : World} {R : Value → World → Prop} (h : Rows P row args w R) : RowsIn (FR ρ) n P row args w R :=
 fun c cs _ => let ⟨v, w', r, s⟩ := h c cs; ⟨v, w', r, stepsIn_wide.2 s⟩
theorem upon_in {ρ : Option Nat} {n : Nat} {o : Oper} {a : Act} {next : Act → World → Prop} : ∀ {x : Result Next}, o.upon P a next Q x → o.uponIn (FR ρ) n P a next Q x := by
 intro x h
 cases x with
 | ok v w' =>
  cases v with
  | value v => exact h
  | skip => exact h
  | defer d => exact h
  | enter f args => exact ⟨by simp [Fence.wide], callsIn_of h⟩
  | row row args => exact ⟨by simp [Fence.wide], rowsIn_of h⟩
  | _ => exact h.elim
 | halt e w' =>
  cases e <;> first | exact h | exact h.elim
def noDefer (ops : Array Oper) : Bool := ops.all fun o => match o.op with | .defer _ => false | _ => true
theorem noDefer_at {i : Nat} {o : Oper} (h : noDefer ops = true) (ho : ops[i]? = some o) : ∀ c, o.op ≠ .defer c := by
 intro c hc
 obtain ⟨hi, rfl⟩ := Array.getElem?_eq_some_iff.1 ho
 have := Array.all_eq_true.1 h i hi
 rw [hc] at this
 cases this
theorem ops_in {ρ : Option Nat} {n : Nat} (hnd : noDefer ops = true) (hout : ¬ LetsOut Q) : ∀ (l : List Nat) (a : Act) (w : World), wpOps P ops Q l a w → wpOpsIn (FR ρ) n P ops Q l a w
 | [], _, _, h => h
 | i :: l, a, w, h => by
  simp only [wpOps, wpOpsIn] at h ⊢
  cases ho : ops[i]? with
  | none =>
   rw [ho] at h
   exact ops_in hnd hout l a w h
  | some o =>
   rw [ho] at h
   simp only at h ⊢
   split
   ·rename_i hw
    rw [if_pos hw] at h
    rcases h with h | h
    ·refine ⟨fun _ _ => trivial, ?_⟩
     rw [Oper.semAt_plain (FR ρ) a.eval o (noDefer_at hnd ho)]
     have h2 : o.upon P a (wpOps P ops Q l) Q ((execOp a.eval o).run P w) := h
     have h3 : o.upon P a (wpOpsIn (FR ρ) n P ops Q l) Q ((execOp a.eval o).run P w) := Oper.wp_mono (Q := Q) (ops_in hnd hout l) h2
     exact upon_in h3
    ·exact absurd h.2 hout
   ·rename_i hw
    rw [if_neg hw] at h
    exact ⟨fun _ _ => trivial, ops_in hnd hout l _ w h⟩
end
def WI (ρ : Option Nat) (P : Program) (n : Nat) (Q : Po) (c : Code) (r : Fr) (w : World) : Prop := ∀ k ds a, Has n ds a r → c.wpIn (FR ρ) k P (lift n ds Q) a w
section
variable {ρ : Option Nat} {P : Program} {n : Nat} {Q : Po} {r : Fr} {w : World}
theorem wi_of_wc {c : Code} (h : WC P n Q c r w) : WI none P n Q c r w := fun _ ds a ha => wpIn_wide.2 (h ds a ha)
theorem WI.mono {Q' : Po} {c : Code} (h : WI ρ P n Q c r w) (hq : ∀ e r w, Q e r w → Q' e r w) : WI ρ P n Q' c r w :=
 fun k ds a ha => wpIn_mono (h k ds a ha) fun _ _ _ ⟨r', h1, h2⟩ => ⟨r', h1, hq _ _ _ h2⟩
theorem wi_seq {x y : Code} (h : WI ρ P n (thenQ (fun r w => WI ρ P n Q y r w) Q) x r w) : WI ρ P n Q (x.seq y) r w := by
 intro k ds a ha
 refine wpIn_seq (wpIn_mono (h k ds a ha) ?_)
 rintro e a' w' ⟨r', h1, h2⟩
 cases e with
 | normal => exact h2 k ds a' h1
 | _ => exact ⟨r', h1, h2⟩
theorem wi_skip (h : Q .normal r w) : WI ρ P n Q .skip r w := fun _ _ _ ha => wpIn_skip ⟨r, ha, h⟩
theorem wi_exit {i : Nat} (h : Q (.exit i) r w) : WI ρ P n Q (.exit i) r w := fun _ _ _ ha => wpIn_exit ⟨r, ha, h⟩
theorem wi_block {i : Nat} {c : Code} (h : WI ρ P n (inBlockQ i Q) c r w) : WI ρ P n Q (.block i c) r w := by
 intro k ds a ha
 refine wpIn_block (wpIn_mono (h k ds a ha) ?_)
 rintro e a' w' ⟨r', h1, h2⟩
 cases e with
 | exit j =>
  simp only [inBlockQ] at h2
  simp only [Exit.inBlock]
  split <;> rename_i hj
  ·rw [if_pos hj] at h2; exact ⟨r', h1, h2⟩
  ·rw [if_neg hj] at h2; exact ⟨r', h1, h2⟩
 | _ => exact ⟨r', h1, h2⟩
theorem wi_cond {c : Operand} {x y : Code} {t : Bool} (hc : ev r c = .bool t) (ht : t = true → WI ρ P n Q x r w) (hf : t = false → WI ρ P n Q y r w) : WI ρ P n Q (.cond c x y) r w :=
 fun k ds a ha => wpIn_cond_split (by rw [ha.eval]; exact hc) (fun h => ht h k ds a ha) (fun h => hf h k ds a ha)
theorem no_out {ds : List Deferred} (hQ : ∀ r w, Q .outgrown r w → False) : ¬ LetsOut (lift n ds Q) := by
 rintro ⟨_, w, r, _, h⟩
 exact hQ r w h
theorem wi_region {id : Nat} {l : List Oper} (hnd : noDefer l.toArray = true) (hQ : ∀ r w, Q .outgrown r w → False) (h : WL P n l.toArray Q l r w) : WI ρ P n Q (.region id l.toArray false) r w := by
 intro k ds a ha
 refine wpIn_region (ops_in hnd (no_out hQ) _ a w ?_)
 have h1 := h ds a ha
 rw [List.range_eq_range', ← Array.length_toList, wpOps_eq_wpList l.toArray.toList 0 (by simp)]
 simpa using h1
end
theorem wc_scope {P : Program} {n : Nat} {Q : Po} {r : Fr} {w : World} {c : Code} (hQ : ∀ l r w, Q (.goto l) r w → False) (h : WC P n Q c r w) : WC P n Q (.scope c) r w := by
 intro ds a ha
 refine wp_scope_straight (Code.wp_mono ?_ (h ds a ha))
 rintro e a' w' ⟨r', h1, h2⟩
 cases e with
 | goto l => exact (hQ l r' w' h2).elim
 | _ => exact ⟨r', h1, h2⟩
end K
end Go.Proofs.Ytonlmjpenonabaa

namespace Go.Proofs.Ytonlmjpenonabaa
open Go Go.RowKit
namespace K
def objE (b : Nat) (o : Obj) : Ent where
 foot := [b]
 holds := fun w => w.heap[b]? = some o
 keep := fun h hw => by rw [h b (by simp)]; exact hw
 live := fun h k hk => by simp at hk; subst hk; exact lt_of_get h
theorem touch_putObj (w : World) (l : Nat) (o : Obj) : Tch w (w.putObj l o) [l] [l] :=
 ⟨rfl, rfl, rfl, by simp, fun k _ hk => World.putObj_heap_other (by simpa using hk), fun _ h => .inl h⟩
section
variable {m0 m : Mem} {F : List Nat} {w0 w : World} {Es : List Ent}
theorem St.putObj (st : St m0 m F w0 w Es) (i : Nat) {b : Nat} {o : Obj} (o' : Obj) (hi : Es[i]? = some (objE b o)) : St m0 m F w0 (w.putObj b o') (Es.set i (objE b o')) :=
 st.step i hi (touch_putObj w b o') (World.putObj_heap_same (lt_of_get (st.at hi)))
theorem St.newObj (st : St m0 m F w0 w Es) (o : Obj) : St m0 m F w0 (w.alloc o) (objE w.heap.size o :: Es) :=
 st.new (E := objE w.heap.size o) (touch_alloc w o) (World.alloc_heap_new w o)
end
abbrev PoX := List Deferred → Po
def WX (ds : List Deferred) (P : Program) (n : Nat) (Q : PoX) (c : Code) (r : Fr) (w : World) : Prop :=
 ∀ k a, Has n ds a r → c.wpIn (FR none) k P (fun e a w => ∃ ds' r', Has n ds' a r' ∧ Q ds' e r' w) a w
def thenX (K : List Deferred → Fr → World → Prop) (Q : PoX) : PoX
 | ds, .normal, r, w => K ds r w
 | ds, e, r, w => Q ds e r w
def inBlockX (id : Nat) (Q : PoX) : PoX
 | ds, .exit id', r, w => if id' = id then Q ds .normal r w else Q ds (.exit id') r w
 | ds, e, r, w => Q ds e r w
section
variable {P : Program} {n : Nat} {Q : PoX} {r : Fr} {w : World} {ds : List Deferred}
theorem wx_of_wc {c : Code} (h : WC P n (Q ds) c r w) : WX ds P n Q c r w :=
 fun k a ha => wpIn_mono (wi_of_wc h k ds a ha) fun _ _ _ ⟨r', h1, h2⟩ => ⟨ds, r', h1, h2⟩
theorem blockx_hit {i : Nat} (h : Q ds .normal r w) : inBlockX i Q ds (.exit i) r w := by
 simp only [inBlockX, if_pos]
 exact h
theorem wx_seq {x y : Code} (h : WX ds P n (thenX (fun ds r w => WX ds P n Q y r w) Q) x r w) : WX ds P n Q (x.seq y) r w := by
 intro k a ha
 refine wpIn_seq (wpIn_mono (h k a ha) ?_)
 rintro e a' w' ⟨ds', r', h1, h2⟩
 cases e with
 | normal => exact h2 k a' h1
 | _ => exact ⟨ds', r', h1, h2⟩
theorem wx_seqc {x y : Code} (h : WC P n (thenQ (fun r w => WX ds P n Q y r w) (Q ds)) x r w) : WX ds P n Q (x.seq y) r w := by
 refine wx_seq (wx_of_wc (h.mono ?_))
 intro e r w h
 cases e <;> exact h
theorem wx_block {i : Nat} {c : Code} (h : WX ds P n (inBlockX i Q) c r w) : WX ds P n Q (.block i c) r w := by
 intro k a ha
 refine wpIn_block (wpIn_mono (h k a ha) ?_)
 rintro e a' w' ⟨ds', r', h1, h2⟩
 cases e with
 | exit j =>
  simp only [inBlockX] at h2
  simp only [Exit.inBlock]
  split <;> rename_i hj
  ·rw [if_pos hj] at h2; exact ⟨ds', r', h1, h2⟩
  ·rw [if_neg hj] at h2; exact ⟨ds', r', h1, h2⟩
 | _ => exact ⟨ds', r', h1, h2⟩
theorem wx_cut {x y : Code} (M : List Deferred → Fr → World → Prop) (h1 : WX ds P n (thenX M Q) x r w) (h2 : ∀ ds r w, M ds r w → WX ds P n Q y r w) : WX ds P n Q (x.seq y) r w := by
 refine wx_seq ?_
 intro k a ha
 refine wpIn_mono (h1 k a ha) ?_
 rintro e a' w' ⟨ds', r', h3, h4⟩
 refine ⟨ds', r', h3, ?_⟩
 cases e <;> first | exact h2 _ _ _ h4 | exact h4
theorem wx_exit {i : Nat} (h : Q ds (.exit i) r w) : WX ds P n Q (.exit i) r w := fun _ _ ha => wpIn_exit ⟨ds, r, ha, h⟩
def closed : List Deferred → World → (World → Prop) → Prop
 | [], w, K => K w
 | d :: ds, w, K => ∃ D, d.target = .collected D ∧ w.heap[D]? = some (.deferred (some [])) ∧ closed ds (w.putObj D (.deferred none)) K
def bodyX (P : Program) (rvs : List ResultVar) (R : Value → World → Prop) : PoX
 | ds, .normal, r, w | ds, .ret, r, w => closed ds w fun w' => ∃ vs, ResL P r w' rvs vs ∧ R (pack vs) w'
 | _, _, _, _ => False
theorem results_of {fn : Func} {a : Act} {rvs : List ResultVar} {vs : List Value} (ha : Has n ds a r) (hres : fn.results = rvs.toArray) (hv : ResL P r w rvs vs) : (results fn a.tmps).run P w = .ok (pack vs) w := by
 have hm := mapM_res ha rvs vs hv
 have he : results fn a.tmps = (do let vs ← rvs.toArray.mapM (resS a.tmps); pure (if h : vs.size = 1 then vs[0] else .tuple vs)) := by
  unfold results
  rw [hres]
  rfl
 rw [he]
 simp only [List.mapM_toArray, Sem.run_bind, Sem.run_map, hm, Result.andThen_ok, Sem.run_pure]
 match vs with
 | [] => simp [pack]
 | [v] => simp [pack]
 | v :: u :: vs => simp [pack]
theorem leaves_of {fn : Func} {a : Act} {rvs : List ResultVar} {R : Value → World → Prop} {k : Nat} {d0 : List Deferred} (ha : Has n d0 a r) (hres : fn.results = rvs.toArray) :
  ∀ (ds : List Deferred) (w : World), closed ds w (fun w' => ∃ vs, ResL P r w' rvs vs ∧ R (pack vs) w') → LeavesInM (FR none) k P fn a.tmps (fun e w' => ∃ v, e = .returned v ∧ R v w') ds .returning w
 | [], w, ⟨vs, hv, hR⟩ => ⟨_, results_of ha hres hv, _, rfl, hR⟩
 | d :: ds, w, ⟨D, hD, hh, hc⟩ => ⟨by simp, .inl ⟨D, _, hD, run_takeDeferred hh, leaves_of ha hres ds _ hc⟩⟩
theorem ret_ofX {f : FuncId} {fn : Func} {c : Code} {args : List Value} {R : Value → World → Prop} {rvs : List ResultVar}
  (hgo : ∀ args w, (callFunc f args).run P w = .ok (.enter f args) w) (hf : P.funcs[f]? = some fn) (hb : fn.body = some c) (hn : fn.ntmps = n) (hres : fn.results = rvs.toArray)
  (hsz : Nat.ble args.length n = true) (h : WX [] P n (bodyX P rvs R) c (frOf 0 args) w) : Ret P f args.toArray w R := by
 refine ⟨hgo, callsIn_wide (n := 9).1 (callsIn_of_wp_marks hf hb trivial ?_)⟩
 have hle : args.length ≤ n := Nat.le_of_ble_eq_true hsz
 have hhas : Has n [] ⟨args.toArray ++ Array.replicate (fn.ntmps - args.toArray.size) undef, []⟩ (frOf 0 args) := by
  refine ⟨by simp [hn]; omega, fun t => ?_, rfl⟩
  rw [frOf_get]
  simp only [Nat.zero_le, if_true, Nat.sub_zero, Array.getD_eq_getD_getElem?, Array.getElem?_append, List.size_toArray, List.getElem?_toArray]
  split
  ·rfl
  ·rename_i hlt
   rw [List.getElem?_eq_none (by omega)]
   simp only [Array.getElem?_replicate]
   split <;> rfl
 refine wpIn_mono (h 9 _ hhas) ?_
 rintro e a w' ⟨ds', r', ha, hq⟩
 cases e with
 | normal =>
  show LeavesInM _ _ _ _ _ _ a.defers _ _
  rw [ha.defers]
  exact leaves_of ha hres ds' w' hq
 | ret =>
  show LeavesInM _ _ _ _ _ _ a.defers _ _
  rw [ha.defers]
  exact leaves_of ha hres ds' w' hq
 | _ => exact hq.elim
end
def mkRec (fn : FuncId) (tmps : Array Value) (ps : Array Tmp) (assign body : Code) (D : Nat) (s : LoopState) (pe : Option Code) : Loop :=
 { state := s, pending := pe, fn, tmps, params := ps, assign, body, defers := D }
def mark (D : Nat) : Deferred := { target := .collected D, args := #[] }
section
variable {P : Program} {n : Nat} {Q : PoX} {r : Fr} {w w0 : World} {ds : List Deferred} {m0 m : Mem} {F : List Nat} {Es : List Ent}
theorem wx_range {g : Operand} {ps : Array Tmp} {assign body : Code} {gf : FuncId} {lb : List Value} (hg : ev r g = .func (.func gf) #[] lb.toArray) (eg : ∀ args w, (callFunc gf args).run P w = .ok (.enter gf args) w) (st : St m0 m F w0 w Es)
    (h : ∀ (l D : Nat) (fn : FuncId) (tmps : Array Value) (rec : LoopState → Option Code → Loop) (w1 : World), rec = mkRec fn tmps ps assign body D → tmps.size = n → (∀ t, tmps.getD t undef = r t) → St m0 m F w0 w1 (objE l (.loop (rec .ready none)) :: objE D (.deferred (some [])) :: Es) →
      Calls P gf (.func (.yield l) #[] #[] :: lb).toArray w1 fun e w2 => ∃ v, e = .returned v ∧ ∃ s pe, s ≠ .busy ∧ w2.heap[l]? = some (.loop (rec s pe)) ∧
        (match pe with
         | none => Q (mark D :: ds) .normal r (w2.putObj l (.loop (rec .exhausted pe)))
         | some c => WX (mark D :: ds) P n Q c r (w2.putObj l (.loop (rec .exhausted pe))))) : WX ds P n Q (.rangeFunc g ps assign body) r w := by
  intro k a ha
  refine wpIn_rangeFunc fun fn _ => ?_
  have st1 := st.newObj (.deferred (some []))
  have st2 := st1.newObj (.loop (mkRec fn a.tmps ps assign body w.heap.size .ready none))
  have hsz : (w.alloc (.deferred (some []))).heap.size = w.heap.size + 1 := by simp
  rw [hsz] at st2
  have hev : a.eval g = .func (.func gf) #[] lb.toArray := by rw [ha.eval]; exact hg
  have hc := h (w.heap.size + 1) w.heap.size fn a.tmps _ _ rfl ha.size ha.val st2
  have hen := run_enterLoop_outer (P := P) (w := w) fn a.tmps ps assign body
  change _ = Result.ok _ ((w.alloc (.deferred (some []))).alloc (.loop (mkRec fn a.tmps ps assign body w.heap.size .ready none))) at hen
  generalize (w.alloc (.deferred (some []))).alloc (.loop (mkRec fn a.tmps ps assign body w.heap.size .ready none)) = W1 at hen hc
  refine ⟨w.heap.size + 1, [mark w.heap.size], W1, { target := .fn (.func gf) lb.toArray, args := #[.func (.yield (w.heap.size + 1)) #[] #[]] }, W1, gf, (.func (.yield (w.heap.size + 1)) #[] #[] :: lb).toArray, W1, hen, ?_, fun _ _ => trivial, ?_, by simp [Fence.wide], ?_⟩
  · simp only [resolve, hev]
    simp [go_sem]
  · simp [invoke, go_sem, eg]
  · refine callsIn_of (Calls.mono hc ?_)
    rintro e w2 ⟨v, rfl, s, pe, hs, hl, hq⟩
    refine ⟨pe, _, run_endLoop hl hs, ?_⟩
    have hh : Has n (mark w.heap.size :: ds) { a with defers := [mark w.heap.size] ++ a.defers } r := ⟨ha.size, ha.val, by rw [ha.defers]; rfl⟩
    cases pe with
    | none => exact ⟨_, r, hh, hq⟩
    | some c => exact hq k _ hh
end
def setPs : List (Nat × Value) → Fr → Fr
 | [], r => r
 | x :: l, r => setPs l (upd x.1 x.2 r)
theorem has_ps {n : Nat} : ∀ (l : List (Nat × Value)) (tmps : Array Value) (r : Fr), tmps.size = n → (∀ t, tmps.getD t undef = r t) → (l.all fun x => Nat.blt x.1 n) = true →
  Has n [] { tmps := l.foldl (fun ts (x : Nat × Value) => ts.setIfInBounds x.1 x.2) tmps, defers := [] } (setPs l r)
 | [], tmps, r, hs, hv, _ => ⟨hs, hv, rfl⟩
 | x :: l, tmps, r, hs, hv, hb => by
  simp only [List.all_cons, Bool.and_eq_true] at hb
  have h1 : Has n [] { tmps := tmps, defers := [] } r := ⟨hs, hv, rfl⟩
  have h2 := h1.put hb.1 x.2
  exact has_ps l _ _ h2.size h2.val hb.2
section
variable {P : Program} {n : Nat} {r : Fr} {w : World}
def roundQ (rec : LoopState → Option Code → Loop) (l : Nat) (R : Value → World → Prop) : Po
 | .normal, _, w => w.heap[l]? = some (.loop (rec .busy none)) ∧ R (.bool true) (w.putObj l (.loop (rec .ready none)))
 | .ret, _, w => w.heap[l]? = some (.loop (rec .busy none)) ∧ R (.bool false) (w.putObj l (.loop (rec .done (some .ret))))
 | .exit i, _, w => w.heap[l]? = some (.loop (rec .busy none)) ∧ R (.bool false) (w.putObj l (.loop (rec .done (some (.exit i)))))
 | _, _, _ => False
def noQ : Po := fun _ _ _ => False
def YieldR (P : Program) (l : Nat) (vs : List Value) (w : World) (R : Value → World → Prop) : Prop :=
 ∃ fn tmps assign body, (Instr.yield l vs.toArray).run P w = .ok (.round l fn tmps assign body) w ∧ ∀ k, RoundIn (FR none) k P l fn tmps assign body w fun e w' => ∃ v, e = .returned v ∧ R v w'
theorem yield_round {rec : LoopState → Option Code → Loop} {fn : FuncId} {tmps : Array Value} {ps : List Nat} {assign body : Code} {D l : Nat} {vs : List Value} {R : Value → World → Prop}
  (hrec : rec = mkRec fn tmps ps.toArray assign body D) (hl : w.heap[l]? = some (.loop (rec .ready none))) (hs : vs.length = ps.length) (hsz : tmps.size = n) (hv : ∀ t, tmps.getD t undef = r t) (hps : (ps.all fun x => Nat.blt x n) = true)
  (h : WI (some l) P n (thenQ (fun r1 w1 => w1.heap[l]? = some (.loop (rec .ready none)) ∧ WI (some l) P n (roundQ rec l R) body r1 (w1.putObj l (.loop (rec .busy none)))) noQ) assign (setPs (ps.zip vs) r) w) : YieldR P l vs w R := by
 subst hrec
 refine ⟨fn, _, assign, body, run_yield hl (by simp [mkRec, hs]), fun k => roundIn_of_wpIn (F := FR none) trivial ?_⟩
 have hzip : (mkRec fn tmps ps.toArray assign body D .ready none).params.zip vs.toArray = (ps.zip vs).toArray := by
  apply Array.toList_inj.mp
  simp [mkRec]
 have hall : ((ps.zip vs).all fun x => Nat.blt x.1 n) = true := by
  rw [List.all_eq_true]
  intro x hx
  exact List.all_eq_true.1 hps x.1 (List.of_mem_zip hx).1
 have hh := has_ps (n := n) (ps.zip vs) tmps r hsz hv hall
 have hacts : ((mkRec fn tmps ps.toArray assign body D .ready none).params.zip vs.toArray).foldl (fun ts (x : Nat × Value) => ts.setIfInBounds x.1 x.2) (mkRec fn tmps ps.toArray assign body D .ready none).tmps = (ps.zip vs).foldl (fun ts (x : Nat × Value) => ts.setIfInBounds x.1 x.2) tmps := by
  rw [hzip]
  simp [mkRec]
 refine wpIn_mono (a := { tmps := _, defers := [] }) ?_ ?_ (Q := lift n [] (thenQ (fun r1 w1 => w1.heap[l]? = some (.loop (mkRec fn tmps ps.toArray assign body D .ready none)) ∧ WI (some l) P n (roundQ (mkRec fn tmps ps.toArray assign body D) l R) body r1 (w1.putObj l (.loop (mkRec fn tmps ps.toArray assign body D .busy none)))) noQ))
 ·have := h k [] _ hh
  rw [← hacts] at this
  exact this
 ·rintro e a1 w1 ⟨r1, h1, h2⟩
  cases e with
  | normal =>
   obtain ⟨hl1, hb⟩ := h2
   refine ⟨_, run_beginRound hl1 rfl, wpIn_mono (hb k [] a1 h1) ?_⟩
   rintro e a2 w2 ⟨r2, _, h4⟩
   cases e with
   | normal => exact ⟨_, _, run_endRound none h4.1, _, rfl, h4.2⟩
   | ret => exact ⟨_, _, run_endRound (some .ret) h4.1, _, rfl, h4.2⟩
   | exit j => exact ⟨_, _, run_endRound (some (.exit j)) h4.1, _, rfl, h4.2⟩
   | _ => exact h4.elim
  | _ => exact h2.elim
theorem retX1 {rvs : List ResultVar} {R : Value → World → Prop} {D : Nat} (h : w.heap[D]? = some (.deferred (some []))) (k : bodyQ P rvs R .ret r (w.putObj D (.deferred none))) : bodyX P rvs R [mark D] .ret r w := ⟨D, rfl, h, k⟩
def WLI (P : Program) (n : Nat) (ops : Array Oper) (Q : Po) (l : List Oper) (r : Fr) (w : World) : Prop := ∀ k ds a, Has n ds a r → wpListIn (FR none) k P ops (lift n ds Q) l a w
end
section
variable {P : Program} {n : Nat} {ops : Array Oper} {Q : Po} {r : Fr} {w : World} {rest : List Oper} {d : Nat} {ty : TypeId} {pos : String} {after : Array Edge}
theorem wc_regionI {id : Nat} {l : List Oper} (h : WLI P n l.toArray Q l r w) : WC P n Q (.region id l.toArray false) r w := by
 intro ds a ha
 refine wpIn_wide (n := 9).1 (wpIn_region ?_)
 have h1 := h 9 ds a ha
 rw [List.range_eq_range', ← Array.length_toList, wpOpsIn_eq_wpListIn l.toArray.toList 0 (by simp)]
 have h2 : wpListIn (FR none) 9 P l.toArray (lift n ds Q) l.toArray.toList a w := by simpa using h1
 exact h2
theorem wli_nil (h : Q .normal r w) : WLI P n ops Q [] r w := fun _ _ _ ha => ⟨r, ha, h⟩
theorem wli_val {op : Op} {v : Value} {w' : World} (h : Val P op ty r w v w') (hd : Nat.blt d n = true) (k : WLI P n ops Q rest (upd d v r) w') :
  WLI P n ops Q (⟨some d, op, ty, pos, after, none⟩ :: rest) r w := by
 intro kk ds a ha
 refine wpListIn_plain rfl fun K hK => ⟨fun _ _ => trivial, ?_⟩
 have he : (execOp a.eval ⟨some d, op, ty, pos, after, none⟩).run P w = .ok (.value v) w' := by rw [ha.eval]; exact h _ _ _ _
 have hsem : (⟨some d, op, ty, pos, after, none⟩ : Oper).semAt (FR none).round a.eval = execOp a.eval (⟨some d, op, ty, pos, after, none⟩ : Oper) := by simp [Oper.semAt]
 rw [hsem, he, Oper.uponIn_value]
 exact hK _ _ (k kk ds _ (ha.put hd v))
theorem wli_yield {x : Operand} {l : Nat} {ags : Array Operand} {tys : Array TypeId} {args : List Value} {R : Value → World → Prop} (hx : ev r x = .func (.yield l) #[] #[]) (ha : ags.toList.map (ev r) = args)
  (hc : YieldR P l args w R) (hd : Nat.blt d n = true) (k : ∀ v w', R v w' → WLI P n ops Q rest (upd d v r) w') :
  WLI P n ops Q (⟨some d, .call ⟨.value x, ags, tys⟩, ty, pos, after, none⟩ :: rest) r w := by
 intro kk ds a h
 refine wpListIn_plain rfl fun K hK => ⟨fun _ _ => trivial, ?_⟩
 obtain ⟨fn, tmps, assign, body, hy, hround⟩ := hc
 have hargs : ags.map (ev r) = args.toArray := by
  apply Array.toList_inj.mp
  rw [Array.toList_map, ha]
 have he : (execOp a.eval ⟨some d, .call ⟨.value x, ags, tys⟩, ty, pos, after, none⟩).run P w = .ok (.round l fn tmps assign body) w := by
  rw [h.eval]
  simp [execOp, resolve, hx, Deferred.ofValue, invoke, hargs, hy]
 have hsem : (⟨some d, .call ⟨.value x, ags, tys⟩, ty, pos, after, none⟩ : Oper).semAt (FR none).round a.eval = execOp a.eval (⟨some d, .call ⟨.value x, ags, tys⟩, ty, pos, after, none⟩ : Oper) := by simp [Oper.semAt]
 rw [hsem, he, Oper.uponIn_round]
 refine ⟨by simp [Fence.wide], (hround _).mono ?_⟩
 rintro e w' ⟨v, rfl, hR⟩
 exact hK _ _ (k v w' hR kk ds _ (h.put hd v))
end
end K
end Go.Proofs.Ytonlmjpenonabaa

namespace Go.Proofs.Ytonlmjpenonabaa
open Go Go.RowKit K PT
section
variable {m : Mem} {wI : World}
theorem c_bits1 {d : By} {l b1 : Nat} (hd : d.length = 32) (J Jx : Nat → World → Prop) (hrd : ∀ i w, J i w → Reads Try.prog w 28 ⟨b1, 0, none⟩ (arr d))
    (hy : ∀ i w, i < 256 → J i w → YieldR Try.prog l [.int .i64 i, .bool (bit d i)] w fun v w' => (v = .bool true ∧ J (i + 1) w') ∨ (v = .bool false ∧ Jx i w')) (h0 : J 0 wI) :
    Ret Try.prog 114 #[.func (.yield l) #[] #[], .pointer (some ⟨b1, 0, none⟩)] wI fun _ w' => J 256 w' ∨ ∃ i, i < 256 ∧ Jx i w' := by
  refine ret_of Try.call114 Try.func114 rfl Try.ntmps114 Try.results114 rfl ?_
  refine wc_scope (fun _ _ _ h => h) ?_
  refine wc_seq ?_
  refine wc_label ?_
  refine then_go ?_
  refine wc_seq ?_
  refine wc_region ?_
  refine wl_val (v_load rfl (hrd 0 _ h0)) rfl ?_
  refine wl_val (v_move' (by conv => (lhs; whnf))) rfl ?_
  refine wl_nil ?_
  refine then_go ?_
  refine wc_block ?_
  refine wc_loop (S := Nat) (fun q r w' => ∃ k, q + k = 32 ∧ r 0 = .func (.yield l) #[] #[] ∧ r 6 = arr d ∧ r 7 = .int .i64 k ∧ J (8 * k) w') id 32 ⟨0, rfl, rfl, rfl, rfl, h0⟩ ?_
  rintro q r w ⟨k, hqk, h0, h6, h7, hJ⟩
  refine wc_o 0 h0 (wc_o 6 h6 (wc_o 7 h7 ?_))
  refine wc_seq ?_
  refine wc_region ?_
  refine wl_val (v_lss rfl rfl) rfl ?_
  refine wl_nil ?_
  refine then_go ?_
  refine wc_seq ?_
  refine wc_if rfl (fun h8 => ?_) (fun h8 => ?_)
  · refine wc_skip ?_
    refine then_go ?_
    refine wc_seq ?_
    refine wc_block ?_
    refine wc_seq ?_
    have hk : k < 32 := by omega
    refine wc_region ?_
    refine wl_val (v_move' (by conv => (lhs; whnf))) rfl ?_
    refine wl_val (v_index_a (v := u8 (d.getD k 0)) Try.underlying28 TF.t5 rfl rfl (by omega) (by omega) (getV_bsd (j := k) (by simp) (by omega))) rfl ?_
    refine wl_val (v_assign' (by conv => (lhs; whnf))) rfl ?_
    refine wl_val (v_assign' (by conv => (lhs; whnf))) rfl ?_
    refine wl_nil ?_
    refine then_go ?_
    refine wc_seq ?_
    refine wc_region ?_
    refine wl_val (v_assign' (by conv => (lhs; whnf))) rfl ?_
    refine wl_nil ?_
    refine then_go ?_
    refine wc_block ?_
    refine wc_loop (S := Nat) (fun q r w' => ∃ j, q + j = 8 ∧ r 0 = .func (.yield l) #[] #[] ∧ r 3 = .int .i64 k ∧ r 4 = u8 (d.getD k 0) ∧ r 5 = .int .i64 j ∧ r 6 = arr d ∧ r 7 = .int .i64 k ∧ J (8 * k + j) w') id 8 ⟨0, rfl, rfl, rfl, rfl, rfl, rfl, rfl, hJ⟩ ?_
    rintro q2 r w3 ⟨j, hqj, h0, h3, h4, h5, h6, h7, hJ⟩
    refine wc_o 0 h0 (wc_o 3 h3 (wc_o 4 h4 (wc_o 5 h5 (wc_o 6 h6 (wc_o 7 h7 ?_)))))
    refine wc_seq ?_
    refine wc_seq ?_
    refine wc_region ?_
    refine wl_val (v_move' (by conv => (lhs; whnf))) rfl ?_
    refine wl_val (v_lss rfl rfl) rfl ?_
    refine wl_nil ?_
    refine then_go ?_
    refine wc_if rfl (fun h12 => ?_) (fun h12 => ?_)
    · refine wc_skip ?_
      refine then_go ?_
      refine wc_seq ?_
      refine wc_block ?_
      refine wc_seq ?_
      have hj : j < 8 := by omega
      have hbit : bit d (8 * k + j) = (d.getD k 0).toNat.testBit (7 - j) := by
        unfold bit
        rw [show (8 * k + j) / 8 = k by omega, show (8 * k + j) % 8 = j by omega]
      refine wc_regionI ?_
      refine wli_val (v_move' (by conv => (lhs; whnf))) rfl ?_
      refine wli_val (v_move' (by conv => (lhs; whnf))) rfl ?_
      refine wli_val (v_mul' (c := ((8 * k : Nat) : Int)) rfl rfl (by omega) (by omega) (by omega)) rfl ?_
      refine wli_val (v_move' (by conv => (lhs; whnf))) rfl ?_
      refine wli_val (v_add' (c := ((8 * k + j : Nat) : Int)) rfl rfl (by omega) (by omega) (by omega)) rfl ?_
      refine wli_val (v_move' (by conv => (lhs; whnf))) rfl ?_
      refine wli_val (v_move' (by conv => (lhs; whnf))) rfl ?_
      refine wli_val (v_shr128 j rfl rfl hj) rfl ?_
      refine wli_val (v_and8 (2 ^ (7 - j)) (Nat.lt_of_le_of_lt (Nat.pow_le_pow_right (by decide) (Nat.sub_le _ _)) (by decide)) rfl rfl) rfl ?_
      refine wli_val (v_neq rfl rfl) rfl ?_
      rw [and_bit, ← hbit]
      refine wli_yield rfl rfl (hy (8 * k + j) _ (by omega) hJ) rfl ?_
      intro v25 w4 hR
      obtain ⟨bb, rfl, hR2⟩ : ∃ bb : Bool, v25 = .bool bb ∧ ((bb = true ∧ J (8 * k + j + 1) w4) ∨ (bb = false ∧ Jx (8 * k + j) w4)) := by
        rcases hR with ⟨rfl, h⟩ | ⟨rfl, h⟩
        · exact ⟨true, rfl, .inl ⟨rfl, h⟩⟩
        · exact ⟨false, rfl, .inr ⟨rfl, h⟩⟩
      refine wli_val (v_not rfl) rfl ?_
      refine wli_nil ?_
      refine then_go ?_
      refine wc_cond rfl (fun h26 => ?_) (fun h26 => ?_)
      · refine wc_exit (block_miss rfl (then_exit (then_exit (block_miss rfl (block_miss rfl (then_exit (then_exit (block_hit ?_))))))))
        refine end0 ?_
        first
        | (rcases hR2 with ⟨rfl, h⟩ | ⟨rfl, h⟩
           · cases h26
           · exact .inr ⟨_, by omega, h⟩)
        | (have hk32 : k = 32 := by omega
           subst hk32
           exact .inl hJ)
      · refine wc_skip ?_
        refine block_go (then_go ?_)
        refine wc_region ?_
        refine wl_val (v_move' (by conv => (lhs; whnf))) rfl ?_
        refine wl_val (v_add' rfl rfl rfl (by first | omega | (dsimp only at *; omega)) (by first | omega | (dsimp only at *; omega))) rfl ?_
        refine wl_val (v_assign' (by conv => (lhs; whnf))) rfl ?_
        refine wl_nil ?_
        refine then_go ?_
        rcases hR2 with ⟨rfl, h⟩ | ⟨rfl, h⟩
        · exact ⟨q2 - 1, by simp; omega, j + 1, by omega, rfl, rfl, rfl, rfl, rfl, rfl, h⟩
        · cases h26
    · refine wc_exit (then_exit (then_exit (block_hit ?_)))
      refine block_go (then_go ?_)
      refine wc_region ?_
      refine wl_val (v_add' rfl rfl rfl (by first | omega | (dsimp only at *; omega)) (by first | omega | (dsimp only at *; omega))) rfl ?_
      refine wl_val (v_move' (by conv => (lhs; whnf))) rfl ?_
      refine wl_nil ?_
      refine then_go ?_
      have hj8 : j = 8 := by omega
      subst hj8
      exact ⟨q - 1, by simp; omega, k + 1, by omega, rfl, rfl, rfl, hJ⟩
  · refine wc_exit (then_exit (then_exit (block_hit ?_)))
    refine end0 ?_
    first
    | (rcases hR2 with ⟨rfl, h⟩ | ⟨rfl, h⟩
       · cases h26
       · exact .inr ⟨_, by omega, h⟩)
    | (have hk32 : k = 32 := by omega
       subst hk32
       exact .inl hJ)
theorem c_bits {d : By} (him : Im m wI) : Ret Try.prog 105 #[arr d] wI fun v w' => ∃ b, v = .func (.func 114) #[] #[.pointer (some ⟨b, 0, none⟩)] ∧ Tch wI w' [] [b] ∧ (K.blk b (arr d).cells 28).holds w' := by
 have st := St.start him
 refine ret_of Try.call105 Try.func105 rfl Try.ntmps105 Try.results105 rfl ?_
 refine wc_seq ?_
 refine wc_region ?_
 refine wl_box (v := arr d) rfl st rfl ?_
 intro b1 w st
 refine wl_val (v_assign' (by conv => (lhs; whnf))) rfl ?_
 refine wl_nil ?_
 refine then_go ?_
 refine wc_seq ?_
 refine wc_region ?_
 refine wl_val (v_mkfunc rfl rfl) rfl ?_
 refine wl_val (v_assign' (by conv => (lhs; whnf))) rfl ?_
 refine wl_nil ?_
 refine then_go ?_
 refine wc_ret ?_
 have hf := (St.finish (Es := []) (l := [_]) st).1
 exact ret1 rfl ⟨b1, rfl, ⟨hf.os, hf.tape, hf.output, hf.size, hf.block, fun k hk => hf.out k (by simpa [joinE, K.blk] using hk)⟩, st.at (i := 0) rfl⟩
end
end Go.Proofs.Ytonlmjpenonabaa

namespace Go.Proofs.Ytonlmjpenonabaa
open Go Go.RowKit K PT
namespace PT
def comF (a b : By) : Nat → Nat → Nat
 | 0, k => k
 | f + 1, k => if bit b k = bit a k then comF a b f (k + 1) else k
def common (a b : By) : Nat := comF a b 256 0
end PT
section
variable {m : Mem} {wI : World}
theorem c_common {a b : By} (him : Im m wI) (ha : a.length = 32) (hb : b.length = 32) : Ret Try.prog 86 #[arr a, arr b] wI fun v w' => Tch wI w' [] [] ∧ v = .int .i64 (common a b) := by
 have st := St.start him
 refine ret_ofX Try.call86 Try.func86 rfl Try.ntmps86 Try.results86 rfl ?_
 refine wx_seqc ?_
 refine wc_region ?_
 refine wl_box (v := arr a) rfl st rfl ?_
 intro b2 w st
 refine wl_box (v := arr b) rfl st rfl ?_
 intro b3 w st
 refine wl_val (v_assign' (by conv => (lhs; whnf))) rfl ?_
 refine wl_nil ?_
 refine then_go ?_
 refine wx_seqc ?_
 refine wc_region ?_
 refine wl_alloc TF.z3 st rfl ?_
 intro b5 w st
 refine wl_store1 0 st rfl TF.t3 rfl (by conv => (lhs; whnf)) rfl (by first | exact lt_ok rfl | decide | simp) ?_
 intro w st
 refine wl_nil ?_
 refine then_go ?_
 refine wx_cut (fun ds r w' => ∃ (D l : Nat) (o : Obj) (m' : Mem), ds = [K.mark D] ∧ r 5 = .pointer (some ⟨b5, 0, none⟩) ∧ St m m' [] wI w' [objE l o, objE D (.deferred (some [])), K.blk b5 #[.int .i64 (common a b)] 3]) ?_ ?_
 ·refine wx_seqc ?_
  refine wc_region ?_
  refine wl_val (v_load rfl (st.reads 2 rfl TF.t28 (getV_all (by simp [arr, Value.cells, bs, ha])))) rfl ?_
  refine wl_call rfl (c_bits st.im) rfl ?_
  rintro v9 w ⟨b9, rfl, t, hE⟩
  have st := st.new (E := K.blk b9 _ _) t hE
  obtain ⟨m1, hg1, hm1, st⟩ := st.freeze (i := 0) rfl (by simp)
  change St _ _ _ _ _ [_, _, _] at st
  refine wl_nil ?_
  refine then_go ?_
  refine wx_block ?_
  refine wx_range (lb := [.pointer (some ⟨b9, 0, none⟩)]) rfl Try.call114 st ?_
  intro l D fn tmps rec w1 hrec htm hval st
  refine Calls.mono (c_bits1 (d := a) (l := l) (b1 := b9) ha (fun i W => comF a b (256 - i) i = common a b ∧ St m m1 [] wI W [objE l (.loop (rec .ready none)), objE D (.deferred (some [])), K.blk b5 #[.int .i64 i] 3, K.blk b3 (arr b).cells 28, K.blk b2 (arr a).cells 28]) (fun i W => i = common a b ∧ St m m1 [] wI W [objE l (.loop (rec .done (some (.exit 0)))), objE D (.deferred (some [])), K.blk b5 #[.int .i64 i] 3, K.blk b3 (arr b).cells 28, K.blk b2 (arr a).cells 28]) ?_ ?_ ⟨rfl, st⟩).2 ?_
  ·rintro i W ⟨_, st⟩
   exact st.readm hm1 TF.t28 (getV_all (by simp [arr, Value.cells, bs, ha]))
  rintro i W hi ⟨hc, st⟩
  refine yield_round hrec (st.at (i := 0) rfl) rfl htm hval rfl ?_
  ·refine wi_seq ?_
   refine wi_region (by kernel_rfl) (fun _ _ h => h) ?_
   refine wl_val (v_assign' (by conv => (lhs; whnf))) rfl ?_
   refine wl_nil ?_
   refine then_go ?_
   refine wi_region (by kernel_rfl) (fun _ _ h => h) ?_
   refine wl_val (v_assign' (by conv => (lhs; whnf))) rfl ?_
   refine wl_nil ?_
   refine then_go ⟨st.at (i := 0) rfl, ?_⟩
   have st := st.putObj 0 (.loop (rec .busy none)) rfl
   have hs : 256 - i = (256 - (i + 1)) + 1 := by omega
   rw [hs, comF] at hc
   have hbi : bitI b i = bit b i := by unfold bitI; rw [if_pos (by omega)]; simp
   refine wi_block ?_
   refine wi_seq ?_
   refine wi_seq ?_
   refine wi_region (by kernel_rfl) (fun _ _ h => h) ?_
   refine wl_val (v_load rfl (st.reads 3 rfl TF.t28 (getV_all (by simp [arr, Value.cells, bs, hb])))) rfl ?_
   refine wl_val (v_move' (by conv => (lhs; whnf))) rfl ?_
   refine wl_call rfl (c_bit st.im hb) rfl ?_
   rintro _ w ⟨t, rfl⟩
   have st := st.pure t
   rw [hbi]
   refine wl_val (v_move' (by conv => (lhs; whnf))) rfl ?_
   refine wl_val (v_neb Try.underlying4 rfl rfl) rfl ?_
   refine wl_nil ?_
   refine then_go ?_
   refine wi_cond rfl (fun h16 => ?_) (fun h16 => ?_)
   ·refine wi_exit (then_exit (block_miss rfl ?_))
    rw [if_neg (by simpa using h16)] at hc
    exact ⟨st.at (i := 0) rfl, .inr ⟨rfl, hc, st.putObj 0 _ rfl⟩⟩
   ·refine wi_skip ?_
    refine then_go ?_
    refine wi_region (by kernel_rfl) (fun _ _ h => h) ?_
    refine wl_val (v_load rfl (st.reads 2 rfl TF.t3 rfl)) rfl ?_
    refine wl_val (v_add' rfl rfl rfl (by first | omega | (dsimp only at *; omega)) (by first | omega | (dsimp only at *; omega))) rfl ?_
    refine wl_store1 2 st rfl TF.t3 rfl (by conv => (lhs; whnf)) rfl (by first | exact lt_ok rfl | decide | simp) ?_
    intro w st
    refine wl_nil ?_
    refine block_go ?_
    rw [if_pos (by simpa using h16)] at hc
    exact ⟨st.at (i := 0) rfl, .inl ⟨rfl, hc, st.putObj 0 _ rfl⟩⟩
  rintro e W ⟨v, rfl, ⟨hc, st⟩ | ⟨i, hi, hc, st⟩⟩
  ·have st2 := st.putObj 0 (.loop (rec .exhausted none)) rfl
   exact ⟨v, rfl, .ready, none, by simp, st.at (i := 0) rfl, D, l, _, m1, rfl, rfl, by rw [← hc]; exact ((st2.drop 3).drop 3)⟩
  ·have st2 := st.putObj 0 (.loop (rec .exhausted (some (.exit 0)))) rfl
   exact ⟨v, rfl, .done, some (.exit 0), by simp, st.at (i := 0) rfl, wx_exit (blockx_hit ⟨D, l, _, m1, rfl, rfl, by rw [← hc]; exact ((st2.drop 3).drop 3)⟩)⟩
 ·rintro ds r w ⟨D, l, o, m', rfl, h5, st⟩
  refine wx_of_wc (wc_o 5 h5 ?_)
  refine wc_seq ?_
  refine wc_region ?_
  refine wl_val (v_load rfl (st.reads 2 rfl TF.t3 rfl)) rfl ?_
  refine wl_val (v_assign' (by conv => (lhs; whnf))) rfl ?_
  refine wl_nil ?_
  refine then_go ?_
  refine wc_ret ?_
  have hD := st.at (i := 1) rfl
  have st2 := (st.putObj 1 (.deferred none) rfl).keepOnly (List.nil_sublist _)
  exact retX1 hD (ret1 rfl ⟨(St.finish (l := []) (Es := []) st2).1, rfl⟩)
end
end Go.Proofs.Ytonlmjpenonabaa

namespace Go.Proofs.Ytonlmjpenonabaa
open Go Go.RowKit K SH
end Go.Proofs.Ytonlmjpenonabaa

namespace Go.Proofs.Ytonlmjpenonabaa
open Go Go.RowKit
namespace K
section
variable {P : Program} {n : Nat} {ops : Array Oper} {Q : Po} {r : Fr} {w : World}
def FLI (P : Program) (n : Nat) (ops : Array Oper) (Q : Po) (done pure lds : List Nat) (r : Fr) (w : World) : Prop :=
 (∀ i ∈ pure, ∀ w', obl P n ops r w' i) → ∀ kk ds X listed fuel a, RS n ops done (pure ++ lds) r X listed fuel ds a → wpAnyIn (FR none) kk P .any ops (lift n ds Q) fuel listed a w
theorem fli_core {done pure lds : List Nat} {kk : Nat} {ds : List Deferred} (hns : noSel ops = true)
  (hpair : okAll ops (pure ++ lds) = true)
  (hpure : ∀ i ∈ pure, ∀ w', obl P n ops r w' i) (hlds : ∀ i ∈ lds, obl P n ops r w i)
  (hnil : ∀ X listed fuel a, RS n ops done (pure ++ lds) r X listed fuel ds a → Region.ready .any ops listed = [] → lift n ds Q .normal a w)
  (hrest : ∀ X listed fuel a, RS n ops done (pure ++ lds) r X listed (fuel + 1) ds a → ∀ i ∈ Region.ready .any ops listed, i ∉ X → wpOpIn (FR none) kk P ops (lift n ds Q) i (wpAnyIn (FR none) kk P .any ops (lift n ds Q) fuel (listed.setIfInBounds i true)) a w) :
  ∀ fuel X listed a, RS n ops done (pure ++ lds) r X listed fuel ds a → wpAnyIn (FR none) kk P .any ops (lift n ds Q) fuel listed a w := by
 have hob : ∀ i ∈ pure ++ lds, obl P n ops r w i := fun i hi => by
  rcases List.mem_append.1 hi with h | h
  ·exact hpure i h w
  ·exact hlds i h
 intro fuel
 induction fuel with
 | zero =>
  intro X listed a s
  have hr : Region.ready .any ops listed = [] := by
   cases hr : Region.ready .any ops listed with
   | nil => rfl
   | cons i l =>
    have hi : i ∈ Region.ready .any ops listed := by rw [hr]; exact List.mem_cons_self
    obtain ⟨h1, h2, _⟩ := mem_ready.1 hi
    have h3 := unl_pos h1 h2
    have h4 := s.fuel
    omega
  exact ⟨hr, hnil X listed 0 a s hr⟩
 | succ fuel ih =>
  intro X listed a s
  refine ⟨hnil X listed _ a s, fun i hi => ?_⟩
  by_cases hX : i ∈ X
  ·obtain ⟨o, d, ho, hd, hdn, hv⟩ := hob i (s.sub i hX)
   have hil := lt_of_some ho
   have hother : ∀ y ∈ X, y ≠ i → ∀ d', dstOf ops y = some d' → d' ∉ o.looksAt ops ∧ o.dst ≠ some d' := by
    intro y hy hne
    have hp := (List.all_eq_true.1 (Bool.and_eq_true_iff.1 ((List.all_eq_true.1 hpair) i (s.sub i hX))).2) y (s.sub y hy)
    have hne' : (i == y) = false := by simpa using fun e => hne (e.symm)
    rw [hne', Bool.false_or] at hp
    by_cases hyl : y < ops.size
    ·exact okPair_spec hp hi (s.pending hy hyl).2 ho
    ·intro d' hd'
     unfold dstOf at hd'
     rw [Array.getElem?_eq_none (by omega)] at hd'
     cases hd'
   have hself : d ∉ o.looksAt ops := by
    have hp := (Bool.and_eq_true_iff.1 ((List.all_eq_true.1 hpair) i (s.sub i hX))).1
    unfold selfOk at hp
    rw [ho] at hp
    simp only [hd] at hp
    simpa using hp
   have heval : ∀ t ∈ o.looksAt ops, a.tmps.getD t undef = r t := by
    intro t ht
    refine s.agree t fun x hx hxd => ?_
    by_cases hxi : x = i
    ·subst hxi
     have : dstOf ops x = some d := by unfold dstOf; rw [ho]; exact hd
     rw [this] at hxd
     exact hself ((Option.some.inj hxd).symm ▸ ht)
    ·exact (hother x hx hxi t hxd).1 ht
   have hexec : execOp a.eval o = execOp (ev r) o :=
    exec_congr (f := fun t => a.tmps.getD t undef) (g := r) (noSel_spec hns ho) (fun x hx => by cases x <;> first | rfl | exact absurd rfl (hx _)) (fun _ => rfl) (fun _ => rfl) heval
   have hwant : Region.wanted o (yielded ops a.tmps) = Region.wanted o (yl ops r) := by
    refine wanted_congr fun g want hg => ?_
    rw [yielded_yl (f := fun t => a.tmps.getD t undef) (fun _ => rfl)]
    exact yl_congr fun d' hd' => heval d' (looks_guard hg hd')
   have hnext : wpAnyIn (FR none) kk P .any ops (lift n ds Q) fuel (listed.setIfInBounds i true) (a.put o.dst (r d)) w := by
    have hni := s.pending hX hil
    refine ih (X.filter (· != i)) _ _ ⟨?_, ?_, ?_, ?_, ?_, ?_, ?_, ?_⟩
    ·exact fun x hx => s.sub x (List.mem_filter.1 hx).1
    ·exact fun x hx => s.subd x (List.mem_filter.1 hx).1
    ·simp [s.size]
    ·intro j hj
     by_cases hji : j = i
     ·subst hji
      have hc : done.contains j = true := s.subd j hX
      have h1 : (listed.setIfInBounds j true).getD j true = true := by simp [Array.getD_eq_getD_getElem?]
      rw [h1, hc]
      simp
     ·have hne : i ≠ j := fun e => hji e.symm
      have h1 : (listed.setIfInBounds i true).getD j true = listed.getD j true := by simp only [Array.getD_eq_getD_getElem?, Array.getElem?_setIfInBounds_ne hne]
      rw [h1, s.told j hj]
      congr 2
      by_cases hjX : j ∈ X
      ·have : j ∈ X.filter (· != i) := List.mem_filter.2 ⟨hjX, by simpa using hji⟩
       simp [hjX, hji]
      ·simp [hjX]
    ·have := unl_set s.size hil hni.1
     have := s.fuel
     omega
    ·simp [Act.put, hd, s.asize]
    ·simp [Act.put, hd, s.defers]
    ·intro t ht
     rw [hd]
     simp only [Act.put]
     by_cases htd : t = d
     ·subst htd
      by_cases hts : t < a.tmps.size
      ·simp [Array.getD, hts]
      ·have h1 : t < n := Nat.blt_eq.mp hdn
       have h2 := s.asize
       exact absurd (show t < a.tmps.size by rw [h2]; exact h1) hts
     ·have hne : d ≠ t := fun e => htd e.symm
      rw [Array.getD_eq_getD_getElem?, Array.getElem?_setIfInBounds_ne hne, ← Array.getD_eq_getD_getElem?]
      refine s.agree t fun x hx hxd => ?_
      by_cases hxi : x = i
      ·subst hxi
       have : dstOf ops x = some d := by unfold dstOf; rw [ho]; exact hd
       rw [this] at hxd
       exact htd (Option.some.inj hxd).symm
      ·exact ht x (List.mem_filter.2 ⟨hx, by simpa using hxi⟩) hxd
   unfold wpOpIn
   rw [ho]
   simp only
   by_cases hw : Region.wanted o (yl ops r) = true
   ·rw [if_pos (by rw [hwant]; exact hw)]
    rw [if_pos hw] at hv
    refine ⟨fun _ _ => trivial, ?_⟩
    have hsem : o.semAt (FR none).round a.eval = execOp a.eval o := by simp [Oper.semAt]
    rw [hsem, hexec, hv, Oper.uponIn_value]
    exact hnext
   ·rw [if_neg (by rw [hwant]; exact hw)]
    rw [if_neg hw] at hv
    refine ⟨fun _ _ => trivial, ?_⟩
    rw [← hv]
    exact hnext
  ·exact hrest X listed fuel a s i hi hX
def StepEI (P : Program) (n : Nat) (ops : Array Oper) (Q : Po) (done pure lds : List Nat) (r : Fr) (w : World) (k : Nat) : Prop :=
 ∃ o, ops[k]? = some o ∧ WLI P n ops (fun e r' w' => e = .normal ∧ FLI P n ops Q (k :: done) (leave ops k pure) (leave ops k lds) r' w') [o] r w
theorem fli_eff {done pure lds : List Nat} (ks : List Nat) (hks : readyOf ops done = ks) (hne : ks ≠ []) (hb : backward ops = true) (hns : noSel ops = true) (hpair : okAll ops (pure ++ lds) = true)
  (heff : (ks.all fun k => effOk ops (pure ++ lds) k) = true)
  (hlds : ∀ i ∈ lds, obl P n ops r w i) (hk : ∀ k ∈ ks, StepEI P n ops Q done pure lds r w k) : FLI P n ops Q done pure lds r w := by
 intro hpure kk ds X listed fuel a s
 refine fli_core hns hpair hpure hlds ?_ ?_ fuel X listed a s
 ·intro X listed fuel a s hr
  exfalso
  obtain ⟨k, hk⟩ := List.exists_mem_of_ne_nil ks hne
  rw [← hks] at hk
  obtain ⟨h1, h2⟩ := List.mem_filter.1 hk
  have hl := List.mem_range.1 h1
  have h3 := ready_nil hb s.size hr k hl
  rw [s.told k hl] at h3
  simp only [Bool.and_eq_true, Bool.not_eq_true'] at h2 h3
  rw [h2.1] at h3
  exact Bool.noConfusion h3.1
 ·intro X listed fuel a s i hi hX
  obtain ⟨hil, hni, o, ho, hdeps⟩ := mem_ready.1 hi
  have hnd : done.contains i = false := by
   have h3 := s.told i hil
   have h5 : X.contains i = false := by simpa using hX
   rw [hni, h5] at h3
   simpa using h3.symm
  have hik : i ∈ ks := by
   rw [← hks]
   refine List.mem_filter.2 ⟨List.mem_range.2 hil, ?_⟩
   rw [hnd]
   simp only [Bool.not_false, Bool.true_and]
   unfold depsIn
   rw [ho]
   refine Array.all_eq_true'.2 fun e he => ?_
   cases hbe : Region.binds .any e with
   | false => rfl
   | true =>
    have h1 := hdeps e he hbe
    have hel : e.on < ops.size := by
     have h2 := (List.all_eq_true.1 hb) i (List.mem_range.2 hil)
     rw [ho] at h2
     have h3 := Array.all_eq_true'.1 h2 e he
     simp only [hbe, Bool.not_true, Bool.false_or] at h3
     have : e.on < i := Nat.blt_eq.mp h3
     omega
    have h2 := s.told e.on hel
    have hlt : e.on < listed.size := by have := s.size; omega
    have h3 : listed.getD e.on true = true := by
     simp only [Array.getD, hlt, dite_true] at h1 ⊢
     exact h1
    rw [h3] at h2
    have h4 := h2.symm
    rw [Bool.and_eq_true] at h4
    rw [h4.1]
    rfl
  obtain ⟨o', ho', hwl⟩ := hk i hik
  rw [ho] at ho'
  obtain rfl := Option.some.inj ho'
  have heffi := (List.all_eq_true.1 heff) i hik
  have hnotX : ∀ y ∈ X, behind ops y i = false := by
   intro y hy
   cases hby : behind ops y i with
   | false => rfl
   | true =>
    have h1 := behind_listed hi hby
    have hyl : y < ops.size := by
     rcases Nat.lt_or_ge y ops.size with h' | h'
     ·exact h'
     ·have : y < listed.size := by
       rcases Nat.lt_or_ge y listed.size with h'' | h''
       ·exact h''
       ·simp [Array.getD, Nat.not_lt.mpr h''] at h1
      have := s.size
      omega
    rw [(s.pending hy hyl).2] at h1
    cases h1
  have hpairE : ∀ y ∈ X, ∀ d, dstOf ops y = some d → d ∉ o.looksAt ops ∧ o.dst ≠ some d := by
   intro y hy d hd
   have h1 := (List.all_eq_true.1 heffi) y (s.sub y hy)
   rw [Bool.and_eq_true] at h1
   have h2 := h1.2
   rw [hnotX y hy, Bool.false_or, Bool.and_eq_true] at h2
   have hyl : y < ops.size := by
    unfold dstOf at hd
    cases hoy : ops[y]? with
    | none => rw [hoy] at hd; cases hd
    | some oy => exact lt_of_some hoy
   exact okPair_spec h2.1 hi (s.pending hy hyl).2 ho d hd
  have heval : ∀ t ∈ o.looksAt ops, a.tmps.getD t undef = r t := fun t ht => s.agree t fun x hx hxd => (hpairE x hx t hxd).1 ht
  -- the frame in which all that is taken is done
  obtain ⟨g, hg⟩ : ∃ g : Act, Has n ds g r := by
   refine ⟨⟨((List.range n).map r).toArray, ds⟩, by simp, fun t => ?_, rfl⟩
   by_cases htn : t < n
   ·simp [Array.getD, htn]
   ·have h0 : r t = undef := by
     have h1 := s.agree t (fun x hx hxd => by
      have hob : obl P n ops r w x := by
       rcases List.mem_append.1 (s.sub x hx) with h | h
       ·exact hpure x h w
       ·exact hlds x h
      obtain ⟨ox, dx, hox, hdx, hdn, _⟩ := hob
      have e1 : dx = t := by
       unfold dstOf at hxd
       rw [hox] at hxd
       simp only [Option.bind_some, hdx] at hxd
       exact Option.some.inj hxd
      have e2 : dx < n := Nat.blt_eq.mp hdn
      exact htn (e1 ▸ e2))
     rw [← h1]
     have := s.asize
     simp [Array.getD, show ¬ t < a.tmps.size by omega]
    simp [Array.getD, htn, h0]
  have hexec : execOp a.eval o = execOp g.eval o := by
   rw [hg.eval]
   exact exec_congr (f := fun t => a.tmps.getD t undef) (g := r) (noSel_spec hns ho) (fun x hx => by cases x <;> first | rfl | exact absurd rfl (hx _)) (fun _ => rfl) (fun _ => rfl) heval
  have hwant : Region.wanted o (yielded ops a.tmps) = Region.wanted o (yielded ops g.tmps) := by
   refine wanted_congr fun g' want hg' => ?_
   rw [yielded_yl (f := fun t => a.tmps.getD t undef) (fun _ => rfl), yielded_yl hg.val]
   exact yl_congr fun d' hd' => heval d' (looks_guard hg' hd')
  -- behind the effect
  have hnext : ∀ v w', (∃ r', Has n ds (g.put o.dst v) r' ∧ FLI P n ops Q (i :: done) (leave ops i pure) (leave ops i lds) r' w') →
    wpAnyIn (FR none) kk P .any ops (lift n ds Q) fuel (listed.setIfInBounds i true) (a.put o.dst v) w' := by
   rintro v w' ⟨r', hr', hfl⟩
   have hval : ∀ t, o.dst ≠ some t → r' t = r t := by
    intro t ht
    rw [← hr'.val, ← hg.val]
    cases hod : o.dst with
    | none => rfl
    | some d =>
     have hne : d ≠ t := fun e => ht (by rw [hod, e])
     simp only [Act.put]
     rw [Array.getD_eq_getD_getElem?, Array.getElem?_setIfInBounds_ne hne, ← Array.getD_eq_getD_getElem?]
   refine hfl (fun j hj w'' => ?_) kk ds X _ _ _ ⟨?_, ?_, ?_, ?_, ?_, ?_, ?_, ?_⟩
   ·obtain ⟨hj1, hj2⟩ := List.mem_filter.1 hj
    obtain ⟨oj, dj, hoj, hdj, hdn, hv⟩ := hpure j hj1 w''
    have h1 := (List.all_eq_true.1 heffi) j (List.mem_append.2 (.inl hj1))
    rw [Bool.and_eq_true] at h1
    have h2 := h1.2
    simp only [Bool.not_eq_true'] at hj2
    rw [hj2, Bool.false_or, Bool.and_eq_true, ho, hoj] at h2
    have h3 := h2.2
    have hap : ∀ d, o.dst = some d → d ∉ oj.looksAt ops ∧ oj.dst ≠ some d := by
     intro d hd
     simp only [hd, Bool.and_eq_true, Bool.not_eq_true', bne_iff_ne, ne_eq] at h3
     exact ⟨by simpa using h3.1, h3.2⟩
    have hl : ∀ t ∈ oj.looksAt ops, r' t = r t := fun t ht => hval t fun e => (hap t e).1 ht
    have hexec' : execOp (ev r') oj = execOp (ev r) oj :=
     exec_congr (f := r') (g := r) (noSel_spec hns hoj) (fun x hx => by cases x <;> first | rfl | exact absurd rfl (hx _)) (fun _ => rfl) (fun _ => rfl) hl
    have hw' : Region.wanted oj (yl ops r') = Region.wanted oj (yl ops r) := wanted_congr fun g' want hg' => yl_congr fun d' hd' => hl d' (looks_guard hg' hd')
    refine ⟨oj, dj, hoj, hdj, hdn, ?_⟩
    rw [hw', hexec', hval dj fun e => (hap dj e).2 hdj]
    exact hv
   ·intro x hx
    have hb' := hnotX x hx
    have hkeep : ∀ l : List Nat, x ∈ l → x ∈ leave ops i l := fun l hxl => List.mem_filter.2 ⟨hxl, by rw [hb']; rfl⟩
    rcases List.mem_append.1 (s.sub x hx) with h | h
    ·exact List.mem_append.2 (.inl (hkeep _ h))
    ·exact List.mem_append.2 (.inr (hkeep _ h))
   ·intro x hx
    have := s.subd x hx
    simp only [List.contains_cons, this, Bool.or_true]
   ·simp [s.size]
   ·intro j hj
    by_cases hji : j = i
    ·subst hji
     have h1 : (listed.setIfInBounds j true).getD j true = true := by simp [Array.getD_eq_getD_getElem?]
     have h5 : X.contains j = false := by simpa using hX
     rw [h1, h5]
     simp
    ·have hne : i ≠ j := fun e => hji e.symm
     have h1 : (listed.setIfInBounds i true).getD j true = listed.getD j true := by simp only [Array.getD_eq_getD_getElem?, Array.getElem?_setIfInBounds_ne hne]
     have hf : (j == i) = false := by simpa using hji
     rw [h1, s.told j hj]
     simp only [List.contains_cons, hf, Bool.false_or]
   ·have := unl_set s.size hil hni
    have := s.fuel
    omega
   ·cases hod : o.dst with
    | none => simp [Act.put, s.asize]
    | some d => simp [Act.put, s.asize]
   ·cases hod : o.dst with
    | none => simp [Act.put, s.defers]
    | some d => simp [Act.put, s.defers]
   ·intro t ht
    cases hod : o.dst with
    | none =>
     simp only [Act.put]
     rw [s.agree t ht, hval t (by rw [hod]; intro h; cases h)]
    | some d =>
     by_cases htd : t = d
     ·subst htd
      rw [← hr'.val, hod]
      simp only [Act.put, Array.getD_eq_getD_getElem?, Array.getElem?_setIfInBounds_self]
      have h1 := s.asize
      have h2 := hg.size
      rw [h1, h2]
     ·have hne : d ≠ t := fun e => htd e.symm
      rw [hval t (by rw [hod]; exact fun e => hne (Option.some.inj e))]
      simp only [Act.put]
      rw [Array.getD_eq_getD_getElem?, Array.getElem?_setIfInBounds_ne hne, ← Array.getD_eq_getD_getElem?]
      exact s.agree t ht
  have hd0 : a.defers = g.defers := by rw [s.defers, hg.defers]
  have h := hwl kk ds g hg
  unfold wpListIn at h
  unfold wpOpIn
  rw [ho]
  simp only
  rw [hwant]
  by_cases hw : Region.wanted o (yielded ops g.tmps) = true
  ·rw [if_pos hw] at h ⊢
   obtain ⟨_, h⟩ := h
   refine ⟨fun _ _ => trivial, ?_⟩
   have hsem : ∀ e : Operand → Value, o.semAt (FR none).round e = execOp e o := fun e => by simp [Oper.semAt]
   rw [hsem] at h ⊢
   rw [hexec]
   generalize (execOp g.eval o).run P w = x at *
   cases x with
   | ok v w' =>
    cases v <;> simp only [Oper.uponIn] at h ⊢
    case value v =>
     obtain ⟨r', h1, _, h2⟩ := h
     exact hnext v w' ⟨r', h1, h2⟩
    case skip =>
     obtain ⟨r', h1, _, h2⟩ := h
     exact hnext _ w' ⟨r', h1, h2⟩
    case enter f args =>
     refine ⟨h.1, CallsIn.mono h.2 ?_⟩
     intro e w'' he
     cases e with
     | returned v =>
      obtain ⟨r', h1, _, h2⟩ := he
      exact hnext v w'' ⟨r', h1, h2⟩
     | panicked c =>
      obtain ⟨_, _, hx, _⟩ := he
      cases hx
     | outgrown =>
      obtain ⟨_, _, _, _, hx, _⟩ := he
      cases hx
    case row row args =>
     refine ⟨h.1, RowsIn.mono h.2 ?_⟩
     rintro v w'' ⟨r', h1, _, h2⟩
     exact hnext v w'' ⟨r', h1, h2⟩
    case round l f tmps assign body =>
     refine ⟨h.1, RoundIn.mono h.2 ?_⟩
     intro e w'' he
     cases e with
     | returned v =>
      obtain ⟨r', h1, _, h2⟩ := he
      exact hnext v w'' ⟨r', h1, h2⟩
     | panicked c =>
      obtain ⟨_, _, hx, _⟩ := he
      cases hx
     | outgrown =>
      obtain ⟨_, _, _, _, hx, _⟩ := he
      cases hx
    case defer d =>
     obtain ⟨r', h1, _, h2⟩ := h
     have := h1.defers
     cases hod : o.dst <;> simp [Act.put, hod, hg.defers] at this
   | halt x w' =>
    cases x <;> simp only [Oper.uponIn] at h ⊢
    obtain ⟨_, _, hx, _⟩ := h
    cases hx
  ·rw [if_neg hw] at h ⊢
   obtain ⟨_, r', h1, _, h2⟩ := h
   exact ⟨fun _ _ => trivial, hnext _ w ⟨r', h1, h2⟩⟩
theorem fli_end {done pure lds : List Nat} (hall : ((List.range ops.size).all done.contains) = true) (hb : backward ops = true) (hns : noSel ops = true) (hpair : okAll ops (pure ++ lds) = true)
  (hlds : ∀ i ∈ lds, obl P n ops r w i) (h : Q .normal r w) : FLI P n ops Q done pure lds r w := by
 intro hpure kk ds X listed fuel a s
 have hin : ∀ X listed fuel a, RS n ops done (pure ++ lds) r X listed fuel ds a → Region.ready .any ops listed = [] → lift n ds Q .normal a w := by
  intro X listed fuel a s hr
  refine ⟨r, ⟨s.asize, fun t => s.agree t fun x hx hxd => ?_, s.defers⟩, h⟩
  unfold dstOf at hxd
  cases ho : ops[x]? with
  | none => rw [ho] at hxd; cases hxd
  | some o =>
   have hl := lt_of_some ho
   have h1 := ready_nil hb s.size hr x hl
   have h2 := (s.pending hx hl).1
   rw [h1] at h2
   cases h2
 refine fli_core hns hpair hpure hlds hin ?_ fuel X listed a s
 intro X listed fuel a s i hi hX
 obtain ⟨h1, h2, _⟩ := mem_ready.1 hi
 have h3 := s.told i h1
 have h4 := (List.all_eq_true.1 hall) i (List.mem_range.2 h1)
 have h5 : X.contains i = false := by simpa using hX
 rw [h4, h5, h2] at h3
 cases h3
theorem fli_pure {done pure lds : List Nat} {d : Nat} {v : Value} (i : Nat) (hd : dstOf ops i = some d) (hns : noSel ops = true) (hnd : done.contains i = false) (hf : freshB ops pure i d = true)
  (hob : ∀ w', obl P n ops (upd d v r) w' i) (k : FLI P n ops Q (i :: done) (i :: pure) lds (upd d v r) w) : FLI P n ops Q done pure lds r w := by
 intro hpure kk ds X listed fuel a s
 refine k (fun j hj w' => ?_) kk ds (i :: X) listed fuel a (s.taken hd hnd fun x hx => ?_)
 ·rcases List.mem_cons.1 hj with h | h
  ·subst h; exact hob w'
  ·have := freshB_spec hf h
   exact obl_upd (hpure j h w') hns this.1 this.2
 ·rcases hx with h | h
  ·subst h; simp
  ·rcases List.mem_append.1 h with h | h
   ·exact List.mem_append.2 (.inl (List.mem_cons_of_mem _ h))
   ·exact List.mem_append.2 (.inr h)
theorem fli_load {done pure lds : List Nat} {d : Nat} {v : Value} (i : Nat) (hd : dstOf ops i = some d) (hns : noSel ops = true) (hnd : done.contains i = false) (hf : freshB ops pure i d = true)
  (k : FLI P n ops Q (i :: done) pure (i :: lds) (upd d v r) w) : FLI P n ops Q done pure lds r w := by
 intro hpure kk ds X listed fuel a s
 refine k (fun j hj w' => ?_) kk ds (i :: X) listed fuel a (s.taken hd hnd fun x hx => ?_)
 ·have := freshB_spec hf hj
  exact obl_upd (hpure j hj w') hns this.1 this.2
 ·rcases hx with h | h
  ·subst h; simp
  ·rcases List.mem_append.1 h with h | h
   ·exact List.mem_append.2 (.inl h)
   ·exact List.mem_append.2 (.inr (List.mem_cons_of_mem _ h))
end
section
variable {P : Program} {n : Nat} {ops : Array Oper} {Q : Po} {r : Fr} {w : World} {done pure lds : List Nat} {d : Nat} {op : Op} {ty : TypeId} {pos : String} {after : Array Edge} {v : Value}
theorem fli_val (i : Nat) (ho : ops[i]? = some ⟨some d, op, ty, pos, after, none⟩) (hv : ∀ w', Val P op ty r w' v w') (hd : Nat.blt d n = true) (hc : chkV ops done pure i d = true)
  (k : FLI P n ops Q (i :: done) (i :: pure) lds (upd d v r) w) : FLI P n ops Q done pure lds r w := by
 simp only [chkV, Bool.and_eq_true, Bool.not_eq_true'] at hc
 obtain ⟨⟨⟨h1, h2⟩, h3⟩, h4⟩ := hc
 exact fli_pure i (by unfold dstOf; rw [ho]; rfl) h1 h2 h3 (fun w' => obl_of h4 h1 ho hd (hv w')) k
theorem fli_ld (i : Nat) (ho : ops[i]? = some ⟨some d, op, ty, pos, after, none⟩) (_hv : Val P op ty r w v w) (hc : chkV ops done pure i d = true)
  (k : FLI P n ops Q (i :: done) pure (i :: lds) (upd d v r) w) : FLI P n ops Q done pure lds r w := by
 simp only [chkV, Bool.and_eq_true, Bool.not_eq_true'] at hc
 obtain ⟨⟨⟨h1, h2⟩, h3⟩, _⟩ := hc
 exact fli_load i (by unfold dstOf; rw [ho]; rfl) h1 h2 h3 k
theorem fli_eff1 (k : Nat) (pure' lds' : List Nat) (hc : chkE1 ops done pure lds k pure' lds' = true) (hl : Obls P n ops r w lds) {o : Oper} (ho : ops[k]? = some o)
  (h : WLI P n ops (fun e r' w' => e = .normal ∧ FLI P n ops Q (k :: done) pure' lds' r' w') [o] r w) : FLI P n ops Q done pure lds r w := by
 simp only [chkE1, chkE, Bool.and_eq_true, beq_iff_eq] at hc
 obtain ⟨⟨⟨⟨⟨⟨⟨h1, h2⟩, h3⟩, h4⟩, h5⟩, h6⟩, h7⟩, h8⟩ := hc
 refine fli_eff [k] h1 (by simp) h3 h4 h5 h6 hl.all fun j hj => ?_
 have : j = k := by simpa using hj
 subst this
 refine ⟨o, ho, ?_⟩
 rw [h7, h8]
 exact h
theorem fli_nil (hc : chkN ops done pure lds = true) (hl : Obls P n ops r w lds) (h : Q .normal r w) : FLI P n ops Q done pure lds r w := by
 simp only [chkN, Bool.and_eq_true] at hc
 obtain ⟨⟨⟨h1, h2⟩, h3⟩, h4⟩ := hc
 exact fli_end h1 h2 h3 h4 hl.all h
theorem wc_drawI {id : Nat} {l : List Oper} (hm : P.follows .mixedOrders = true) (h : FLI P n l.toArray Q [] [] [] r w.drew) : WC P n Q (.region id l.toArray true) r w := by
 intro ds a ha
 refine wpIn_wide (n := 9).1 (wpIn_region_draw fun t => ?_)
 simp only [Region.schedule, hm, Bool.true_or, if_true]
 refine wpAnyIn_sound l.toArray.size t _ a _ ?_
 refine h (by simp) 9 ds [] _ _ a ⟨by simp, by simp, by simp, fun i hi => ?_, ?_, ha.size, ha.defers, fun t _ => ha.val t⟩
 ·rw [getD_replicate_false _ _ hi]; rfl
 ·unfold unl
  exact Nat.le_trans (List.countP_le_length) (by simp)
end
end K
end Go.Proofs.Ytonlmjpenonabaa

namespace Go.Proofs.Ytonlmjpenonabaa
open Go Go.RowKit
namespace K
section
variable {P : Program} {n : Nat} {ops : Array Oper} {Q : Po} {rest : List Oper} {r : Fr} {w : World} {d : Nat} {ty : TypeId} {pos : String} {after : Array Edge} {m0 m : Mem} {F : List Nat} {w0 : World} {Es : List Ent}
theorem wl_appBi (i : Nat) {T U E bytes j : Nat} {D : TypeDesc} {v x : Value} {s y : Operand} {l l2 : List UInt8} (st : St m0 m F w0 w Es) (hi : Es[i]? = some (rowE v E 1 l.length (bs l))) (hT : P.underlying T = some (.slice E)) (hU : P.underlying U = some D) (hD : D = .string ∨ ∃ E', D = .slice E') (tf : TyF P E false 1 bytes) (hz : TyZ P E (.int .u8 0))
  (hs : ev r s = v) (hy : ev r y = x) (src : Src P w x 1 j (bs l2)) (hb : (l.length + l2.length) * bytes ≤ 140737488355328) (h63 : l.length + l2.length ≤ 9223372036854775807) (hd : Nat.blt d n = true)
  (k : ∀ v' w', St m0 m F w0 w' (Es.set i (rowE v' E 1 (l ++ l2).length (bs (l ++ l2)))) → v'.oneCell' = true → WL P n ops Q rest (upd d v' r) w') :
  WL P n ops Q (⟨some d, .call ⟨.builtin .append, #[s, y], #[T, U]⟩, ty, pos, after, none⟩ :: rest) r w := by
 have hj : l2.length = j := by have := src.length; simpa [bs] using this
 subst hj
 refine wl_append (news := bs l2) i st hi hT hU hD tf hz rfl hs hy src h63 hb hd ?_
 intro v' w' _ st'
 have e : bs l ++ bs l2 = bs (l ++ l2) := by simp [bs]
 rw [e, show l.length + l2.length = (l ++ l2).length by simp] at st'
 have hlt : i < Es.length := by
  rcases Nat.lt_or_ge i Es.length with h | h
  ·exact h
  ·rw [List.getElem?_eq_none h] at hi; cases hi
 have hrow : (rowE v' E 1 (l ++ l2).length (bs (l ++ l2))).holds w' := st'.at (i := i) (by simp [hlt])
 exact k v' w' st' (row_one hrow)
theorem St.keepB (st : St m0 m [] w0 w Es) {i : Nat} {v : Value} {E : TypeId} {l : List UInt8} (hi : Es[i]? = some (rowE v E 1 l.length (bs l))) :
  ∃ m', Grow m m' w0.heap.size ∧ SlM m' v 1 l.length (bs l) ∧ St m0 m' [] w0 w (Es.eraseIdx i) := by
 obtain ⟨m2, hg2, hm2, st2⟩ := st.freezeR hi (by simp)
 exact ⟨m2, hg2, row_SlM (m := m2) (st.at hi) hm2, st2⟩
end
end K
end Go.Proofs.Ytonlmjpenonabaa

namespace Go.Proofs.Ytonlmjpenonabaa
open Go Go.RowKit K
theorem v_to {P : Program} {r : Fr} {w w' : World} {ty : TypeId} {o : Op} {v v' : Value} (h : Val P o ty r w v w') (e : v = v') : Val P o ty r w v' w' := e ▸ h
section
variable {P : Program} {r : Fr} {w : World} {ty : TypeId}
theorem v_eqlF {T U : TypeId} {x y : Operand} {k : IntKind} {a b : Int} (h : ¬ a = b) (hx : ev r x = .int k a) (hy : ev r y = .int k b) : Val P (.binOp .eql T x y U) ty r w (.bool false) w := by
 have := v_eql (P := P) (T := T) (U := U) (ty := ty) (w := w) hx hy
 rwa [decide_eq_false h] at this
theorem v_eqlT {T U : TypeId} {x y : Operand} {k : IntKind} {a b : Int} (h : a = b) (hx : ev r x = .int k a) (hy : ev r y = .int k b) : Val P (.binOp .eql T x y U) ty r w (.bool true) w := by
 have := v_eql (P := P) (T := T) (U := U) (ty := ty) (w := w) hx hy
 rwa [decide_eq_true h] at this
end
section
variable {P : Program} {r : Fr} {w : World} {ty : TypeId}
theorem v_neqF {T U : TypeId} {x y : Operand} {k : IntKind} {a b : Int} (h : a = b) (hx : ev r x = .int k a) (hy : ev r y = .int k b) : Val P (.binOp .neq T x y U) ty r w (.bool false) w := by
 have := v_neq (P := P) (T := T) (U := U) (ty := ty) (w := w) hx hy
 rwa [decide_eq_false (not_not_intro h)] at this
end
end Go.Proofs.Ytonlmjpenonabaa

namespace Go.Proofs.Ytonlmjpenonabaa
open Go Go.RowKit K SH PT
def z32 : By := List.replicate 32 0
def digs (L : List By) : List Value := L.flatMap bs
def D32 (L : List By) : Prop := ∀ x ∈ L, x.length = 32
theorem length_digs : ∀ {L : List By}, D32 L → (digs L).length = L.length * 32
 | [], _ => rfl
 | x :: L, h => by
  have h1 := h x (by simp)
  have h2 := length_digs (L := L) fun y hy => h y (by simp [hy])
  simp only [digs, List.flatMap_cons, List.length_append, length_bs, List.length_cons] at h2 ⊢
  omega
theorem D32.app {L M : List By} (h : D32 L) (h' : D32 M) : D32 (L ++ M) := fun x hx => (List.mem_append.1 hx).elim (h x) (h' x)
theorem D32.one {d : By} (h : d.length = 32) : D32 [d] := fun x hx => by simp at hx; rw [hx, h]
theorem D32.take {L : List By} (h : D32 L) (i : Nat) : D32 (L.take i) := fun x hx => h x (List.mem_of_mem_take hx)
theorem D32.get {L : List By} (h : D32 L) {i : Nat} (hi : i < L.length) : L[i].length = 32 := h _ (List.getElem_mem hi)
theorem digs_app {L M : List By} : digs (L ++ M) = digs L ++ digs M := by simp [digs]
theorem digs_one {d : By} : digs [d] = bs d := by simp [digs]
theorem cells_digs : ∀ {L : List By}, D32 L → ∀ {i : Nat} (hi : i < L.length), cellsAt (digs L) 32 i = bs L[i]
 | [], _, _, hi => by simp at hi
 | x :: L, h, 0, _ => by
  have h1 := h x (by simp)
  simp only [cellsAt, digs, List.flatMap_cons, Nat.zero_mul, List.drop_zero, List.getElem_cons_zero]
  rw [List.take_left' (by rw [length_bs, h1])]
 | x :: L, h, i + 1, hi => by
  have h1 := h x (by simp)
  have h2 := cells_digs (L := L) (fun y hy => h y (by simp [hy])) (i := i) (by simp at hi; omega)
  rw [List.getElem_cons_succ, ← h2]
  simp only [cellsAt, digs, List.flatMap_cons]
  rw [show (i + 1) * 32 = (bs x).length + i * 32 by rw [length_bs, h1]; omega, List.drop_append, List.drop_eq_nil_of_le (by omega), List.nil_append, Nat.add_sub_cancel_left]
def DigM (m : Mem) (v : Value) (L : List By) : Prop := D32 L ∧ SlM m v 32 L.length (digs L)
theorem DigM.mono {m m' : Mem} {v : Value} {L : List By} (h : DigM m v L) (hm : ∀ k o, m k = some o → m' k = some o) : DigM m' v L := ⟨h.1, h.2.mono hm⟩
theorem DigM.nil {m : Mem} : DigM m (.slice none 0 0) [] := ⟨fun _ h => (by simp at h), SlM.nil⟩
theorem DigM.sl {m : Mem} {v : Value} {L : List By} (h : DigM m v L) : ∃ a cap, v = .slice a L.length cap := by
 obtain ⟨_, _, a, cap, rfl, _⟩ := h
 exact ⟨a, cap, rfl⟩
theorem DigM.at {m : Mem} {a : Option Addr} {k cap : Nat} {L : List By} (h : DigM m (.slice a k cap) L) {i : Nat} (hi : i < L.length) :
  ∃ b o, a = some ⟨b, o, none⟩ ∧ ∀ {w : World} (_ : Im m w), Reads Try.prog w 28 ⟨b, o + i * 32, none⟩ (arr L[i]) := by
 obtain ⟨b, o, cap', hv, _, hr⟩ := h.2.elem Try.prog (i := i) hi (by omega)
 simp only [Value.slice.injEq] at hv
 refine ⟨b, o, hv.1, fun {w} him => ?_⟩
 have := hr him (off := 0) (v' := arr L[i]) TF.t28 (by
  rw [cells_digs h.1 hi]
  exact getV_all (by simp [length_bs, h.1.get hi]))
 simpa using this
abbrev digE (v : Value) (L : List By) : Ent := rowE v 28 32 L.length (digs L)
section
variable {n : Nat} {ops : Array Oper} {Q : Po} {rest : List Oper} {r : Fr} {w : World} {d : Nat} {ty : TypeId} {pos : String} {after : Array Edge} {m0 m : Mem} {F : List Nat} {w0 : World} {Es : List Ent}
theorem wl_digOne {x : Operand} (c : By) (hc : c.length = 32) (hx : ev r x = arr c) (st : St m0 m F w0 w Es) (hd : Nat.blt d n = true)
  (k : ∀ b w', St m0 m F w0 w' (K.blk b (bs c).toArray 28 :: Es) → WL Try.prog n ops Q rest (upd d (.slice (some ⟨b, 0, none⟩) 1 1) r) w') :
  WL Try.prog n ops Q (⟨some d, .buildSlice 22 1 #[(0, x)], ty, pos, after, none⟩ :: rest) r w := by
 refine wl_buildSlice (c' := (bs c).toArray) [(0, arr c)] Try.underlying22 TF.t28 TF.z28 (by decide) (by decide) (by simp [hx]) ⟨0, 32, rfl, by rw [size_arr, hc], by simp [size_madeCells], ?_⟩ st hd k
 exact setSeg_all (by simp [size_madeCells, arr, Value.cells, length_bs, hc])
theorem wl_digApp (i : Nat) {b cap : Nat} {v : Value} {s y : Operand} {L : List By} {c : By} (st : St m0 m F w0 w (K.blk b (bs c).toArray 28 :: Es)) (hi : Es[i]? = some (digE v L)) (hc : c.length = 32)
  (hs : ev r s = v) (hy : ev r y = .slice (some ⟨b, 0, none⟩) 1 cap) (hb : L.length ≤ 1099511627776) (hd : Nat.blt d n = true)
  (k : ∀ v' w', St m0 m F w0 w' (Es.set i (digE v' (L ++ [c]))) → v'.oneCell' = true → WL Try.prog n ops Q rest (upd d v' r) w') :
  WL Try.prog n ops Q (⟨some d, .call ⟨.builtin .append, #[s, y], #[22, 22]⟩, ty, pos, after, none⟩ :: rest) r w := by
 refine wl_append (news := bs c) (i + 1) st hi Try.underlying22 Try.underlying22 (.inr ⟨_, rfl⟩) TF.t28 TF.z28 rfl hs hy (st.srcArr (off := 0) 0 rfl (by rw [length_bs, hc]) (fun j u hj => by simpa using hj) (one_bs _)) (by omega) (by omega) hd ?_
 intro v' w' _ st'
 have e : digs L ++ bs c = digs (L ++ [c]) := by rw [digs_app, digs_one]
 have e2 : L.length + 1 = (L ++ [c]).length := by simp
 have st2 := st'.drop 0
 rw [e, e2] at st2
 have st3 : St m0 m F w0 w' (Es.set i (digE v' (L ++ [c]))) := st2
 have hlt : i < Es.length := by
  rcases Nat.lt_or_ge i Es.length with h | h
  ·exact h
  ·rw [List.getElem?_eq_none h] at hi; cases hi
 have hrow : (digE v' (L ++ [c])).holds w' := st3.at (i := i) (by simp [hlt])
 exact k v' w' st3 (row_one hrow)
theorem K.St.nilDig (st : St m0 m F w0 w Es) : St m0 m F w0 w (digE (.slice Option.none 0 0) [] :: Es) := nilRow st 28 32
theorem K.St.keepDig (st : St m0 m [] w0 w Es) {i : Nat} {v : Value} {L : List By} (hi : Es[i]? = some (digE v L)) (hL : D32 L) :
  ∃ m', Grow m m' w0.heap.size ∧ DigM m' v L ∧ St m0 m' [] w0 w (Es.eraseIdx i) := by
 obtain ⟨m2, hg2, hm2, st2⟩ := st.freezeR hi (by simp)
 exact ⟨m2, hg2, ⟨hL, row_SlM (m := m2) (st.at hi) hm2⟩, st2⟩
end
theorem DigM.rd {m : Mem} {a : Option Addr} {k cap : Nat} {L : List By} (h : DigM m (.slice a k cap) L) {b o i : Nat} {d : By} (ha : a = some ⟨b, o, none⟩) (hi : i < L.length) (hd : L[i] = d) {w : World} (him : Im m w) :
  Reads Try.prog w 28 ⟨b, o + i * 32, none⟩ (arr d) := by
 obtain ⟨b', o', ha', hr⟩ := h.at hi
 rw [ha] at ha'
 cases ha'
 rw [← hd]
 exact hr him
theorem DigM.ptr {m : Mem} {a : Option Addr} {k cap : Nat} {L : List By} (h : DigM m (.slice a k cap) L) (hi : 0 < L.length) : ∃ b o, a = some ⟨b, o, none⟩ := by
 obtain ⟨b, o, ha, _⟩ := h.at hi
 exact ⟨b, o, ha⟩
structure Prf where
 S : List By
 E : Int
 I : By
 V : By
def prC (sv : Value) (E : Int) (I V : By) : Array Value := (sv :: .int .i64 E :: (bs I ++ bs V)).toArray
def PrM (m : Mem) (v : Value) (p : Prf) : Prop := ∃ sv, v = .agg (prC sv p.E p.I p.V) ∧ DigM m sv p.S ∧ p.I.length = 32 ∧ p.V.length = 32
theorem PrM.mono {m m' : Mem} {v : Value} {p : Prf} (h : PrM m v p) (hm : ∀ k o, m k = some o → m' k = some o) : PrM m' v p := by
 obtain ⟨sv, h1, h2, h3, h4⟩ := h
 exact ⟨sv, h1, h2.mono hm, h3, h4⟩
end Go.Proofs.Ytonlmjpenonabaa

namespace Go.Proofs.Ytonlmjpenonabaa
open Go Go.RowKit K SH PT
inductive Tr
 | e
 | l (i v : By)
 | f (a b : Tr)
namespace Tr
def n : Tr → Nat
 | e => 0
 | l _ _ => 1
 | f a b => a.n + b.n
def root : Tr → By
 | e => sum [69]
 | l i v => sum (76 :: (i ++ v))
 | f a b => sum (78 :: (a.root ++ b.root))
def ht : Tr → Nat
 | e => 0
 | l _ _ => 0
 | f a b => max a.ht b.ht + 1
end Tr
def nilP : Value := .pointer none
def ptrP (p : Nat) : Value := .pointer (some ⟨p, 0, none⟩)
def trC (n : Nat) (i v : By) (lp rp : Value) (r : By) : Array Value := (Value.int .i64 n :: (bs i ++ (bs v ++ (lp :: rp :: bs r)))).toArray
theorem length_root (t : Tr) : t.root.length = 32 := by cases t <;> exact length_sum _
inductive TreeM (m : Mem) : Nat → Tr → Prop
 | mkE {p : Nat} : m p = some (.cells (trC 0 z32 z32 nilP nilP (Tr.root .e)) 97 (0, 0)) → TreeM m p .e
 | mkL {p : Nat} {i v : By} : i.length = 32 → v.length = 32 → m p = some (.cells (trC 1 i v nilP nilP (Tr.root (.l i v))) 97 (0, 0)) → TreeM m p (.l i v)
 | mkF {p pa pb : Nat} {a b : Tr} : TreeM m pa a → TreeM m pb b → m p = some (.cells (trC (Tr.n (.f a b)) z32 z32 (ptrP pa) (ptrP pb) (Tr.root (.f a b))) 97 (0, 0)) → TreeM m p (.f a b)
theorem TreeM.mono {m m' : Mem} (hm : ∀ k o, m k = some o → m' k = some o) {t : Tr} {p : Nat} (h : TreeM m p t) : TreeM m' p t := by
 induction h with
 | mkE h => exact .mkE (hm _ _ h)
 | mkL h1 h2 h => exact .mkL h1 h2 (hm _ _ h)
 | mkF _ _ h ha hb => exact .mkF ha hb (hm _ _ h)
theorem TreeM.leaf {m : Mem} {p : Nat} {i v : By} (h : TreeM m p (.l i v)) : i.length = 32 ∧ v.length = 32 ∧ m p = some (.cells (trC 1 i v nilP nilP (Tr.root (.l i v))) 97 (0, 0)) := by
 cases h with
 | mkL h1 h2 h => exact ⟨h1, h2, h⟩
theorem TreeM.fork {m : Mem} {p : Nat} {a b : Tr} (h : TreeM m p (.f a b)) : ∃ pa pb, TreeM m pa a ∧ TreeM m pb b ∧ m p = some (.cells (trC (Tr.n (.f a b)) z32 z32 (ptrP pa) (ptrP pb) (Tr.root (.f a b))) 97 (0, 0)) := by
 cases h with
 | mkF h1 h2 h => exact ⟨_, _, h1, h2, h⟩
theorem TreeM.hd {m : Mem} {p : Nat} {t : Tr} (h : TreeM m p t) : ∃ i v lp rp, i.length = 32 ∧ v.length = 32 ∧ m p = some (.cells (trC t.n i v lp rp t.root) 97 (0, 0)) := by
 cases h with
 | mkE h => exact ⟨_, _, _, _, rfl, rfl, h⟩
 | mkL h1 h2 h => exact ⟨_, _, _, _, h1, h2, h⟩
 | mkF _ _ h => exact ⟨_, _, _, _, rfl, rfl, h⟩
section
variable {n : Nat} {i v r : By} {lp rp : Value} (hi : i.length = 32) (hv : v.length = 32) (hr : r.length = 32)
theorem getV_n : getV false 1 (trC n i v lp rp r) 0 = some (.int .i64 n) := rfl
include hi in
theorem getV_i : getV true 32 (trC n i v lp rp r) 1 = some (arr i) := by
 refine getV_seg (a := [Value.int .i64 n]) (b := bs i) (c := bs v ++ (lp :: rp :: bs r)) ?_ rfl (by rw [length_bs, hi])
 simp
include hi hv in
theorem getV_v : getV true 32 (trC n i v lp rp r) 33 = some (arr v) := by
 refine getV_seg (a := Value.int .i64 n :: bs i) (b := bs v) (c := lp :: rp :: bs r) ?_ (by simp [length_bs, hi]) (by rw [length_bs, hv])
 simp
include hi hv hr in
theorem getV_r : getV true 32 (trC n i v lp rp r) 67 = some (arr r) := by
 refine getV_seg (a := Value.int .i64 n :: (bs i ++ (bs v ++ [lp, rp]))) (b := bs r) (c := []) ?_ (by simp [length_bs, hi, hv]) (by rw [length_bs, hr])
 simp
theorem getV_atL {a b : List Value} {x : Value} {o : Nat} {l : List Value} (hl : l = a ++ x :: b) (ha : a.length = o) : getV false 1 l.toArray o = some x := by
 subst hl; subst ha
 simp [getV]
include hi hv in
theorem getV_lp : getV false 1 (trC n i v lp rp r) 65 = some lp :=
 getV_atL (a := Value.int .i64 n :: (bs i ++ bs v)) (b := rp :: bs r) (by simp) (by simp [length_bs, hi, hv])
include hi hv in
theorem getV_rp : getV false 1 (trC n i v lp rp r) 66 = some rp :=
 getV_atL (a := Value.int .i64 n :: (bs i ++ (bs v ++ [lp]))) (b := bs r) (by simp) (by simp [length_bs, hi, hv])
end
section
variable {m0 m : Mem} {F : List Nat} {w0 w : World} {Es : List Ent} {p : Nat} {t : Tr}
theorem TreeM.rdN (h : TreeM m p t) (st : St m0 m F w0 w Es) : Reads Try.prog w 3 ⟨p, 0, none⟩ (.int .i64 t.n) := by
 obtain ⟨i, v, lp, rp, hi, hv, hm⟩ := h.hd
 exact st.readm hm TF.t3 getV_n
theorem TreeM.rdR (h : TreeM m p t) (st : St m0 m F w0 w Es) : Reads Try.prog w 28 ⟨p, 0 + 67, none⟩ (arr t.root) := by
 obtain ⟨i, v, lp, rp, hi, hv, hm⟩ := h.hd
 exact st.readm hm TF.t28 (getV_r hi hv (length_root t))
theorem TreeM.rdI {i v : By} (h : TreeM m p (.l i v)) (st : St m0 m F w0 w Es) : Reads Try.prog w 28 ⟨p, 0 + 1, none⟩ (arr i) :=
 st.readm h.leaf.2.2 TF.t28 (getV_i h.leaf.1)
theorem TreeM.rdV {i v : By} (h : TreeM m p (.l i v)) (st : St m0 m F w0 w Es) : Reads Try.prog w 28 ⟨p, 0 + 33, none⟩ (arr v) :=
 st.readm h.leaf.2.2 TF.t28 (getV_v h.leaf.1 h.leaf.2.1)
theorem rdLp {pa pb k : Nat} {x : By} (h : m p = some (.cells (trC k z32 z32 (ptrP pa) (ptrP pb) x) 97 (0, 0))) (st : St m0 m F w0 w Es) : Reads Try.prog w 25 ⟨p, 0 + 65, none⟩ (.pointer (some ⟨pa, 0, none⟩)) :=
 st.readm h TF.t25 (getV_lp rfl rfl)
theorem rdRp {pa pb k : Nat} {x : By} (h : m p = some (.cells (trC k z32 z32 (ptrP pa) (ptrP pb) x) 97 (0, 0))) (st : St m0 m F w0 w Es) : Reads Try.prog w 25 ⟨p, 0 + 66, none⟩ (.pointer (some ⟨pb, 0, none⟩)) :=
 st.readm h TF.t25 (getV_rp rfl rfl)
end
theorem fill_leaf {i v r : By} (hi : i.length = 32) (hv : v.length = 32) (hr : r.length = 32) : FillR (#[(0, 1), (1, 32), (33, 32), (65, 1), (66, 1), (67, 32)][·]?) (Value.agg ([Value.int .i64 0] ++ List.replicate 32 (Value.int .u8 0) ++ List.replicate 32 (Value.int .u8 0) ++ [Value.pointer none] ++ [Value.pointer none] ++ List.replicate 32 (Value.int .u8 0)).toArray).cells
  [(0, .int .i64 1), (1, arr i), (2, arr v), (5, arr r)] (trC 1 i v nilP nilP r) := by
 refine fill_one [] [.int .i64 0] (bs z32 ++ (bs z32 ++ (nilP :: nilP :: bs z32))) rfl rfl rfl ?_
 refine fill_one [.int .i64 1] (bs z32) (bs z32 ++ (nilP :: nilP :: bs z32)) rfl rfl (by rw [size_arr, hi]; rfl) ?_
 refine fill_one (.int .i64 1 :: bs i) (bs z32) (nilP :: nilP :: bs z32) (by simp [arr, Value.cells]) (by simp [length_bs, hi, z32]) (by rw [size_arr, hv]; rfl) ?_
 refine fill_one (.int .i64 1 :: (bs i ++ (bs v ++ [nilP, nilP]))) (bs z32) [] (by simp [arr, Value.cells]) (by simp [length_bs, hi, hv, z32]) (by rw [size_arr, hr]; rfl) ?_
 simp [FillR, trC, arr, Value.cells]
theorem fill_fork {n pa pb : Nat} {r : By} (hr : r.length = 32) : FillR (#[(0, 1), (1, 32), (33, 32), (65, 1), (66, 1), (67, 32)][·]?) (Value.agg ([Value.int .i64 0] ++ List.replicate 32 (Value.int .u8 0) ++ List.replicate 32 (Value.int .u8 0) ++ [Value.pointer none] ++ [Value.pointer none] ++ List.replicate 32 (Value.int .u8 0)).toArray).cells
  [(0, .int .i64 n), (3, ptrP pa), (4, ptrP pb), (5, arr r)] (trC n z32 z32 (ptrP pa) (ptrP pb) r) := by
 refine fill_one [] [.int .i64 0] (bs z32 ++ (bs z32 ++ (nilP :: nilP :: bs z32))) rfl rfl rfl ?_
 refine fill_one (.int .i64 n :: (bs z32 ++ bs z32)) [nilP] (nilP :: bs z32) rfl rfl rfl ?_
 refine fill_one (.int .i64 n :: (bs z32 ++ (bs z32 ++ [ptrP pa]))) [nilP] (bs z32) rfl rfl rfl ?_
 refine fill_one (.int .i64 n :: (bs z32 ++ (bs z32 ++ [ptrP pa, ptrP pb]))) (bs z32) [] rfl rfl (by rw [size_arr, hr]; rfl) ?_
 simp [FillR, trC, arr, Value.cells]
section
variable {m : Mem} {wI : World}
theorem c_tempty (him : Im m wI) : Ret Try.prog 31 #[] wI fun v w' => Out m wI w' fun m' => ∃ p, v = ptrP p ∧ TreeM m' p .e := by
 have st := St.start him
 refine ret_of Try.call31 Try.func31 rfl Try.ntmps31 Try.results31 rfl ?_
 refine wc_seq ?_
 refine wc_region ?_
 refine wl_val (v_assign' (by conv => (lhs; whnf))) rfl ?_
 refine wl_nil ?_
 refine then_go ?_
 refine wc_seq ?_
 refine wc_region ?_
 refine wl_call rfl (c_emptyb st.im) rfl ?_
 rintro v1 w ⟨t, m1, hg1, hi1, hs⟩
 have st := st.grown hg1 t hi1
 refine wl_call rfl (c_tagsof st.im hs (by simp)) rfl ?_
 rintro v2 w ⟨t, rfl⟩
 have st := st.pure t
 refine wl_val (v_build (c' := trC 0 z32 z32 nilP nilP (Tr.root .e)) [(5, arr (sum [69]))] TF.z97 TF.p97 rfl (fill_one (Value.int .i64 0 :: (bs z32 ++ (bs z32 ++ [nilP, nilP]))) (bs z32) [] rfl rfl (by rw [size_arr, length_sum, length_bs]; rfl) (by simp [FillR, trC, arr, Value.cells, Tr.root]))) rfl ?_
 refine wl_box (v := .agg (trC 0 z32 z32 nilP nilP (Tr.root .e))) rfl st rfl ?_
 intro b w st
 obtain ⟨m2, hg2, hm2, st⟩ := st.freeze (i := 0) rfl (by simp)
 refine wl_val (v_assign' (by conv => (lhs; whnf))) rfl ?_
 refine wl_nil ?_
 refine then_go ?_
 refine wc_ret ?_
 exact ret1 rfl (st.out ⟨b, rfl, .mkE hm2⟩)
theorem c_tleaf {i v : By} (him : Im m wI) (hi : i.length = 32) (hv : v.length = 32) : Ret Try.prog 41 #[arr i, arr v] wI fun v' w' => Out m wI w' fun m' => ∃ p, v' = ptrP p ∧ TreeM m' p (.l i v) := by
 have st := St.start him
 refine ret_of Try.call41 Try.func41 rfl Try.ntmps41 Try.results41 rfl ?_
 refine wc_seq ?_
 refine wc_region ?_
 refine wl_box (v := arr i) rfl st rfl ?_
 intro b2 w st
 refine wl_box (v := arr v) rfl st rfl ?_
 intro b3 w st
 refine wl_val (v_assign' (by conv => (lhs; whnf))) rfl ?_
 refine wl_nil ?_
 refine then_go ?_
 refine wc_seq ?_
 refine wc_draw TF.mixed ?_
 have st := st.pure (touch_drew _)
 refine fl_ld 0 rfl (v_load rfl (st.reads 1 rfl TF.t28 (getV_all (by rw [size_arr, hi])))) (by kernel_rfl) ?_
 refine fl_ld 1 rfl (v_load rfl (st.reads 0 rfl TF.t28 (getV_all (by rw [size_arr, hv])))) (by kernel_rfl) ?_
 refine fl_ld 2 rfl (v_load rfl (st.reads 1 rfl TF.t28 (getV_all (by rw [size_arr, hi])))) (by kernel_rfl) ?_
 refine fl_ld 3 rfl (v_load rfl (st.reads 0 rfl TF.t28 (getV_all (by rw [size_arr, hv])))) (by kernel_rfl) ?_
 refine fl_eff1 4 [] [1, 0] (by kernel_rfl) ⟨obl_ld rfl rfl rfl (v_load rfl (st.reads 0 rfl TF.t28 (getV_all (by rw [size_arr, hv])))), obl_ld rfl rfl rfl (v_load rfl (st.reads 1 rfl TF.t28 (getV_all (by rw [size_arr, hi])))), obl_ld rfl rfl rfl (v_load rfl (st.reads 0 rfl TF.t28 (getV_all (by rw [size_arr, hv])))), obl_ld rfl rfl rfl (v_load rfl (st.reads 1 rfl TF.t28 (getV_all (by rw [size_arr, hi])))), trivial⟩ rfl ?_
 refine wl_call rfl (c_leafb st.im hi hv) rfl ?_
 rintro v9 w ⟨t, m1, hg1, hi1, hs⟩
 have st := st.grown hg1 t hi1
 refine wl_nil ⟨rfl, ?_⟩
 refine fl_eff1 5 [] [1, 0] (by kernel_rfl) ⟨obl_ld rfl rfl rfl (v_load rfl (st.reads 0 rfl TF.t28 (getV_all (by rw [size_arr, hv])))), obl_ld rfl rfl rfl (v_load rfl (st.reads 1 rfl TF.t28 (getV_all (by rw [size_arr, hi])))), trivial⟩ rfl ?_
 refine wl_call rfl (c_tagsof st.im hs (by simp [hi, hv])) rfl ?_
 rintro v10 w ⟨t, rfl⟩
 have st := st.pure t
 refine wl_nil ⟨rfl, ?_⟩
 refine fl_val 6 rfl (fun _ => (v_build (c' := trC 1 i v nilP nilP (Tr.root (.l i v))) [(0, .int .i64 1), (1, arr i), (2, arr v), (5, arr (sum (76 :: (i ++ v))))] TF.z97 TF.p97 rfl (fill_leaf hi hv (length_sum _)))) rfl (by kernel_rfl) ?_
 refine fl_eff1 7 [] [1, 0] (by kernel_rfl) ⟨obl_ld rfl rfl rfl (v_load rfl (st.reads 0 rfl TF.t28 (getV_all (by rw [size_arr, hv])))), obl_ld rfl rfl rfl (v_load rfl (st.reads 1 rfl TF.t28 (getV_all (by rw [size_arr, hi])))), trivial⟩ rfl ?_
 refine wl_box (v := .agg (trC 1 i v nilP nilP (Tr.root (.l i v)))) rfl st rfl ?_
 intro b w st
 obtain ⟨m2, hg2, hm2, st⟩ := st.freeze (i := 0) rfl (by simp)
 refine wl_nil ⟨rfl, ?_⟩
 refine fl_eff1 8 [] [] (by kernel_rfl) ⟨obl_ld rfl rfl rfl (v_load rfl (st.reads 0 rfl TF.t28 (getV_all (by rw [size_arr, hv])))), obl_ld rfl rfl rfl (v_load rfl (st.reads 1 rfl TF.t28 (getV_all (by rw [size_arr, hi])))), trivial⟩ rfl ?_
 refine wl_val (v_assign' (by conv => (lhs; whnf))) rfl ?_
 refine wl_nil ⟨rfl, ?_⟩
 refine fl_nil (by kernel_rfl) trivial ?_
 refine then_go ?_
 refine wc_ret ?_
 exact ret1 rfl (st.out ⟨b, rfl, .mkL hi hv hm2⟩)
theorem c_fork {pa pb : Nat} {a b : Tr} (him : Im m wI) (ha : TreeM m pa a) (hb : TreeM m pb b) (hn : a.n + b.n < 4611686018427387904) : Ret Try.prog 67 #[ptrP pa, ptrP pb] wI fun v' w' => Out m wI w' fun m' => ∃ p, v' = ptrP p ∧ TreeM m' p (.f a b) := by
 have st := St.start him
 refine ret_of Try.call67 Try.func67 rfl Try.ntmps67 Try.results67 rfl ?_
 refine wc_seq ?_
 refine wc_region ?_
 refine wl_val (v_assign' (by conv => (lhs; whnf))) rfl ?_
 refine wl_nil ?_
 refine then_go ?_
 refine wc_seq ?_
 refine wc_draw TF.mixed ?_
 have st := st.pure (touch_drew _)
 refine fl_val 0 rfl (fun _ => (v_move' (by conv => (lhs; whnf)))) rfl (by kernel_rfl) ?_
 refine fl_val 1 rfl (fun _ => (v_nil rfl)) rfl (by kernel_rfl) ?_
 refine fl_val 2 rfl (fun _ => (v_fa TF.f97_0 rfl)) rfl (by kernel_rfl) ?_
 refine fl_ld 3 rfl (v_load rfl (ha.rdN st)) (by kernel_rfl) ?_
 refine fl_val 4 rfl (fun _ => (v_move' (by conv => (lhs; whnf)))) rfl (by kernel_rfl) ?_
 refine fl_val 5 rfl (fun _ => (v_nil rfl)) rfl (by kernel_rfl) ?_
 refine fl_val 6 rfl (fun _ => (v_fa TF.f97_0 rfl)) rfl (by kernel_rfl) ?_
 refine fl_ld 7 rfl (v_load rfl (hb.rdN st)) (by kernel_rfl) ?_
 refine fl_val 8 rfl (fun _ => (v_add' rfl rfl rfl (by first | omega | (dsimp only at *; omega)) (by first | omega | (dsimp only at *; omega)))) rfl (by kernel_rfl) ?_
 refine fl_val 9 rfl (fun _ => (v_move' (by conv => (lhs; whnf)))) rfl (by kernel_rfl) ?_
 refine fl_val 10 rfl (fun _ => (v_move' (by conv => (lhs; whnf)))) rfl (by kernel_rfl) ?_
 refine fl_val 11 rfl (fun _ => (v_move' (by conv => (lhs; whnf)))) rfl (by kernel_rfl) ?_
 refine fl_val 12 rfl (fun _ => (v_nil rfl)) rfl (by kernel_rfl) ?_
 refine fl_val 13 rfl (fun _ => (v_fa TF.f97_5 rfl)) rfl (by kernel_rfl) ?_
 refine fl_ld 14 rfl (v_load rfl (ha.rdR st)) (by kernel_rfl) ?_
 refine fl_val 15 rfl (fun _ => (v_move' (by conv => (lhs; whnf)))) rfl (by kernel_rfl) ?_
 refine fl_val 16 rfl (fun _ => (v_nil rfl)) rfl (by kernel_rfl) ?_
 refine fl_val 17 rfl (fun _ => (v_fa TF.f97_5 rfl)) rfl (by kernel_rfl) ?_
 refine fl_ld 18 rfl (v_load rfl (hb.rdR st)) (by kernel_rfl) ?_
 refine fl_eff1 19 [17, 16, 15, 13, 12, 11, 10, 9, 8, 6, 5, 4, 2, 1, 0] [7, 3] (by kernel_rfl) ⟨obl_ld rfl rfl rfl (v_load rfl (hb.rdR st)), obl_ld rfl rfl rfl (v_load rfl (ha.rdR st)), obl_ld rfl rfl rfl (v_load rfl (hb.rdN st)), obl_ld rfl rfl rfl (v_load rfl (ha.rdN st)), trivial⟩ rfl ?_
 refine wl_call rfl (c_nodeb st.im (length_root a) (length_root b)) rfl ?_
 rintro v24 w ⟨t, m1, hg1, hi1, hs⟩
 have st := st.grown hg1 t hi1
 have ha := ha.mono hg1.le
 have hb := hb.mono hg1.le
 refine wl_nil ⟨rfl, ?_⟩
 refine fl_eff1 20 [17, 16, 15, 13, 12, 11, 10, 9, 8, 6, 5, 4, 2, 1, 0] [7, 3] (by kernel_rfl) ⟨obl_ld rfl rfl rfl (v_load rfl (hb.rdN st)), obl_ld rfl rfl rfl (v_load rfl (ha.rdN st)), trivial⟩ rfl ?_
 refine wl_call rfl (c_tagsof st.im hs (by simp [length_root])) rfl ?_
 rintro v25 w ⟨t, rfl⟩
 have st := st.pure t
 refine wl_nil ⟨rfl, ?_⟩
 refine fl_val 21 rfl (fun _ => (v_build (c' := trC (Tr.n (.f a b)) z32 z32 (ptrP pa) (ptrP pb) (Tr.root (.f a b))) [(0, .int .i64 (Tr.n (.f a b) : Nat)), (3, ptrP pa), (4, ptrP pb), (5, arr (sum (78 :: (a.root ++ b.root))))] TF.z97 TF.p97 rfl (fill_fork (length_sum _)))) rfl (by kernel_rfl) ?_
 refine fl_eff1 22 [17, 16, 15, 13, 12, 11, 10, 9, 8, 6, 5, 4, 2, 1, 0] [7, 3] (by kernel_rfl) ⟨obl_ld rfl rfl rfl (v_load rfl (hb.rdN st)), obl_ld rfl rfl rfl (v_load rfl (ha.rdN st)), trivial⟩ rfl ?_
 refine wl_box (v := .agg (trC (Tr.n (.f a b)) z32 z32 (ptrP pa) (ptrP pb) (Tr.root (.f a b)))) rfl st rfl ?_
 intro b' w st
 obtain ⟨m2, hg2, hm2, st⟩ := st.freeze (i := 0) rfl (by simp)
 have ha := ha.mono hg2.le
 have hb := hb.mono hg2.le
 refine wl_nil ⟨rfl, ?_⟩
 refine fl_eff1 23 [] [] (by kernel_rfl) ⟨obl_ld rfl rfl rfl (v_load rfl (hb.rdN st)), obl_ld rfl rfl rfl (v_load rfl (ha.rdN st)), trivial⟩ rfl ?_
 refine wl_val (v_assign' (by conv => (lhs; whnf))) rfl ?_
 refine wl_nil ⟨rfl, ?_⟩
 refine fl_nil (by kernel_rfl) trivial ?_
 refine then_go ?_
 refine wc_ret ?_
 exact ret1 rfl (st.out ⟨b', rfl, .mkF ha hb hm2⟩)
end
end Go.Proofs.Ytonlmjpenonabaa
