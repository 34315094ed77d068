/-
  Several texts as one: Si Sj Sk Ta Y Z Zb Zc Zd Ze Uz Bk Zf Zg Zh Zi Zl Zm Ga Tb La Dp.
-/
import Derived.RangeFuncRecord
import Derived.RangeFuncCalls
import Derived.OwnWalkIn
import Derived.LoopIn
import Derived.Scope
import Derived.RangeFuncLeaves
import Derived.OrdersIn
import Derived.OpenShut
import Derived.WideShapes
import Derived.ChangeShapes
import Derived.Test.YtladpaehbolghaaGreatRows
import Derived.Maps.Keyed
import Derived.DeepKeys4
import Derived.Maps.RangeRun
import Derived.Lib.ConvBytes
import Derived.Laws.AppendOwn
import Derived.Recover
import Derived.WalkSmall
import Derived.Test.YtladpaehbolghaaGreatOwn1

namespace Go.Proofs.YtladpaehbolghaaGreat
open Go Go.RowKit K SH
namespace SH
def hashC (v : V8) (bk : List UInt8) (hv : Int) (n : UInt64) : Array Value := (ws v.l ++ bs bk ++ [.int .i64 hv, u64 n]).toArray
theorem getV_state (v : V8) (bk : List UInt8) (hv : Int) (n : UInt64) : getV true 8 (hashC v bk hv n) 0 = some (arr32 v.l) :=
 getV_seg (a := []) (b := ws v.l) (c := bs bk ++ [.int .i64 hv, u64 n]) (by simp) rfl rfl
end SH
section
variable {m m0 : Mem} {F : List Nat} {w0 w wI : World} {Es : List Ent}
theorem c_spreadS {b : Nat} {v : V8} {bk : List UInt8} {hv : Int} {n : UInt64} {t : TypeId} (st : St m0 m F w0 w Es) (i : Nat) (hi : Es[i]? = some (K.blk b (hashC v bk hv n) t)) (hl : bk.length = 64) :
  Ret Tryz.prog 145 #[.pointer (some ⟨b, 8, none⟩)] w fun v w' => Tch w w' [] [] ∧ v = arr32 (sched bk) := by
 obtain ⟨ml, himl, _, hbl, _⟩ := st.lend (i := i) hi
 exact c_spread himl hbl (pre := ws v.l) (post := [.int .i64 hv, u64 n]) rfl rfl hl
theorem c_mix {b : Nat} {v : V8} {bk : List UInt8} {hv : Int} {n : UInt64} (him : Im m wI) (hE : (K.blk b (hashC v bk hv n) 175).holds wI) (hm : m b = none) (hl : bk.length = 64) :
  Ret Tryz.prog 138 #[.pointer (some ⟨b, 0, none⟩)] wI fun _ w' => Tch wI w' [b] [b] ∧ (K.blk b (hashC (comp v bk) bk 0 n) 175).holds w' := by
 have st := St.startE him hE (by simpa [K.blk] using hm)
 refine ret_of Tryz.call138 Tryz.func138 rfl Tryz.ntmps138 Tryz.results138 rfl ?_
 refine wc_seq ?_
 refine wc_draw TF.mixed ?_
 have st := st.pure (touch_drew _)
 show FL _ _ ?ops0 ?post0 [] [] [] _ _
 have fin : ∀ (r : Fr) (w : World) (b2 b3 b4 : Nat), r 0 = .pointer (some ⟨b, 0, none⟩) → r 2 = .pointer (some ⟨b2, 0, none⟩) → r 3 = .pointer (some ⟨b3, 0, none⟩) → r 4 = .pointer (some ⟨b4, 0, none⟩) → r 15 = arr32 (sched bk) → r 16 = arr32 kk → r 17 = .pointer (some ⟨b, 0, none⟩) → r 18 = .pointer (some ⟨b, 0, none⟩) → r 19 = .pointer (some ⟨b, 0, none⟩) → r 20 = arr32 v.l →
  St m m [b] wI w [K.blk b4 (Array.replicate 8 (u32 0)) 166, K.blk b3 (Array.replicate 64 (u32 0)) 176, K.blk b2 (Array.replicate 64 (u32 0)) 176, K.blk b (hashC v bk hv n) 175] → FL Tryz.prog 115 ?ops0 ?post0 [11, 10, 9, 4, 3, 8, 7, 6, 5, 2, 1, 0] [7, 6, 5, 1, 0] [8] r w := by
  clear st
  rintro r w b2 b3 b4 h0 h2 h3 h4 h15 h16 h17 h18 h19 h20 st
  refine fl_o 0 h0 (fl_o 2 h2 (fl_o 3 h3 (fl_o 4 h4 (fl_o 15 h15 (fl_o 16 h16 (fl_o 17 h17 (fl_o 18 h18 (fl_o 19 h19 (fl_o 20 h20 ?_)))))))))
  refine fl_eff1 12 [7, 6, 5] [8] (by kernel_rfl) ⟨obl_ld rfl rfl rfl (v_load rfl (by first | exact st.reads 0 rfl TF.t166 (getV_state ..) | exact st.reads 1 rfl TF.t166 (getV_state ..) | exact st.reads 2 rfl TF.t166 (getV_state ..) | exact st.reads 3 rfl TF.t166 (getV_state ..))), trivial⟩ rfl ?_
  refine wl_storeW (cs := (ws (sched bk)).toArray) 2 st rfl TF.t176 rfl rfl (by simp [ws, length_sched]) rfl (by simpa using one_ws _) ?_
  intro w st
  refine wl_nil ⟨rfl, ?_⟩
  refine fl_eff1 13 [7, 6, 5] [8] (by kernel_rfl) ⟨obl_ld rfl rfl rfl (v_load rfl (by first | exact st.reads 0 rfl TF.t166 (getV_state ..) | exact st.reads 1 rfl TF.t166 (getV_state ..) | exact st.reads 2 rfl TF.t166 (getV_state ..) | exact st.reads 3 rfl TF.t166 (getV_state ..))), trivial⟩ rfl ?_
  refine wl_storeW (cs := (ws kk).toArray) 1 st rfl TF.t176 rfl rfl rfl rfl (by simpa using one_ws _) ?_
  intro w st
  refine wl_nil ⟨rfl, ?_⟩
  refine fl_eff1 14 [] [] (by kernel_rfl) ⟨obl_ld rfl rfl rfl (v_load rfl (by first | exact st.reads 0 rfl TF.t166 (getV_state ..) | exact st.reads 1 rfl TF.t166 (getV_state ..) | exact st.reads 2 rfl TF.t166 (getV_state ..) | exact st.reads 3 rfl TF.t166 (getV_state ..))), trivial⟩ rfl ?_
  refine wl_storeW (cs := (ws v.l).toArray) 0 st rfl TF.t166 rfl rfl rfl rfl (by simpa using one_ws _) ?_
  intro w st
  refine wl_nil ⟨rfl, ?_⟩
  refine fl_nil (by kernel_rfl) trivial ?_
  refine then_go ?_
  refine wc_seq ?_
  refine wc_seq ?_
  refine wc_region ?_
  refine wl_val (v_move' (by conv => (lhs; whnf))) rfl ?_
  refine wl_nil ?_
  refine then_go ?_
  refine wc_block ?_
  refine wc_loop (S := Nat) (fun q r w' => ∃ j, q + j = 64 ∧ r 0 = .pointer (some ⟨b, 0, none⟩) ∧ r 2 = .pointer (some ⟨b2, 0, none⟩) ∧ r 3 = .pointer (some ⟨b3, 0, none⟩) ∧ r 4 = .pointer (some ⟨b4, 0, none⟩) ∧ r 21 = .int .i64 j ∧
   St m m [b] wI w' [K.blk b4 (ws (rnds j v (sched bk)).l).toArray 166, K.blk b3 (ws kk).toArray 176, K.blk b2 (ws (sched bk)).toArray 176, K.blk b (hashC v bk hv n) 175]) id 64 ⟨0, rfl, rfl, rfl, rfl, rfl, rfl, st⟩ ?_
  rintro q r w2 ⟨j, hqj, h0, h2, h3, h4, h21, st⟩
  refine wc_o 0 h0 (wc_o 2 h2 (wc_o 3 h3 (wc_o 4 h4 (wc_o 21 h21 ?_))))
  refine wc_seq ?_
  refine wc_region ?_
  refine wl_val (v_lss rfl rfl) rfl ?_
  refine wl_nil ?_
  refine then_go ?_
  refine wc_seq ?_
  refine wc_if rfl (fun h22 => ?_) (fun h22 => ?_)
  ·refine wc_skip ?_
   refine then_go ?_
   refine wc_seq ?_
   refine wc_block ?_
   refine wc_seq ?_
   refine wc_region ?_
   refine wl_val (v_move' (by conv => (lhs; whnf))) rfl ?_
   refine wl_val (v_assign' (by conv => (lhs; whnf))) rfl ?_
   refine wl_nil ?_
   refine then_go ?_
   refine wc_seq ?_
   have hj : j < 64 := by omega
   obtain ⟨u, hu⟩ : ∃ u, u = rnds j v (sched bk) := ⟨_, rfl⟩
   obtain ⟨kj, hkj⟩ : ∃ x, x = kk.getD j 0 := ⟨_, rfl⟩
   obtain ⟨wj, hwj⟩ : ∃ x, x = (sched bk).getD j 0 := ⟨_, rfl⟩
   rw [← hu] at st
   refine wc_draw TF.mixed ?_
   have st := st.pure (touch_drew _)
   refine fl_val 0 rfl (fun _ => (v_iaa 0 Tryz.underlying166 TF.t160 rfl rfl (by first | rfl | omega) (by first | omega | (dsimp only at *; omega)))) rfl (by kernel_rfl) ?_
   refine fl_ld 1 rfl (v_load rfl (st.reads (v := u32 u.a) 0 rfl TF.t160 rfl)) (by kernel_rfl) ?_
   refine fl_val 2 rfl (fun _ => (v_iaa 4 Tryz.underlying166 TF.t160 rfl rfl (by first | rfl | omega) (by first | omega | (dsimp only at *; omega)))) rfl (by kernel_rfl) ?_
   refine fl_ld 3 rfl (v_load rfl (st.reads (v := u32 u.e) 0 rfl TF.t160 rfl)) (by kernel_rfl) ?_
   refine fl_eff1 4 [2] [3] (by kernel_rfl) ⟨obl_ld rfl rfl rfl (v_load rfl (st.reads (v := u32 u.e) 0 rfl TF.t160 rfl)), obl_ld rfl rfl rfl (v_load rfl (st.reads (v := u32 u.a) 0 rfl TF.t160 rfl)), trivial⟩ rfl ?_
   refine wl_val (v_assign' (by conv => (lhs; whnf))) rfl ?_
   refine wl_nil ⟨rfl, ?_⟩
   refine fl_eff1 5 [] [] (by kernel_rfl) ⟨obl_ld rfl rfl rfl (v_load rfl (st.reads (v := u32 u.e) 0 rfl TF.t160 rfl)), trivial⟩ rfl ?_
   refine wl_val (v_assign' (by conv => (lhs; whnf))) rfl ?_
   refine wl_nil ⟨rfl, ?_⟩
   refine fl_nil (by kernel_rfl) trivial ?_
   refine then_go ?_
   refine wc_seq ?_
   refine wc_draw TF.mixed ?_
   have st := st.pure (touch_drew _)
   refine fl_val 0 rfl (fun _ => (v_iaa 7 Tryz.underlying166 TF.t160 rfl rfl (by first | rfl | omega) (by first | omega | (dsimp only at *; omega)))) rfl (by kernel_rfl) ?_
   refine fl_ld 1 rfl (v_load rfl (st.reads (v := u32 u.h) 0 rfl TF.t160 rfl)) (by kernel_rfl) ?_
   refine fl_val 2 rfl (fun _ => (v_move' (by conv => (lhs; whnf)))) rfl (by kernel_rfl) ?_
   refine fl_val 4 rfl (fun _ => (v_move' (by conv => (lhs; whnf)))) rfl (by kernel_rfl) ?_
   refine fl_val 7 rfl (fun _ => (v_move' (by conv => (lhs; whnf)))) rfl (by kernel_rfl) ?_
   refine fl_val 11 rfl (fun _ => (v_move' (by conv => (lhs; whnf)))) rfl (by kernel_rfl) ?_
   refine fl_val 12 rfl (fun _ => (v_iaa 5 Tryz.underlying166 TF.t160 rfl rfl (by first | rfl | omega) (by first | omega | (dsimp only at *; omega)))) rfl (by kernel_rfl) ?_
   refine fl_ld 13 rfl (v_load rfl (st.reads (v := u32 u.f) 0 rfl TF.t160 rfl)) (by kernel_rfl) ?_
   refine fl_val 14 rfl (fun _ => (v_and32 rfl rfl)) rfl (by kernel_rfl) ?_
   refine fl_val 15 rfl (fun _ => (v_move' (by conv => (lhs; whnf)))) rfl (by kernel_rfl) ?_
   refine fl_val 16 rfl (fun _ => (v_not32 Tryz.underlying160 rfl)) rfl (by kernel_rfl) ?_
   refine fl_val 17 rfl (fun _ => (v_iaa 6 Tryz.underlying166 TF.t160 rfl rfl (by first | rfl | omega) (by first | omega | (dsimp only at *; omega)))) rfl (by kernel_rfl) ?_
   refine fl_ld 18 rfl (v_load rfl (st.reads (v := u32 u.g) 0 rfl TF.t160 rfl)) (by kernel_rfl) ?_
   refine fl_val 19 rfl (fun _ => (v_and32 rfl rfl)) rfl (by kernel_rfl) ?_
   refine fl_val 20 rfl (fun _ => (v_xor32 rfl rfl)) rfl (by kernel_rfl) ?_
   refine fl_val 22 rfl (fun _ => (v_move' (by conv => (lhs; whnf)))) rfl (by kernel_rfl) ?_
   refine fl_val 23 rfl (fun _ => (v_iaa j Tryz.underlying176 TF.t160 rfl rfl (by first | rfl | omega) (by first | omega | (dsimp only at *; omega)))) rfl (by kernel_rfl) ?_
   refine fl_ld 24 rfl (v_load rfl (st.reads (v := u32 kj) 1 rfl TF.t160 (by rw [hkj]; exact getV_wse (j := j) (by omega) (by rw [length_kk]; omega)))) (by kernel_rfl) ?_
   refine fl_val 26 rfl (fun _ => (v_move' (by conv => (lhs; whnf)))) rfl (by kernel_rfl) ?_
   refine fl_val 27 rfl (fun _ => (v_iaa j Tryz.underlying176 TF.t160 rfl rfl (by first | rfl | omega) (by first | omega | (dsimp only at *; omega)))) rfl (by kernel_rfl) ?_
   refine fl_ld 28 rfl (v_load rfl (st.reads (v := u32 wj) 2 rfl TF.t160 (by rw [hwj]; exact getV_wse (j := j) (by omega) (by rw [length_sched]; omega)))) (by kernel_rfl) ?_
   refine fl_eff1 3 [27, 26, 23, 22, 20, 19, 17, 16, 15, 14, 12, 11, 7, 4, 0] [28, 24, 18, 13, 1] (by kernel_rfl) ⟨obl_ld rfl rfl rfl (v_load rfl (st.reads (v := u32 wj) 2 rfl TF.t160 (by rw [hwj]; exact getV_wse (j := j) (by omega) (by rw [length_sched]; omega)))), obl_ld rfl rfl rfl (v_load rfl (st.reads (v := u32 kj) 1 rfl TF.t160 (by rw [hkj]; exact getV_wse (j := j) (by omega) (by rw [length_kk]; omega)))), obl_ld rfl rfl rfl (v_load rfl (st.reads (v := u32 u.g) 0 rfl TF.t160 rfl)), obl_ld rfl rfl rfl (v_load rfl (st.reads (v := u32 u.f) 0 rfl TF.t160 rfl)), obl_ld rfl rfl rfl (v_load rfl (st.reads (v := u32 u.h) 0 rfl TF.t160 rfl)), trivial⟩ rfl ?_
   refine wl_call rfl (c_rotl 6 (by decide) (by decide) (by decide)) rfl ?_
   rintro v31 w ⟨rfl, rfl⟩
   refine wl_nil ⟨rfl, ?_⟩
   refine fl_eff1 5 [27, 26, 23, 22, 20, 19, 17, 16, 15, 14, 12, 11, 7, 0] [28, 24, 18, 13, 1] (by kernel_rfl) ⟨obl_ld rfl rfl rfl (v_load rfl (st.reads (v := u32 wj) 2 rfl TF.t160 (by rw [hwj]; exact getV_wse (j := j) (by omega) (by rw [length_sched]; omega)))), obl_ld rfl rfl rfl (v_load rfl (st.reads (v := u32 kj) 1 rfl TF.t160 (by rw [hkj]; exact getV_wse (j := j) (by omega) (by rw [length_kk]; omega)))), obl_ld rfl rfl rfl (v_load rfl (st.reads (v := u32 u.g) 0 rfl TF.t160 rfl)), obl_ld rfl rfl rfl (v_load rfl (st.reads (v := u32 u.f) 0 rfl TF.t160 rfl)), obl_ld rfl rfl rfl (v_load rfl (st.reads (v := u32 u.h) 0 rfl TF.t160 rfl)), trivial⟩ rfl ?_
   refine wl_call rfl (c_rotl 11 (by decide) (by decide) (by decide)) rfl ?_
   rintro v33 w ⟨rfl, rfl⟩
   refine wl_nil ⟨rfl, ?_⟩
   refine fl_val 6 rfl (fun _ => (v_xor32 rfl rfl)) rfl (by kernel_rfl) ?_
   refine fl_eff1 8 [6, 27, 26, 23, 22, 20, 19, 17, 16, 15, 14, 12, 11, 0] [28, 24, 18, 13, 1] (by kernel_rfl) ⟨obl_ld rfl rfl rfl (v_load rfl (st.reads (v := u32 wj) 2 rfl TF.t160 (by rw [hwj]; exact getV_wse (j := j) (by omega) (by rw [length_sched]; omega)))), obl_ld rfl rfl rfl (v_load rfl (st.reads (v := u32 kj) 1 rfl TF.t160 (by rw [hkj]; exact getV_wse (j := j) (by omega) (by rw [length_kk]; omega)))), obl_ld rfl rfl rfl (v_load rfl (st.reads (v := u32 u.g) 0 rfl TF.t160 rfl)), obl_ld rfl rfl rfl (v_load rfl (st.reads (v := u32 u.f) 0 rfl TF.t160 rfl)), obl_ld rfl rfl rfl (v_load rfl (st.reads (v := u32 u.h) 0 rfl TF.t160 rfl)), trivial⟩ rfl ?_
   refine wl_call rfl (c_rotl 25 (by decide) (by decide) (by decide)) rfl ?_
   rintro v36 w ⟨rfl, rfl⟩
   refine wl_nil ⟨rfl, ?_⟩
   refine fl_val 9 rfl (fun _ => (v_xor32 rfl rfl)) rfl (by kernel_rfl) ?_
   refine fl_val 10 rfl (fun _ => (v_add32 rfl rfl)) rfl (by kernel_rfl) ?_
   refine fl_val 21 rfl (fun _ => (v_add32 rfl rfl)) rfl (by kernel_rfl) ?_
   refine fl_val 25 rfl (fun _ => (v_add32 rfl rfl)) rfl (by kernel_rfl) ?_
   refine fl_val 29 rfl (fun _ => (v_add32 rfl rfl)) rfl (by kernel_rfl) ?_
   refine fl_eff1 30 [] [] (by kernel_rfl) ⟨obl_ld rfl rfl rfl (v_load rfl (st.reads (v := u32 wj) 2 rfl TF.t160 (by rw [hwj]; exact getV_wse (j := j) (by omega) (by rw [length_sched]; omega)))), obl_ld rfl rfl rfl (v_load rfl (st.reads (v := u32 kj) 1 rfl TF.t160 (by rw [hkj]; exact getV_wse (j := j) (by omega) (by rw [length_kk]; omega)))), obl_ld rfl rfl rfl (v_load rfl (st.reads (v := u32 u.g) 0 rfl TF.t160 rfl)), obl_ld rfl rfl rfl (v_load rfl (st.reads (v := u32 u.f) 0 rfl TF.t160 rfl)), obl_ld rfl rfl rfl (v_load rfl (st.reads (v := u32 u.h) 0 rfl TF.t160 rfl)), trivial⟩ rfl ?_
   refine wl_val (v_assign' (by conv => (lhs; whnf))) rfl ?_
   refine wl_nil ⟨rfl, ?_⟩
   refine fl_nil (by kernel_rfl) trivial ?_
   refine then_go ?_
   refine wc_seq ?_
   refine wc_draw TF.mixed ?_
   have st := st.pure (touch_drew _)
   refine fl_val 0 rfl (fun _ => (v_move' (by conv => (lhs; whnf)))) rfl (by kernel_rfl) ?_
   refine fl_val 2 rfl (fun _ => (v_move' (by conv => (lhs; whnf)))) rfl (by kernel_rfl) ?_
   refine fl_val 5 rfl (fun _ => (v_move' (by conv => (lhs; whnf)))) rfl (by kernel_rfl) ?_
   refine fl_val 8 rfl (fun _ => (v_move' (by conv => (lhs; whnf)))) rfl (by kernel_rfl) ?_
   refine fl_val 9 rfl (fun _ => (v_iaa 1 Tryz.underlying166 TF.t160 rfl rfl (by first | rfl | omega) (by first | omega | (dsimp only at *; omega)))) rfl (by kernel_rfl) ?_
   refine fl_ld 10 rfl (v_load rfl (st.reads (v := u32 u.b) 0 rfl TF.t160 rfl)) (by kernel_rfl) ?_
   refine fl_val 11 rfl (fun _ => (v_and32 rfl rfl)) rfl (by kernel_rfl) ?_
   refine fl_val 12 rfl (fun _ => (v_move' (by conv => (lhs; whnf)))) rfl (by kernel_rfl) ?_
   refine fl_val 13 rfl (fun _ => (v_iaa 2 Tryz.underlying166 TF.t160 rfl rfl (by first | rfl | omega) (by first | omega | (dsimp only at *; omega)))) rfl (by kernel_rfl) ?_
   refine fl_ld 14 rfl (v_load rfl (st.reads (v := u32 u.c) 0 rfl TF.t160 rfl)) (by kernel_rfl) ?_
   refine fl_val 15 rfl (fun _ => (v_and32 rfl rfl)) rfl (by kernel_rfl) ?_
   refine fl_val 16 rfl (fun _ => (v_xor32 rfl rfl)) rfl (by kernel_rfl) ?_
   refine fl_val 17 rfl (fun _ => (v_iaa 1 Tryz.underlying166 TF.t160 rfl rfl (by first | rfl | omega) (by first | omega | (dsimp only at *; omega)))) rfl (by kernel_rfl) ?_
   refine fl_ld 18 rfl (v_load rfl (st.reads (v := u32 u.b) 0 rfl TF.t160 rfl)) (by kernel_rfl) ?_
   refine fl_val 19 rfl (fun _ => (v_iaa 2 Tryz.underlying166 TF.t160 rfl rfl (by first | rfl | omega) (by first | omega | (dsimp only at *; omega)))) rfl (by kernel_rfl) ?_
   refine fl_ld 20 rfl (v_load rfl (st.reads (v := u32 u.c) 0 rfl TF.t160 rfl)) (by kernel_rfl) ?_
   refine fl_val 21 rfl (fun _ => (v_and32 rfl rfl)) rfl (by kernel_rfl) ?_
   refine fl_val 22 rfl (fun _ => (v_xor32 rfl rfl)) rfl (by kernel_rfl) ?_
   refine fl_eff1 1 [22, 21, 19, 17, 16, 15, 13, 12, 11, 9, 8, 5, 2] [20, 18, 14, 10] (by kernel_rfl) ⟨obl_ld rfl rfl rfl (v_load rfl (st.reads (v := u32 u.c) 0 rfl TF.t160 rfl)), obl_ld rfl rfl rfl (v_load rfl (st.reads (v := u32 u.b) 0 rfl TF.t160 rfl)), obl_ld rfl rfl rfl (v_load rfl (st.reads (v := u32 u.c) 0 rfl TF.t160 rfl)), obl_ld rfl rfl rfl (v_load rfl (st.reads (v := u32 u.b) 0 rfl TF.t160 rfl)), trivial⟩ rfl ?_
   refine wl_call rfl (c_rotl 2 (by decide) (by decide) (by decide)) rfl ?_
   rintro v59 w ⟨rfl, rfl⟩
   refine wl_nil ⟨rfl, ?_⟩
   refine fl_eff1 3 [22, 21, 19, 17, 16, 15, 13, 12, 11, 9, 8, 5] [20, 18, 14, 10] (by kernel_rfl) ⟨obl_ld rfl rfl rfl (v_load rfl (st.reads (v := u32 u.c) 0 rfl TF.t160 rfl)), obl_ld rfl rfl rfl (v_load rfl (st.reads (v := u32 u.b) 0 rfl TF.t160 rfl)), obl_ld rfl rfl rfl (v_load rfl (st.reads (v := u32 u.c) 0 rfl TF.t160 rfl)), obl_ld rfl rfl rfl (v_load rfl (st.reads (v := u32 u.b) 0 rfl TF.t160 rfl)), trivial⟩ rfl ?_
   refine wl_call rfl (c_rotl 13 (by decide) (by decide) (by decide)) rfl ?_
   rintro v61 w ⟨rfl, rfl⟩
   refine wl_nil ⟨rfl, ?_⟩
   refine fl_val 4 rfl (fun _ => (v_xor32 rfl rfl)) rfl (by kernel_rfl) ?_
   refine fl_eff1 6 [4, 22, 21, 19, 17, 16, 15, 13, 12, 11, 9, 8] [20, 18, 14, 10] (by kernel_rfl) ⟨obl_ld rfl rfl rfl (v_load rfl (st.reads (v := u32 u.c) 0 rfl TF.t160 rfl)), obl_ld rfl rfl rfl (v_load rfl (st.reads (v := u32 u.b) 0 rfl TF.t160 rfl)), obl_ld rfl rfl rfl (v_load rfl (st.reads (v := u32 u.c) 0 rfl TF.t160 rfl)), obl_ld rfl rfl rfl (v_load rfl (st.reads (v := u32 u.b) 0 rfl TF.t160 rfl)), trivial⟩ rfl ?_
   refine wl_call rfl (c_rotl 22 (by decide) (by decide) (by decide)) rfl ?_
   rintro v64 w ⟨rfl, rfl⟩
   refine wl_nil ⟨rfl, ?_⟩
   refine fl_val 7 rfl (fun _ => (v_xor32 rfl rfl)) rfl (by kernel_rfl) ?_
   refine fl_val 23 rfl (fun _ => (v_add32 rfl rfl)) rfl (by kernel_rfl) ?_
   refine fl_eff1 24 [] [] (by kernel_rfl) ⟨obl_ld rfl rfl rfl (v_load rfl (st.reads (v := u32 u.c) 0 rfl TF.t160 rfl)), obl_ld rfl rfl rfl (v_load rfl (st.reads (v := u32 u.b) 0 rfl TF.t160 rfl)), obl_ld rfl rfl rfl (v_load rfl (st.reads (v := u32 u.c) 0 rfl TF.t160 rfl)), obl_ld rfl rfl rfl (v_load rfl (st.reads (v := u32 u.b) 0 rfl TF.t160 rfl)), trivial⟩ rfl ?_
   refine wl_val (v_assign' (by conv => (lhs; whnf))) rfl ?_
   refine wl_nil ⟨rfl, ?_⟩
   refine fl_nil (by kernel_rfl) trivial ?_
   refine then_go ?_
   refine wc_seq ?_
   refine wc_draw TF.mixed ?_
   have st := st.pure (touch_drew _)
   refine fl_val 0 rfl (fun _ => (v_sla 1 8 Tryz.underlying166 TF.t160 rfl ⟨_, _, rfl, rfl⟩ rfl (by omega) (by omega) (by omega))) rfl (by kernel_rfl) ?_
   refine fl_val 1 rfl (fun _ => (v_sla 0 7 Tryz.underlying166 TF.t160 rfl rfl ⟨_, _, rfl, rfl⟩ (by omega) (by omega) (by omega))) rfl (by kernel_rfl) ?_
   refine fl_eff1 2 [] [] (by kernel_rfl) trivial rfl ?_
   refine wl_copy (size := 1) (b := b4) (off := 0 + 1 * 1) (len := 8 - 1) (cap := 8 - 1) (j := 7) (news := ws [u.a, u.b, u.c, u.d, u.e, u.f, u.g]) 0 st rfl Tryz.underlying185 TF.t160 rfl rfl (st.srcArr (off := 0) 0 rfl rfl (fun j x hj => by rw [Nat.zero_add]; match j, hj with | 0, hj => exact hj | 1, hj => exact hj | 2, hj => exact hj | 3, hj => exact hj | 4, hj => exact hj | 5, hj => exact hj | 6, hj => exact hj | j + 7, hj => exact absurd hj (by simp [ws])) (one_ws _)) (by simp [ws, V8.l]) rfl ?_
   intro w st
   refine wl_nil ⟨rfl, ?_⟩
   refine fl_nil (by kernel_rfl) trivial ?_
   have e : setSeg (ws u.l).toArray (0 + 1 * 1) ((ws [u.a, u.b, u.c, u.d, u.e, u.f, u.g]).take (min 7 (8 - 1) * 1)) = (ws [u.a, u.a, u.b, u.c, u.d, u.e, u.f, u.g]).toArray := rfl
   change St _ _ _ _ _ [K.blk b4 (setSeg (ws u.l).toArray (0 + 1 * 1) ((ws [u.a, u.b, u.c, u.d, u.e, u.f, u.g]).take (min 7 (8 - 1) * 1))) _, _, _, _] at st
   rw [e] at st
   refine then_go ?_
   refine wc_region ?_
   refine wl_val (v_move' (by conv => (lhs; whnf))) rfl ?_
   refine wl_val (v_move' (by conv => (lhs; whnf))) rfl ?_
   refine wl_val (v_add32 rfl rfl) rfl ?_
   refine wl_val (v_iaa 4 Tryz.underlying166 TF.t160 rfl rfl (by first | rfl | omega) (by first | omega | (dsimp only at *; omega))) rfl ?_
   refine wl_val (v_load rfl (st.reads (v := u32 u.d) 0 rfl TF.t160 rfl)) rfl ?_
   refine wl_val (v_move' (by conv => (lhs; whnf))) rfl ?_
   refine wl_val (v_add32 rfl rfl) rfl ?_
   refine wl_val (v_iaa 0 Tryz.underlying166 TF.t160 rfl rfl (by first | rfl | omega) (by first | omega | (dsimp only at *; omega))) rfl ?_
   refine wl_store1 (v := u32 (t1 u kj wj + t2 u)) 0 st rfl TF.t160 rfl rfl rfl (by simp [ws]) ?_
   intro w st
   refine wl_val (v_iaa 4 Tryz.underlying166 TF.t160 rfl rfl (by first | rfl | omega) (by first | omega | (dsimp only at *; omega))) rfl ?_
   refine wl_store1 (v := u32 (u.d + t1 u kj wj)) 0 st rfl TF.t160 rfl rfl rfl (by simp [ws]) ?_
   intro w st
   refine wl_nil ?_
   have e : (((ws [u.a, u.a, u.b, u.c, u.d, u.e, u.f, u.g]).toArray.setIfInBounds (0 + 0 * 1) (u32 (t1 u kj wj + t2 u))).setIfInBounds (0 + 4 * 1) (u32 (u.d + t1 u kj wj))) = (ws (rnd u kj wj).l).toArray := rfl
   change St _ _ _ _ _ [K.blk b4 (((ws [u.a, u.a, u.b, u.c, u.d, u.e, u.f, u.g]).toArray.setIfInBounds (0 + 0 * 1) (u32 (t1 u kj wj + t2 u))).setIfInBounds (0 + 4 * 1) (u32 (u.d + t1 u kj wj))) _, _, _, _] at st
   rw [e, show rnd u kj wj = rnds (j + 1) v (sched bk) by rw [hu, hkj, hwj]; rfl] at st
   refine block_go (then_go ?_)
   refine wc_region ?_
   refine wl_val (v_add' rfl rfl rfl (by first | omega | (dsimp only at *; omega)) (by first | omega | (dsimp only at *; omega))) rfl ?_
   refine wl_val (v_move' (by conv => (lhs; whnf))) rfl ?_
   refine wl_nil ?_
   refine then_go ?_
   exact ⟨q - 1, by simp; omega, j + 1, by omega, rfl, rfl, rfl, rfl, rfl, st⟩
  ·refine wc_exit (then_exit (then_exit (block_hit ?_)))
   refine then_go ?_
   refine wc_seq ?_
   refine wc_seq ?_
   have hj64 : j = 64 := by omega
   subst hj64
   obtain ⟨u, hu⟩ : ∃ u, u = rnds 64 v (sched bk) := ⟨_, rfl⟩
   rw [← hu] at st
   have e0 : hashC v bk hv n = (ws (addI v u 0) ++ (bs bk ++ [.int .i64 hv, u64 n])).toArray := by simp [hashC, addI_zero]
   rw [e0] at st
   refine wc_region ?_
   refine wl_val (v_load rfl (st.reads 0 rfl TF.t166 (getV_all (c := (ws u.l).toArray) rfl))) rfl ?_
   refine wl_val (v_move' (by conv => (lhs; whnf))) rfl ?_
   refine wl_nil ?_
   refine then_go ?_
   refine wc_block ?_
   refine wc_loop (S := Nat) (fun q r w' => ∃ i, q + i = 8 ∧ r 0 = .pointer (some ⟨b, 0, none⟩) ∧ r 95 = arr32 u.l ∧ r 96 = .int .i64 i ∧
    St m m [b] wI w' [K.blk b4 (ws u.l).toArray 166, K.blk b3 (ws kk).toArray 176, K.blk b2 (ws (sched bk)).toArray 176, K.blk b (ws (addI v u i) ++ (bs bk ++ [.int .i64 hv, u64 n])).toArray 175]) id 8 ⟨0, rfl, rfl, rfl, rfl, st⟩ ?_
   rintro q2 r w3 ⟨i, hqi, h0, h95, h96, st⟩
   refine wc_o 0 h0 (wc_o 95 h95 (wc_o 96 h96 ?_))
   refine wc_seq ?_
   refine wc_region ?_
   refine wl_val (v_lss rfl rfl) rfl ?_
   refine wl_nil ?_
   refine then_go ?_
   refine wc_seq ?_
   refine wc_if rfl (fun h97 => ?_) (fun h97 => ?_)
   ·refine wc_skip ?_
    refine then_go ?_
    refine wc_seq ?_
    refine wc_block ?_
    refine wc_seq ?_
    have hi : i < 8 := by omega
    refine wc_region ?_
    refine wl_val (v_move' (by conv => (lhs; whnf))) rfl ?_
    refine wl_val (v_index_a (v := u32 (u.l.getD i 0)) Tryz.underlying166 TF.t160 rfl rfl (by omega) (by omega) (getV_wse (j := i) (by simp) (by rw [length_l]; omega))) rfl ?_
    refine wl_val (v_assign' (by conv => (lhs; whnf))) rfl ?_
    refine wl_val (v_assign' (by conv => (lhs; whnf))) rfl ?_
    refine wl_nil ?_
    refine then_go ?_
    refine wc_draw TF.mixed ?_
    have st := st.pure (touch_drew _)
    refine fl_val 0 rfl (fun _ => (v_move' (by conv => (lhs; whnf)))) rfl (by kernel_rfl) ?_
    refine fl_val 1 rfl (fun _ => (v_move' (by conv => (lhs; whnf)))) rfl (by kernel_rfl) ?_
    refine fl_val 2 rfl (fun _ => (v_nil rfl)) rfl (by kernel_rfl) ?_
    refine fl_val 3 rfl (fun _ => (v_fa TF.f175_0 rfl)) rfl (by kernel_rfl) ?_
    refine fl_val 4 rfl (fun _ => (v_iaa i Tryz.underlying166 TF.t160 rfl rfl (by first | rfl | omega) (by first | omega | (dsimp only at *; omega)))) rfl (by kernel_rfl) ?_
    refine fl_ld 5 rfl (v_load rfl (st.reads (v := u32 (v.l.getD i 0)) 3 rfl TF.t160 (by rw [← addI_at v u i hi]; exact getV_ws (j := i) (by omega) (by rw [length_addI]; omega)))) (by kernel_rfl) ?_
    refine fl_val 6 rfl (fun _ => (v_move' (by conv => (lhs; whnf)))) rfl (by kernel_rfl) ?_
    refine fl_val 7 rfl (fun _ => (v_add32 rfl rfl)) rfl (by kernel_rfl) ?_
    refine fl_val 8 rfl (fun _ => (v_nil rfl)) rfl (by kernel_rfl) ?_
    refine fl_val 9 rfl (fun _ => (v_fa TF.f175_0 rfl)) rfl (by kernel_rfl) ?_
    refine fl_val 10 rfl (fun _ => (v_iaa i Tryz.underlying166 TF.t160 rfl rfl (by first | rfl | omega) (by first | omega | (dsimp only at *; omega)))) rfl (by kernel_rfl) ?_
    refine fl_eff1 11 [9, 8] [] (by kernel_rfl) ⟨obl_ld rfl rfl rfl (v_load rfl (st.reads (v := u32 (v.l.getD i 0)) 3 rfl TF.t160 (by rw [← addI_at v u i hi]; exact getV_ws (j := i) (by omega) (by rw [length_addI]; omega)))), trivial⟩ rfl ?_
    refine wl_store1 (v := u32 (v.l.getD i 0 + u.l.getD i 0)) 3 st rfl TF.t160 rfl rfl rfl (by simp [ws, length_addI]; omega) ?_
    intro w st
    refine wl_nil ⟨rfl, ?_⟩
    refine fl_nil (by kernel_rfl) trivial ?_
    refine block_go (then_go ?_)
    refine wc_region ?_
    refine wl_val (v_add' rfl rfl rfl (by first | omega | (dsimp only at *; omega)) (by first | omega | (dsimp only at *; omega))) rfl ?_
    refine wl_val (v_move' (by conv => (lhs; whnf))) rfl ?_
    refine wl_nil ?_
    refine then_go ?_
    refine ⟨q2 - 1, by simp; omega, i + 1, by omega, rfl, rfl, rfl, ?_⟩
    have e := set_ws (L := addI v u i) (X := bs bk ++ [.int .i64 hv, u64 n]) (o := 0 + 0 + i * 1) (i := i) (y := v.l.getD i 0 + u.l.getD i 0) (by omega) (by rw [length_addI]; omega)
    rw [addI_succ] at e
    rw [← e]
    exact st
   ·refine wc_exit (then_exit (then_exit (block_hit ?_)))
    refine then_go ?_
    have hi8 : i = 8 := by omega
    subst hi8
    rw [addI_all, hu] at st
    refine wc_region ?_
    refine wl_val (v_move' (by conv => (lhs; whnf))) rfl ?_
    refine wl_val (v_nil rfl) rfl ?_
    refine wl_val (v_fa TF.f175_2 rfl) rfl ?_
    refine wl_store1 (v := .int .i64 0) 3 st rfl TF.t3 rfl rfl rfl (by simp [ws, bs, hl, length_l]) ?_
    intro w st
    refine wl_nil ?_
    have e : (ws (v.add (rnds 64 v (sched bk))).l ++ (bs bk ++ [.int .i64 hv, u64 n])).toArray.setIfInBounds (0 + 72) (.int .i64 0) = hashC (comp v bk) bk 0 n := by
     have := set_app (A := ws (v.add (rnds 64 v (sched bk))).l ++ bs bk) (B := [u64 n]) (x := .int .i64 0) (y := .int .i64 hv) (n := 0 + 72) (by simp [ws, bs, hl, length_l])
     rw [← List.append_assoc]
     rw [show [Value.int .i64 hv, u64 n] = Value.int .i64 hv :: [u64 n] from rfl, this]
     rfl
    have hfin := st.at (i := 3) rfl
    rw [e] at hfin
    exact end0 ⟨st.touch, hfin⟩
 refine fl_val 0 rfl (fun _ => (v_move' (by conv => (lhs; whnf)))) rfl (by kernel_rfl) ?_
 refine fl_val 1 rfl (fun _ => (v_nil rfl)) rfl (by kernel_rfl) ?_
 refine fl_val 2 rfl (fun _ => (v_fa TF.f175_1 rfl)) rfl (by kernel_rfl) ?_
 refine fl_val 5 rfl (fun _ => (v_move' (by conv => (lhs; whnf)))) rfl (by kernel_rfl) ?_
 refine fl_val 6 rfl (fun _ => (v_nil rfl)) rfl (by kernel_rfl) ?_
 refine fl_val 7 rfl (fun _ => (v_fa TF.f175_0 rfl)) rfl (by kernel_rfl) ?_
 refine fl_ld 8 rfl (v_load rfl (by first | exact st.reads 0 rfl TF.t166 (getV_state ..) | exact st.reads 1 rfl TF.t166 (getV_state ..) | exact st.reads 2 rfl TF.t166 (getV_state ..) | exact st.reads 3 rfl TF.t166 (getV_state ..))) (by kernel_rfl) ?_
 refine fl_effs [3, 9, 10, 11] (by kernel_rfl) ⟨obl_ld rfl rfl rfl (v_load rfl (by first | exact st.reads 0 rfl TF.t166 (getV_state ..) | exact st.reads 1 rfl TF.t166 (getV_state ..) | exact st.reads 2 rfl TF.t166 (getV_state ..) | exact st.reads 3 rfl TF.t166 (getV_state ..))), trivial⟩ (all4 ?_ ?_ ?_ ?_)
 ·refine stepE 3 (pure' := [7, 6, 5, 1, 0]) (lds' := [8]) rfl (by kernel_rfl) (by kernel_rfl) ?_
  refine wl_call rfl (by first | exact c_spreadS st 0 rfl hl | exact c_spreadS st 1 rfl hl | exact c_spreadS st 2 rfl hl | exact c_spreadS st 3 rfl hl) rfl ?_
  rintro v15 w ⟨t, rfl⟩
  have st := st.pure t
  refine wl_nil ⟨rfl, ?_⟩
  refine fl_effs [4, 9, 10, 11] (by kernel_rfl) ⟨obl_ld rfl rfl rfl (v_load rfl (by first | exact st.reads 0 rfl TF.t166 (getV_state ..) | exact st.reads 1 rfl TF.t166 (getV_state ..) | exact st.reads 2 rfl TF.t166 (getV_state ..) | exact st.reads 3 rfl TF.t166 (getV_state ..))), trivial⟩ (all4 ?_ ?_ ?_ ?_)
  ·refine stepE 4 (pure' := [7, 6, 5, 1, 0]) (lds' := [8]) rfl (by kernel_rfl) (by kernel_rfl) ?_
   refine wl_call rfl (c_factors st.im) rfl ?_
   rintro v16 w ⟨t, rfl⟩
   have st := st.pure t
   refine wl_nil ⟨rfl, ?_⟩
   refine fl_effs [9, 10, 11] (by kernel_rfl) ⟨obl_ld rfl rfl rfl (v_load rfl (by first | exact st.reads 0 rfl TF.t166 (getV_state ..) | exact st.reads 1 rfl TF.t166 (getV_state ..) | exact st.reads 2 rfl TF.t166 (getV_state ..) | exact st.reads 3 rfl TF.t166 (getV_state ..))), trivial⟩ (all3 ?_ ?_ ?_)
   ·refine stepE 9 (pure' := [7, 6, 5, 1, 0]) (lds' := [8]) rfl (by kernel_rfl) (by kernel_rfl) ?_
    refine wl_alloc TF.z176 st rfl ?_
    intro b2 w st
    refine wl_nil ⟨rfl, ?_⟩
    refine fl_effs [10, 11] (by kernel_rfl) ⟨obl_ld rfl rfl rfl (v_load rfl (by first | exact st.reads 0 rfl TF.t166 (getV_state ..) | exact st.reads 1 rfl TF.t166 (getV_state ..) | exact st.reads 2 rfl TF.t166 (getV_state ..) | exact st.reads 3 rfl TF.t166 (getV_state ..))), trivial⟩ (all2 ?_ ?_)
    ·refine stepE 10 (pure' := [7, 6, 5, 1, 0]) (lds' := [8]) rfl (by kernel_rfl) (by kernel_rfl) ?_
     refine wl_alloc TF.z176 st rfl ?_
     intro b3 w st
     refine wl_nil ⟨rfl, ?_⟩
     refine fl_eff1 11 [7, 6, 5, 1, 0] [8] (by kernel_rfl) ⟨obl_ld rfl rfl rfl (v_load rfl (by first | exact st.reads 0 rfl TF.t166 (getV_state ..) | exact st.reads 1 rfl TF.t166 (getV_state ..) | exact st.reads 2 rfl TF.t166 (getV_state ..) | exact st.reads 3 rfl TF.t166 (getV_state ..))), trivial⟩ rfl ?_
     refine wl_alloc TF.z166 st rfl ?_
     intro b4 w st
     refine wl_nil ⟨rfl, ?_⟩
     refine FL.permB [11, 10, 9, 4, 3, 8, 7, 6, 5, 2, 1, 0] [7, 6, 5, 1, 0] [8] (by kernel_rfl) ?_
     exact fin _ _ _ _ _ rfl rfl rfl rfl rfl rfl rfl rfl rfl rfl (by first | exact st | exact st.perm p3_2 | exact st.perm p3_3 | exact st.perm p3_4 | exact st.perm p3_5 | exact st.perm p3_6)
    ·refine stepE 11 (pure' := [7, 6, 5, 1, 0]) (lds' := [8]) rfl (by kernel_rfl) (by kernel_rfl) ?_
     refine wl_alloc TF.z166 st rfl ?_
     intro b4 w st
     refine wl_nil ⟨rfl, ?_⟩
     refine fl_eff1 10 [7, 6, 5, 1, 0] [8] (by kernel_rfl) ⟨obl_ld rfl rfl rfl (v_load rfl (by first | exact st.reads 0 rfl TF.t166 (getV_state ..) | exact st.reads 1 rfl TF.t166 (getV_state ..) | exact st.reads 2 rfl TF.t166 (getV_state ..) | exact st.reads 3 rfl TF.t166 (getV_state ..))), trivial⟩ rfl ?_
     refine wl_alloc TF.z176 st rfl ?_
     intro b3 w st
     refine wl_nil ⟨rfl, ?_⟩
     refine FL.permB [11, 10, 9, 4, 3, 8, 7, 6, 5, 2, 1, 0] [7, 6, 5, 1, 0] [8] (by kernel_rfl) ?_
     exact fin _ _ _ _ _ rfl rfl rfl rfl rfl rfl rfl rfl rfl rfl (by first | exact st | exact st.perm p3_2 | exact st.perm p3_3 | exact st.perm p3_4 | exact st.perm p3_5 | exact st.perm p3_6)
   ·refine stepE 10 (pure' := [7, 6, 5, 1, 0]) (lds' := [8]) rfl (by kernel_rfl) (by kernel_rfl) ?_
    refine wl_alloc TF.z176 st rfl ?_
    intro b3 w st
    refine wl_nil ⟨rfl, ?_⟩
    refine fl_effs [9, 11] (by kernel_rfl) ⟨obl_ld rfl rfl rfl (v_load rfl (by first | exact st.reads 0 rfl TF.t166 (getV_state ..) | exact st.reads 1 rfl TF.t166 (getV_state ..) | exact st.reads 2 rfl TF.t166 (getV_state ..) | exact st.reads 3 rfl TF.t166 (getV_state ..))), trivial⟩ (all2 ?_ ?_)
    ·refine stepE 9 (pure' := [7, 6, 5, 1, 0]) (lds' := [8]) rfl (by kernel_rfl) (by kernel_rfl) ?_
     refine wl_alloc TF.z176 st rfl ?_
     intro b2 w st
     refine wl_nil ⟨rfl, ?_⟩
     refine fl_eff1 11 [7, 6, 5, 1, 0] [8] (by kernel_rfl) ⟨obl_ld rfl rfl rfl (v_load rfl (by first | exact st.reads 0 rfl TF.t166 (getV_state ..) | exact st.reads 1 rfl TF.t166 (getV_state ..) | exact st.reads 2 rfl TF.t166 (getV_state ..) | exact st.reads 3 rfl TF.t166 (getV_state ..))), trivial⟩ rfl ?_
     refine wl_alloc TF.z166 st rfl ?_
     intro b4 w st
     refine wl_nil ⟨rfl, ?_⟩
     refine FL.permB [11, 10, 9, 4, 3, 8, 7, 6, 5, 2, 1, 0] [7, 6, 5, 1, 0] [8] (by kernel_rfl) ?_
     exact fin _ _ _ _ _ rfl rfl rfl rfl rfl rfl rfl rfl rfl rfl (by first | exact st | exact st.perm p3_2 | exact st.perm p3_3 | exact st.perm p3_4 | exact st.perm p3_5 | exact st.perm p3_6)
    ·refine stepE 11 (pure' := [7, 6, 5, 1, 0]) (lds' := [8]) rfl (by kernel_rfl) (by kernel_rfl) ?_
     refine wl_alloc TF.z166 st rfl ?_
     intro b4 w st
     refine wl_nil ⟨rfl, ?_⟩
     refine fl_eff1 9 [7, 6, 5, 1, 0] [8] (by kernel_rfl) ⟨obl_ld rfl rfl rfl (v_load rfl (by first | exact st.reads 0 rfl TF.t166 (getV_state ..) | exact st.reads 1 rfl TF.t166 (getV_state ..) | exact st.reads 2 rfl TF.t166 (getV_state ..) | exact st.reads 3 rfl TF.t166 (getV_state ..))), trivial⟩ rfl ?_
     refine wl_alloc TF.z176 st rfl ?_
     intro b2 w st
     refine wl_nil ⟨rfl, ?_⟩
     refine FL.permB [11, 10, 9, 4, 3, 8, 7, 6, 5, 2, 1, 0] [7, 6, 5, 1, 0] [8] (by kernel_rfl) ?_
     exact fin _ _ _ _ _ rfl rfl rfl rfl rfl rfl rfl rfl rfl rfl (by first | exact st | exact st.perm p3_2 | exact st.perm p3_3 | exact st.perm p3_4 | exact st.perm p3_5 | exact st.perm p3_6)
   ·refine stepE 11 (pure' := [7, 6, 5, 1, 0]) (lds' := [8]) rfl (by kernel_rfl) (by kernel_rfl) ?_
    refine wl_alloc TF.z166 st rfl ?_
    intro b4 w st
    refine wl_nil ⟨rfl, ?_⟩
    refine fl_effs [9, 10] (by kernel_rfl) ⟨obl_ld rfl rfl rfl (v_load rfl (by first | exact st.reads 0 rfl TF.t166 (getV_state ..) | exact st.reads 1 rfl TF.t166 (getV_state ..) | exact st.reads 2 rfl TF.t166 (getV_state ..) | exact st.reads 3 rfl TF.t166 (getV_state ..))), trivial⟩ (all2 ?_ ?_)
    ·refine stepE 9 (pure' := [7, 6, 5, 1, 0]) (lds' := [8]) rfl (by kernel_rfl) (by kernel_rfl) ?_
     refine wl_alloc TF.z176 st rfl ?_
     intro b2 w st
     refine wl_nil ⟨rfl, ?_⟩
     refine fl_eff1 10 [7, 6, 5, 1, 0] [8] (by kernel_rfl) ⟨obl_ld rfl rfl rfl (v_load rfl (by first | exact st.reads 0 rfl TF.t166 (getV_state ..) | exact st.reads 1 rfl TF.t166 (getV_state ..) | exact st.reads 2 rfl TF.t166 (getV_state ..) | exact st.reads 3 rfl TF.t166 (getV_state ..))), trivial⟩ rfl ?_
     refine wl_alloc TF.z176 st rfl ?_
     intro b3 w st
     refine wl_nil ⟨rfl, ?_⟩
     refine FL.permB [11, 10, 9, 4, 3, 8, 7, 6, 5, 2, 1, 0] [7, 6, 5, 1, 0] [8] (by kernel_rfl) ?_
     exact fin _ _ _ _ _ rfl rfl rfl rfl rfl rfl rfl rfl rfl rfl (by first | exact st | exact st.perm p3_2 | exact st.perm p3_3 | exact st.perm p3_4 | exact st.perm p3_5 | exact st.perm p3_6)
    ·refine stepE 10 (pure' := [7, 6, 5, 1, 0]) (lds' := [8]) rfl (by kernel_rfl) (by kernel_rfl) ?_
     refine wl_alloc TF.z176 st rfl ?_
     intro b3 w st
     refine wl_nil ⟨rfl, ?_⟩
     refine fl_eff1 9 [7, 6, 5, 1, 0] [8] (by kernel_rfl) ⟨obl_ld rfl rfl rfl (v_load rfl (by first | exact st.reads 0 rfl TF.t166 (getV_state ..) | exact st.reads 1 rfl TF.t166 (getV_state ..) | exact st.reads 2 rfl TF.t166 (getV_state ..) | exact st.reads 3 rfl TF.t166 (getV_state ..))), trivial⟩ rfl ?_
     refine wl_alloc TF.z176 st rfl ?_
     intro b2 w st
     refine wl_nil ⟨rfl, ?_⟩
     refine FL.permB [11, 10, 9, 4, 3, 8, 7, 6, 5, 2, 1, 0] [7, 6, 5, 1, 0] [8] (by kernel_rfl) ?_
     exact fin _ _ _ _ _ rfl rfl rfl rfl rfl rfl rfl rfl rfl rfl (by first | exact st | exact st.perm p3_2 | exact st.perm p3_3 | exact st.perm p3_4 | exact st.perm p3_5 | exact st.perm p3_6)
  ·refine stepE 9 (pure' := [7, 6, 5, 1, 0]) (lds' := [8]) rfl (by kernel_rfl) (by kernel_rfl) ?_
   refine wl_alloc TF.z176 st rfl ?_
   intro b2 w st
   refine wl_nil ⟨rfl, ?_⟩
   refine fl_effs [4, 10, 11] (by kernel_rfl) ⟨obl_ld rfl rfl rfl (v_load rfl (by first | exact st.reads 0 rfl TF.t166 (getV_state ..) | exact st.reads 1 rfl TF.t166 (getV_state ..) | exact st.reads 2 rfl TF.t166 (getV_state ..) | exact st.reads 3 rfl TF.t166 (getV_state ..))), trivial⟩ (all3 ?_ ?_ ?_)
   ·refine stepE 4 (pure' := [7, 6, 5, 1, 0]) (lds' := [8]) rfl (by kernel_rfl) (by kernel_rfl) ?_
    refine wl_call rfl (c_factors st.im) rfl ?_
    rintro v16 w ⟨t, rfl⟩
    have st := st.pure t
    refine wl_nil ⟨rfl, ?_⟩
    refine fl_effs [10, 11] (by kernel_rfl) ⟨obl_ld rfl rfl rfl (v_load rfl (by first | exact st.reads 0 rfl TF.t166 (getV_state ..) | exact st.reads 1 rfl TF.t166 (getV_state ..) | exact st.reads 2 rfl TF.t166 (getV_state ..) | exact st.reads 3 rfl TF.t166 (getV_state ..))), trivial⟩ (all2 ?_ ?_)
    ·refine stepE 10 (pure' := [7, 6, 5, 1, 0]) (lds' := [8]) rfl (by kernel_rfl) (by kernel_rfl) ?_
     refine wl_alloc TF.z176 st rfl ?_
     intro b3 w st
     refine wl_nil ⟨rfl, ?_⟩
     refine fl_eff1 11 [7, 6, 5, 1, 0] [8] (by kernel_rfl) ⟨obl_ld rfl rfl rfl (v_load rfl (by first | exact st.reads 0 rfl TF.t166 (getV_state ..) | exact st.reads 1 rfl TF.t166 (getV_state ..) | exact st.reads 2 rfl TF.t166 (getV_state ..) | exact st.reads 3 rfl TF.t166 (getV_state ..))), trivial⟩ rfl ?_
     refine wl_alloc TF.z166 st rfl ?_
     intro b4 w st
     refine wl_nil ⟨rfl, ?_⟩
     refine FL.permB [11, 10, 9, 4, 3, 8, 7, 6, 5, 2, 1, 0] [7, 6, 5, 1, 0] [8] (by kernel_rfl) ?_
     exact fin _ _ _ _ _ rfl rfl rfl rfl rfl rfl rfl rfl rfl rfl (by first | exact st | exact st.perm p3_2 | exact st.perm p3_3 | exact st.perm p3_4 | exact st.perm p3_5 | exact st.perm p3_6)
    ·refine stepE 11 (pure' := [7, 6, 5, 1, 0]) (lds' := [8]) rfl (by kernel_rfl) (by kernel_rfl) ?_
     refine wl_alloc TF.z166 st rfl ?_
     intro b4 w st
     refine wl_nil ⟨rfl, ?_⟩
     refine fl_eff1 10 [7, 6, 5, 1, 0] [8] (by kernel_rfl) ⟨obl_ld rfl rfl rfl (v_load rfl (by first | exact st.reads 0 rfl TF.t166 (getV_state ..) | exact st.reads 1 rfl TF.t166 (getV_state ..) | exact st.reads 2 rfl TF.t166 (getV_state ..) | exact st.reads 3 rfl TF.t166 (getV_state ..))), trivial⟩ rfl ?_
     refine wl_alloc TF.z176 st rfl ?_
     intro b3 w st
     refine wl_nil ⟨rfl, ?_⟩
     refine FL.permB [11, 10, 9, 4, 3, 8, 7, 6, 5, 2, 1, 0] [7, 6, 5, 1, 0] [8] (by kernel_rfl) ?_
     exact fin _ _ _ _ _ rfl rfl rfl rfl rfl rfl rfl rfl rfl rfl (by first | exact st | exact st.perm p3_2 | exact st.perm p3_3 | exact st.perm p3_4 | exact st.perm p3_5 | exact st.perm p3_6)
   ·refine stepE 10 (pure' := [7, 6, 5, 1, 0]) (lds' := [8]) rfl (by kernel_rfl) (by kernel_rfl) ?_
    refine wl_alloc TF.z176 st rfl ?_
    intro b3 w st
    refine wl_nil ⟨rfl, ?_⟩
    refine fl_effs [4, 11] (by kernel_rfl) ⟨obl_ld rfl rfl rfl (v_load rfl (by first | exact st.reads 0 rfl TF.t166 (getV_state ..) | exact st.reads 1 rfl TF.t166 (getV_state ..) | exact st.reads 2 rfl TF.t166 (getV_state ..) | exact st.reads 3 rfl TF.t166 (getV_state ..))), trivial⟩ (all2 ?_ ?_)
    ·refine stepE 4 (pure' := [7, 6, 5, 1, 0]) (lds' := [8]) rfl (by kernel_rfl) (by kernel_rfl) ?_
     refine wl_call rfl (c_factors st.im) rfl ?_
     rintro v16 w ⟨t, rfl⟩
     have st := st.pure t
     refine wl_nil ⟨rfl, ?_⟩
     refine fl_eff1 11 [7, 6, 5, 1, 0] [8] (by kernel_rfl) ⟨obl_ld rfl rfl rfl (v_load rfl (by first | exact st.reads 0 rfl TF.t166 (getV_state ..) | exact st.reads 1 rfl TF.t166 (getV_state ..) | exact st.reads 2 rfl TF.t166 (getV_state ..) | exact st.reads 3 rfl TF.t166 (getV_state ..))), trivial⟩ rfl ?_
     refine wl_alloc TF.z166 st rfl ?_
     intro b4 w st
     refine wl_nil ⟨rfl, ?_⟩
     refine FL.permB [11, 10, 9, 4, 3, 8, 7, 6, 5, 2, 1, 0] [7, 6, 5, 1, 0] [8] (by kernel_rfl) ?_
     exact fin _ _ _ _ _ rfl rfl rfl rfl rfl rfl rfl rfl rfl rfl (by first | exact st | exact st.perm p3_2 | exact st.perm p3_3 | exact st.perm p3_4 | exact st.perm p3_5 | exact st.perm p3_6)
    ·refine stepE 11 (pure' := [7, 6, 5, 1, 0]) (lds' := [8]) rfl (by kernel_rfl) (by kernel_rfl) ?_
     refine wl_alloc TF.z166 st rfl ?_
     intro b4 w st
     refine wl_nil ⟨rfl, ?_⟩
     refine fl_eff1 4 [7, 6, 5, 1, 0] [8] (by kernel_rfl) ⟨obl_ld rfl rfl rfl (v_load rfl (by first | exact st.reads 0 rfl TF.t166 (getV_state ..) | exact st.reads 1 rfl TF.t166 (getV_state ..) | exact st.reads 2 rfl TF.t166 (getV_state ..) | exact st.reads 3 rfl TF.t166 (getV_state ..))), trivial⟩ rfl ?_
     refine wl_call rfl (c_factors st.im) rfl ?_
     rintro v16 w ⟨t, rfl⟩
     have st := st.pure t
     refine wl_nil ⟨rfl, ?_⟩
     refine FL.permB [11, 10, 9, 4, 3, 8, 7, 6, 5, 2, 1, 0] [7, 6, 5, 1, 0] [8] (by kernel_rfl) ?_
     exact fin _ _ _ _ _ rfl rfl rfl rfl rfl rfl rfl rfl rfl rfl (by first | exact st | exact st.perm p3_2 | exact st.perm p3_3 | exact st.perm p3_4 | exact st.perm p3_5 | exact st.perm p3_6)
   ·refine stepE 11 (pure' := [7, 6, 5, 1, 0]) (lds' := [8]) rfl (by kernel_rfl) (by kernel_rfl) ?_
    refine wl_alloc TF.z166 st rfl ?_
    intro b4 w st
    refine wl_nil ⟨rfl, ?_⟩
    refine fl_effs [4, 10] (by kernel_rfl) ⟨obl_ld rfl rfl rfl (v_load rfl (by first | exact st.reads 0 rfl TF.t166 (getV_state ..) | exact st.reads 1 rfl TF.t166 (getV_state ..) | exact st.reads 2 rfl TF.t166 (getV_state ..) | exact st.reads 3 rfl TF.t166 (getV_state ..))), trivial⟩ (all2 ?_ ?_)
    ·refine stepE 4 (pure' := [7, 6, 5, 1, 0]) (lds' := [8]) rfl (by kernel_rfl) (by kernel_rfl) ?_
     refine wl_call rfl (c_factors st.im) rfl ?_
     rintro v16 w ⟨t, rfl⟩
     have st := st.pure t
     refine wl_nil ⟨rfl, ?_⟩
     refine fl_eff1 10 [7, 6, 5, 1, 0] [8] (by kernel_rfl) ⟨obl_ld rfl rfl rfl (v_load rfl (by first | exact st.reads 0 rfl TF.t166 (getV_state ..) | exact st.reads 1 rfl TF.t166 (getV_state ..) | exact st.reads 2 rfl TF.t166 (getV_state ..) | exact st.reads 3 rfl TF.t166 (getV_state ..))), trivial⟩ rfl ?_
     refine wl_alloc TF.z176 st rfl ?_
     intro b3 w st
     refine wl_nil ⟨rfl, ?_⟩
     refine FL.permB [11, 10, 9, 4, 3, 8, 7, 6, 5, 2, 1, 0] [7, 6, 5, 1, 0] [8] (by kernel_rfl) ?_
     exact fin _ _ _ _ _ rfl rfl rfl rfl rfl rfl rfl rfl rfl rfl (by first | exact st | exact st.perm p3_2 | exact st.perm p3_3 | exact st.perm p3_4 | exact st.perm p3_5 | exact st.perm p3_6)
    ·refine stepE 10 (pure' := [7, 6, 5, 1, 0]) (lds' := [8]) rfl (by kernel_rfl) (by kernel_rfl) ?_
     refine wl_alloc TF.z176 st rfl ?_
     intro b3 w st
     refine wl_nil ⟨rfl, ?_⟩
     refine fl_eff1 4 [7, 6, 5, 1, 0] [8] (by kernel_rfl) ⟨obl_ld rfl rfl rfl (v_load rfl (by first | exact st.reads 0 rfl TF.t166 (getV_state ..) | exact st.reads 1 rfl TF.t166 (getV_state ..) | exact st.reads 2 rfl TF.t166 (getV_state ..) | exact st.reads 3 rfl TF.t166 (getV_state ..))), trivial⟩ rfl ?_
     refine wl_call rfl (c_factors st.im) rfl ?_
     rintro v16 w ⟨t, rfl⟩
     have st := st.pure t
     refine wl_nil ⟨rfl, ?_⟩
     refine FL.permB [11, 10, 9, 4, 3, 8, 7, 6, 5, 2, 1, 0] [7, 6, 5, 1, 0] [8] (by kernel_rfl) ?_
     exact fin _ _ _ _ _ rfl rfl rfl rfl rfl rfl rfl rfl rfl rfl (by first | exact st | exact st.perm p3_2 | exact st.perm p3_3 | exact st.perm p3_4 | exact st.perm p3_5 | exact st.perm p3_6)
  ·refine stepE 10 (pure' := [7, 6, 5, 1, 0]) (lds' := [8]) rfl (by kernel_rfl) (by kernel_rfl) ?_
   refine wl_alloc TF.z176 st rfl ?_
   intro b3 w st
   refine wl_nil ⟨rfl, ?_⟩
   refine fl_effs [4, 9, 11] (by kernel_rfl) ⟨obl_ld rfl rfl rfl (v_load rfl (by first | exact st.reads 0 rfl TF.t166 (getV_state ..) | exact st.reads 1 rfl TF.t166 (getV_state ..) | exact st.reads 2 rfl TF.t166 (getV_state ..) | exact st.reads 3 rfl TF.t166 (getV_state ..))), trivial⟩ (all3 ?_ ?_ ?_)
   ·refine stepE 4 (pure' := [7, 6, 5, 1, 0]) (lds' := [8]) rfl (by kernel_rfl) (by kernel_rfl) ?_
    refine wl_call rfl (c_factors st.im) rfl ?_
    rintro v16 w ⟨t, rfl⟩
    have st := st.pure t
    refine wl_nil ⟨rfl, ?_⟩
    refine fl_effs [9, 11] (by kernel_rfl) ⟨obl_ld rfl rfl rfl (v_load rfl (by first | exact st.reads 0 rfl TF.t166 (getV_state ..) | exact st.reads 1 rfl TF.t166 (getV_state ..) | exact st.reads 2 rfl TF.t166 (getV_state ..) | exact st.reads 3 rfl TF.t166 (getV_state ..))), trivial⟩ (all2 ?_ ?_)
    ·refine stepE 9 (pure' := [7, 6, 5, 1, 0]) (lds' := [8]) rfl (by kernel_rfl) (by kernel_rfl) ?_
     refine wl_alloc TF.z176 st rfl ?_
     intro b2 w st
     refine wl_nil ⟨rfl, ?_⟩
     refine fl_eff1 11 [7, 6, 5, 1, 0] [8] (by kernel_rfl) ⟨obl_ld rfl rfl rfl (v_load rfl (by first | exact st.reads 0 rfl TF.t166 (getV_state ..) | exact st.reads 1 rfl TF.t166 (getV_state ..) | exact st.reads 2 rfl TF.t166 (getV_state ..) | exact st.reads 3 rfl TF.t166 (getV_state ..))), trivial⟩ rfl ?_
     refine wl_alloc TF.z166 st rfl ?_
     intro b4 w st
     refine wl_nil ⟨rfl, ?_⟩
     refine FL.permB [11, 10, 9, 4, 3, 8, 7, 6, 5, 2, 1, 0] [7, 6, 5, 1, 0] [8] (by kernel_rfl) ?_
     exact fin _ _ _ _ _ rfl rfl rfl rfl rfl rfl rfl rfl rfl rfl (by first | exact st | exact st.perm p3_2 | exact st.perm p3_3 | exact st.perm p3_4 | exact st.perm p3_5 | exact st.perm p3_6)
    ·refine stepE 11 (pure' := [7, 6, 5, 1, 0]) (lds' := [8]) rfl (by kernel_rfl) (by kernel_rfl) ?_
     refine wl_alloc TF.z166 st rfl ?_
     intro b4 w st
     refine wl_nil ⟨rfl, ?_⟩
     refine fl_eff1 9 [7, 6, 5, 1, 0] [8] (by kernel_rfl) ⟨obl_ld rfl rfl rfl (v_load rfl (by first | exact st.reads 0 rfl TF.t166 (getV_state ..) | exact st.reads 1 rfl TF.t166 (getV_state ..) | exact st.reads 2 rfl TF.t166 (getV_state ..) | exact st.reads 3 rfl TF.t166 (getV_state ..))), trivial⟩ rfl ?_
     refine wl_alloc TF.z176 st rfl ?_
     intro b2 w st
     refine wl_nil ⟨rfl, ?_⟩
     refine FL.permB [11, 10, 9, 4, 3, 8, 7, 6, 5, 2, 1, 0] [7, 6, 5, 1, 0] [8] (by kernel_rfl) ?_
     exact fin _ _ _ _ _ rfl rfl rfl rfl rfl rfl rfl rfl rfl rfl (by first | exact st | exact st.perm p3_2 | exact st.perm p3_3 | exact st.perm p3_4 | exact st.perm p3_5 | exact st.perm p3_6)
   ·refine stepE 9 (pure' := [7, 6, 5, 1, 0]) (lds' := [8]) rfl (by kernel_rfl) (by kernel_rfl) ?_
    refine wl_alloc TF.z176 st rfl ?_
    intro b2 w st
    refine wl_nil ⟨rfl, ?_⟩
    refine fl_effs [4, 11] (by kernel_rfl) ⟨obl_ld rfl rfl rfl (v_load rfl (by first | exact st.reads 0 rfl TF.t166 (getV_state ..) | exact st.reads 1 rfl TF.t166 (getV_state ..) | exact st.reads 2 rfl TF.t166 (getV_state ..) | exact st.reads 3 rfl TF.t166 (getV_state ..))), trivial⟩ (all2 ?_ ?_)
    ·refine stepE 4 (pure' := [7, 6, 5, 1, 0]) (lds' := [8]) rfl (by kernel_rfl) (by kernel_rfl) ?_
     refine wl_call rfl (c_factors st.im) rfl ?_
     rintro v16 w ⟨t, rfl⟩
     have st := st.pure t
     refine wl_nil ⟨rfl, ?_⟩
     refine fl_eff1 11 [7, 6, 5, 1, 0] [8] (by kernel_rfl) ⟨obl_ld rfl rfl rfl (v_load rfl (by first | exact st.reads 0 rfl TF.t166 (getV_state ..) | exact st.reads 1 rfl TF.t166 (getV_state ..) | exact st.reads 2 rfl TF.t166 (getV_state ..) | exact st.reads 3 rfl TF.t166 (getV_state ..))), trivial⟩ rfl ?_
     refine wl_alloc TF.z166 st rfl ?_
     intro b4 w st
     refine wl_nil ⟨rfl, ?_⟩
     refine FL.permB [11, 10, 9, 4, 3, 8, 7, 6, 5, 2, 1, 0] [7, 6, 5, 1, 0] [8] (by kernel_rfl) ?_
     exact fin _ _ _ _ _ rfl rfl rfl rfl rfl rfl rfl rfl rfl rfl (by first | exact st | exact st.perm p3_2 | exact st.perm p3_3 | exact st.perm p3_4 | exact st.perm p3_5 | exact st.perm p3_6)
    ·refine stepE 11 (pure' := [7, 6, 5, 1, 0]) (lds' := [8]) rfl (by kernel_rfl) (by kernel_rfl) ?_
     refine wl_alloc TF.z166 st rfl ?_
     intro b4 w st
     refine wl_nil ⟨rfl, ?_⟩
     refine fl_eff1 4 [7, 6, 5, 1, 0] [8] (by kernel_rfl) ⟨obl_ld rfl rfl rfl (v_load rfl (by first | exact st.reads 0 rfl TF.t166 (getV_state ..) | exact st.reads 1 rfl TF.t166 (getV_state ..) | exact st.reads 2 rfl TF.t166 (getV_state ..) | exact st.reads 3 rfl TF.t166 (getV_state ..))), trivial⟩ rfl ?_
     refine wl_call rfl (c_factors st.im) rfl ?_
     rintro v16 w ⟨t, rfl⟩
     have st := st.pure t
     refine wl_nil ⟨rfl, ?_⟩
     refine FL.permB [11, 10, 9, 4, 3, 8, 7, 6, 5, 2, 1, 0] [7, 6, 5, 1, 0] [8] (by kernel_rfl) ?_
     exact fin _ _ _ _ _ rfl rfl rfl rfl rfl rfl rfl rfl rfl rfl (by first | exact st | exact st.perm p3_2 | exact st.perm p3_3 | exact st.perm p3_4 | exact st.perm p3_5 | exact st.perm p3_6)
   ·refine stepE 11 (pure' := [7, 6, 5, 1, 0]) (lds' := [8]) rfl (by kernel_rfl) (by kernel_rfl) ?_
    refine wl_alloc TF.z166 st rfl ?_
    intro b4 w st
    refine wl_nil ⟨rfl, ?_⟩
    refine fl_effs [4, 9] (by kernel_rfl) ⟨obl_ld rfl rfl rfl (v_load rfl (by first | exact st.reads 0 rfl TF.t166 (getV_state ..) | exact st.reads 1 rfl TF.t166 (getV_state ..) | exact st.reads 2 rfl TF.t166 (getV_state ..) | exact st.reads 3 rfl TF.t166 (getV_state ..))), trivial⟩ (all2 ?_ ?_)
    ·refine stepE 4 (pure' := [7, 6, 5, 1, 0]) (lds' := [8]) rfl (by kernel_rfl) (by kernel_rfl) ?_
     refine wl_call rfl (c_factors st.im) rfl ?_
     rintro v16 w ⟨t, rfl⟩
     have st := st.pure t
     refine wl_nil ⟨rfl, ?_⟩
     refine fl_eff1 9 [7, 6, 5, 1, 0] [8] (by kernel_rfl) ⟨obl_ld rfl rfl rfl (v_load rfl (by first | exact st.reads 0 rfl TF.t166 (getV_state ..) | exact st.reads 1 rfl TF.t166 (getV_state ..) | exact st.reads 2 rfl TF.t166 (getV_state ..) | exact st.reads 3 rfl TF.t166 (getV_state ..))), trivial⟩ rfl ?_
     refine wl_alloc TF.z176 st rfl ?_
     intro b2 w st
     refine wl_nil ⟨rfl, ?_⟩
     refine FL.permB [11, 10, 9, 4, 3, 8, 7, 6, 5, 2, 1, 0] [7, 6, 5, 1, 0] [8] (by kernel_rfl) ?_
     exact fin _ _ _ _ _ rfl rfl rfl rfl rfl rfl rfl rfl rfl rfl (by first | exact st | exact st.perm p3_2 | exact st.perm p3_3 | exact st.perm p3_4 | exact st.perm p3_5 | exact st.perm p3_6)
    ·refine stepE 9 (pure' := [7, 6, 5, 1, 0]) (lds' := [8]) rfl (by kernel_rfl) (by kernel_rfl) ?_
     refine wl_alloc TF.z176 st rfl ?_
     intro b2 w st
     refine wl_nil ⟨rfl, ?_⟩
     refine fl_eff1 4 [7, 6, 5, 1, 0] [8] (by kernel_rfl) ⟨obl_ld rfl rfl rfl (v_load rfl (by first | exact st.reads 0 rfl TF.t166 (getV_state ..) | exact st.reads 1 rfl TF.t166 (getV_state ..) | exact st.reads 2 rfl TF.t166 (getV_state ..) | exact st.reads 3 rfl TF.t166 (getV_state ..))), trivial⟩ rfl ?_
     refine wl_call rfl (c_factors st.im) rfl ?_
     rintro v16 w ⟨t, rfl⟩
     have st := st.pure t
     refine wl_nil ⟨rfl, ?_⟩
     refine FL.permB [11, 10, 9, 4, 3, 8, 7, 6, 5, 2, 1, 0] [7, 6, 5, 1, 0] [8] (by kernel_rfl) ?_
     exact fin _ _ _ _ _ rfl rfl rfl rfl rfl rfl rfl rfl rfl rfl (by first | exact st | exact st.perm p3_2 | exact st.perm p3_3 | exact st.perm p3_4 | exact st.perm p3_5 | exact st.perm p3_6)
  ·refine stepE 11 (pure' := [7, 6, 5, 1, 0]) (lds' := [8]) rfl (by kernel_rfl) (by kernel_rfl) ?_
   refine wl_alloc TF.z166 st rfl ?_
   intro b4 w st
   refine wl_nil ⟨rfl, ?_⟩
   refine fl_effs [4, 9, 10] (by kernel_rfl) ⟨obl_ld rfl rfl rfl (v_load rfl (by first | exact st.reads 0 rfl TF.t166 (getV_state ..) | exact st.reads 1 rfl TF.t166 (getV_state ..) | exact st.reads 2 rfl TF.t166 (getV_state ..) | exact st.reads 3 rfl TF.t166 (getV_state ..))), trivial⟩ (all3 ?_ ?_ ?_)
   ·refine stepE 4 (pure' := [7, 6, 5, 1, 0]) (lds' := [8]) rfl (by kernel_rfl) (by kernel_rfl) ?_
    refine wl_call rfl (c_factors st.im) rfl ?_
    rintro v16 w ⟨t, rfl⟩
    have st := st.pure t
    refine wl_nil ⟨rfl, ?_⟩
    refine fl_effs [9, 10] (by kernel_rfl) ⟨obl_ld rfl rfl rfl (v_load rfl (by first | exact st.reads 0 rfl TF.t166 (getV_state ..) | exact st.reads 1 rfl TF.t166 (getV_state ..) | exact st.reads 2 rfl TF.t166 (getV_state ..) | exact st.reads 3 rfl TF.t166 (getV_state ..))), trivial⟩ (all2 ?_ ?_)
    ·refine stepE 9 (pure' := [7, 6, 5, 1, 0]) (lds' := [8]) rfl (by kernel_rfl) (by kernel_rfl) ?_
     refine wl_alloc TF.z176 st rfl ?_
     intro b2 w st
     refine wl_nil ⟨rfl, ?_⟩
     refine fl_eff1 10 [7, 6, 5, 1, 0] [8] (by kernel_rfl) ⟨obl_ld rfl rfl rfl (v_load rfl (by first | exact st.reads 0 rfl TF.t166 (getV_state ..) | exact st.reads 1 rfl TF.t166 (getV_state ..) | exact st.reads 2 rfl TF.t166 (getV_state ..) | exact st.reads 3 rfl TF.t166 (getV_state ..))), trivial⟩ rfl ?_
     refine wl_alloc TF.z176 st rfl ?_
     intro b3 w st
     refine wl_nil ⟨rfl, ?_⟩
     refine FL.permB [11, 10, 9, 4, 3, 8, 7, 6, 5, 2, 1, 0] [7, 6, 5, 1, 0] [8] (by kernel_rfl) ?_
     exact fin _ _ _ _ _ rfl rfl rfl rfl rfl rfl rfl rfl rfl rfl (by first | exact st | exact st.perm p3_2 | exact st.perm p3_3 | exact st.perm p3_4 | exact st.perm p3_5 | exact st.perm p3_6)
    ·refine stepE 10 (pure' := [7, 6, 5, 1, 0]) (lds' := [8]) rfl (by kernel_rfl) (by kernel_rfl) ?_
     refine wl_alloc TF.z176 st rfl ?_
     intro b3 w st
     refine wl_nil ⟨rfl, ?_⟩
     refine fl_eff1 9 [7, 6, 5, 1, 0] [8] (by kernel_rfl) ⟨obl_ld rfl rfl rfl (v_load rfl (by first | exact st.reads 0 rfl TF.t166 (getV_state ..) | exact st.reads 1 rfl TF.t166 (getV_state ..) | exact st.reads 2 rfl TF.t166 (getV_state ..) | exact st.reads 3 rfl TF.t166 (getV_state ..))), trivial⟩ rfl ?_
     refine wl_alloc TF.z176 st rfl ?_
     intro b2 w st
     refine wl_nil ⟨rfl, ?_⟩
     refine FL.permB [11, 10, 9, 4, 3, 8, 7, 6, 5, 2, 1, 0] [7, 6, 5, 1, 0] [8] (by kernel_rfl) ?_
     exact fin _ _ _ _ _ rfl rfl rfl rfl rfl rfl rfl rfl rfl rfl (by first | exact st | exact st.perm p3_2 | exact st.perm p3_3 | exact st.perm p3_4 | exact st.perm p3_5 | exact st.perm p3_6)
   ·refine stepE 9 (pure' := [7, 6, 5, 1, 0]) (lds' := [8]) rfl (by kernel_rfl) (by kernel_rfl) ?_
    refine wl_alloc TF.z176 st rfl ?_
    intro b2 w st
    refine wl_nil ⟨rfl, ?_⟩
    refine fl_effs [4, 10] (by kernel_rfl) ⟨obl_ld rfl rfl rfl (v_load rfl (by first | exact st.reads 0 rfl TF.t166 (getV_state ..) | exact st.reads 1 rfl TF.t166 (getV_state ..) | exact st.reads 2 rfl TF.t166 (getV_state ..) | exact st.reads 3 rfl TF.t166 (getV_state ..))), trivial⟩ (all2 ?_ ?_)
    ·refine stepE 4 (pure' := [7, 6, 5, 1, 0]) (lds' := [8]) rfl (by kernel_rfl) (by kernel_rfl) ?_
     refine wl_call rfl (c_factors st.im) rfl ?_
     rintro v16 w ⟨t, rfl⟩
     have st := st.pure t
     refine wl_nil ⟨rfl, ?_⟩
     refine fl_eff1 10 [7, 6, 5, 1, 0] [8] (by kernel_rfl) ⟨obl_ld rfl rfl rfl (v_load rfl (by first | exact st.reads 0 rfl TF.t166 (getV_state ..) | exact st.reads 1 rfl TF.t166 (getV_state ..) | exact st.reads 2 rfl TF.t166 (getV_state ..) | exact st.reads 3 rfl TF.t166 (getV_state ..))), trivial⟩ rfl ?_
     refine wl_alloc TF.z176 st rfl ?_
     intro b3 w st
     refine wl_nil ⟨rfl, ?_⟩
     refine FL.permB [11, 10, 9, 4, 3, 8, 7, 6, 5, 2, 1, 0] [7, 6, 5, 1, 0] [8] (by kernel_rfl) ?_
     exact fin _ _ _ _ _ rfl rfl rfl rfl rfl rfl rfl rfl rfl rfl (by first | exact st | exact st.perm p3_2 | exact st.perm p3_3 | exact st.perm p3_4 | exact st.perm p3_5 | exact st.perm p3_6)
    ·refine stepE 10 (pure' := [7, 6, 5, 1, 0]) (lds' := [8]) rfl (by kernel_rfl) (by kernel_rfl) ?_
     refine wl_alloc TF.z176 st rfl ?_
     intro b3 w st
     refine wl_nil ⟨rfl, ?_⟩
     refine fl_eff1 4 [7, 6, 5, 1, 0] [8] (by kernel_rfl) ⟨obl_ld rfl rfl rfl (v_load rfl (by first | exact st.reads 0 rfl TF.t166 (getV_state ..) | exact st.reads 1 rfl TF.t166 (getV_state ..) | exact st.reads 2 rfl TF.t166 (getV_state ..) | exact st.reads 3 rfl TF.t166 (getV_state ..))), trivial⟩ rfl ?_
     refine wl_call rfl (c_factors st.im) rfl ?_
     rintro v16 w ⟨t, rfl⟩
     have st := st.pure t
     refine wl_nil ⟨rfl, ?_⟩
     refine FL.permB [11, 10, 9, 4, 3, 8, 7, 6, 5, 2, 1, 0] [7, 6, 5, 1, 0] [8] (by kernel_rfl) ?_
     exact fin _ _ _ _ _ rfl rfl rfl rfl rfl rfl rfl rfl rfl rfl (by first | exact st | exact st.perm p3_2 | exact st.perm p3_3 | exact st.perm p3_4 | exact st.perm p3_5 | exact st.perm p3_6)
   ·refine stepE 10 (pure' := [7, 6, 5, 1, 0]) (lds' := [8]) rfl (by kernel_rfl) (by kernel_rfl) ?_
    refine wl_alloc TF.z176 st rfl ?_
    intro b3 w st
    refine wl_nil ⟨rfl, ?_⟩
    refine fl_effs [4, 9] (by kernel_rfl) ⟨obl_ld rfl rfl rfl (v_load rfl (by first | exact st.reads 0 rfl TF.t166 (getV_state ..) | exact st.reads 1 rfl TF.t166 (getV_state ..) | exact st.reads 2 rfl TF.t166 (getV_state ..) | exact st.reads 3 rfl TF.t166 (getV_state ..))), trivial⟩ (all2 ?_ ?_)
    ·refine stepE 4 (pure' := [7, 6, 5, 1, 0]) (lds' := [8]) rfl (by kernel_rfl) (by kernel_rfl) ?_
     refine wl_call rfl (c_factors st.im) rfl ?_
     rintro v16 w ⟨t, rfl⟩
     have st := st.pure t
     refine wl_nil ⟨rfl, ?_⟩
     refine fl_eff1 9 [7, 6, 5, 1, 0] [8] (by kernel_rfl) ⟨obl_ld rfl rfl rfl (v_load rfl (by first | exact st.reads 0 rfl TF.t166 (getV_state ..) | exact st.reads 1 rfl TF.t166 (getV_state ..) | exact st.reads 2 rfl TF.t166 (getV_state ..) | exact st.reads 3 rfl TF.t166 (getV_state ..))), trivial⟩ rfl ?_
     refine wl_alloc TF.z176 st rfl ?_
     intro b2 w st
     refine wl_nil ⟨rfl, ?_⟩
     refine FL.permB [11, 10, 9, 4, 3, 8, 7, 6, 5, 2, 1, 0] [7, 6, 5, 1, 0] [8] (by kernel_rfl) ?_
     exact fin _ _ _ _ _ rfl rfl rfl rfl rfl rfl rfl rfl rfl rfl (by first | exact st | exact st.perm p3_2 | exact st.perm p3_3 | exact st.perm p3_4 | exact st.perm p3_5 | exact st.perm p3_6)
    ·refine stepE 9 (pure' := [7, 6, 5, 1, 0]) (lds' := [8]) rfl (by kernel_rfl) (by kernel_rfl) ?_
     refine wl_alloc TF.z176 st rfl ?_
     intro b2 w st
     refine wl_nil ⟨rfl, ?_⟩
     refine fl_eff1 4 [7, 6, 5, 1, 0] [8] (by kernel_rfl) ⟨obl_ld rfl rfl rfl (v_load rfl (by first | exact st.reads 0 rfl TF.t166 (getV_state ..) | exact st.reads 1 rfl TF.t166 (getV_state ..) | exact st.reads 2 rfl TF.t166 (getV_state ..) | exact st.reads 3 rfl TF.t166 (getV_state ..))), trivial⟩ rfl ?_
     refine wl_call rfl (c_factors st.im) rfl ?_
     rintro v16 w ⟨t, rfl⟩
     have st := st.pure t
     refine wl_nil ⟨rfl, ?_⟩
     refine FL.permB [11, 10, 9, 4, 3, 8, 7, 6, 5, 2, 1, 0] [7, 6, 5, 1, 0] [8] (by kernel_rfl) ?_
     exact fin _ _ _ _ _ rfl rfl rfl rfl rfl rfl rfl rfl rfl rfl (by first | exact st | exact st.perm p3_2 | exact st.perm p3_3 | exact st.perm p3_4 | exact st.perm p3_5 | exact st.perm p3_6)
 ·refine stepE 9 (pure' := [7, 6, 5, 2, 1, 0]) (lds' := [8]) rfl (by kernel_rfl) (by kernel_rfl) ?_
  refine wl_alloc TF.z176 st rfl ?_
  intro b2 w st
  refine wl_nil ⟨rfl, ?_⟩
  refine fl_effs [3, 10, 11] (by kernel_rfl) ⟨obl_ld rfl rfl rfl (v_load rfl (by first | exact st.reads 0 rfl TF.t166 (getV_state ..) | exact st.reads 1 rfl TF.t166 (getV_state ..) | exact st.reads 2 rfl TF.t166 (getV_state ..) | exact st.reads 3 rfl TF.t166 (getV_state ..))), trivial⟩ (all3 ?_ ?_ ?_)
  ·refine stepE 3 (pure' := [7, 6, 5, 1, 0]) (lds' := [8]) rfl (by kernel_rfl) (by kernel_rfl) ?_
   refine wl_call rfl (by first | exact c_spreadS st 0 rfl hl | exact c_spreadS st 1 rfl hl | exact c_spreadS st 2 rfl hl | exact c_spreadS st 3 rfl hl) rfl ?_
   rintro v15 w ⟨t, rfl⟩
   have st := st.pure t
   refine wl_nil ⟨rfl, ?_⟩
   refine fl_effs [4, 10, 11] (by kernel_rfl) ⟨obl_ld rfl rfl rfl (v_load rfl (by first | exact st.reads 0 rfl TF.t166 (getV_state ..) | exact st.reads 1 rfl TF.t166 (getV_state ..) | exact st.reads 2 rfl TF.t166 (getV_state ..) | exact st.reads 3 rfl TF.t166 (getV_state ..))), trivial⟩ (all3 ?_ ?_ ?_)
   ·refine stepE 4 (pure' := [7, 6, 5, 1, 0]) (lds' := [8]) rfl (by kernel_rfl) (by kernel_rfl) ?_
    refine wl_call rfl (c_factors st.im) rfl ?_
    rintro v16 w ⟨t, rfl⟩
    have st := st.pure t
    refine wl_nil ⟨rfl, ?_⟩
    refine fl_effs [10, 11] (by kernel_rfl) ⟨obl_ld rfl rfl rfl (v_load rfl (by first | exact st.reads 0 rfl TF.t166 (getV_state ..) | exact st.reads 1 rfl TF.t166 (getV_state ..) | exact st.reads 2 rfl TF.t166 (getV_state ..) | exact st.reads 3 rfl TF.t166 (getV_state ..))), trivial⟩ (all2 ?_ ?_)
    ·refine stepE 10 (pure' := [7, 6, 5, 1, 0]) (lds' := [8]) rfl (by kernel_rfl) (by kernel_rfl) ?_
     refine wl_alloc TF.z176 st rfl ?_
     intro b3 w st
     refine wl_nil ⟨rfl, ?_⟩
     refine fl_eff1 11 [7, 6, 5, 1, 0] [8] (by kernel_rfl) ⟨obl_ld rfl rfl rfl (v_load rfl (by first | exact st.reads 0 rfl TF.t166 (getV_state ..) | exact st.reads 1 rfl TF.t166 (getV_state ..) | exact st.reads 2 rfl TF.t166 (getV_state ..) | exact st.reads 3 rfl TF.t166 (getV_state ..))), trivial⟩ rfl ?_
     refine wl_alloc TF.z166 st rfl ?_
     intro b4 w st
     refine wl_nil ⟨rfl, ?_⟩
     refine FL.permB [11, 10, 9, 4, 3, 8, 7, 6, 5, 2, 1, 0] [7, 6, 5, 1, 0] [8] (by kernel_rfl) ?_
     exact fin _ _ _ _ _ rfl rfl rfl rfl rfl rfl rfl rfl rfl rfl (by first | exact st | exact st.perm p3_2 | exact st.perm p3_3 | exact st.perm p3_4 | exact st.perm p3_5 | exact st.perm p3_6)
    ·refine stepE 11 (pure' := [7, 6, 5, 1, 0]) (lds' := [8]) rfl (by kernel_rfl) (by kernel_rfl) ?_
     refine wl_alloc TF.z166 st rfl ?_
     intro b4 w st
     refine wl_nil ⟨rfl, ?_⟩
     refine fl_eff1 10 [7, 6, 5, 1, 0] [8] (by kernel_rfl) ⟨obl_ld rfl rfl rfl (v_load rfl (by first | exact st.reads 0 rfl TF.t166 (getV_state ..) | exact st.reads 1 rfl TF.t166 (getV_state ..) | exact st.reads 2 rfl TF.t166 (getV_state ..) | exact st.reads 3 rfl TF.t166 (getV_state ..))), trivial⟩ rfl ?_
     refine wl_alloc TF.z176 st rfl ?_
     intro b3 w st
     refine wl_nil ⟨rfl, ?_⟩
     refine FL.permB [11, 10, 9, 4, 3, 8, 7, 6, 5, 2, 1, 0] [7, 6, 5, 1, 0] [8] (by kernel_rfl) ?_
     exact fin _ _ _ _ _ rfl rfl rfl rfl rfl rfl rfl rfl rfl rfl (by first | exact st | exact st.perm p3_2 | exact st.perm p3_3 | exact st.perm p3_4 | exact st.perm p3_5 | exact st.perm p3_6)
   ·refine stepE 10 (pure' := [7, 6, 5, 1, 0]) (lds' := [8]) rfl (by kernel_rfl) (by kernel_rfl) ?_
    refine wl_alloc TF.z176 st rfl ?_
    intro b3 w st
    refine wl_nil ⟨rfl, ?_⟩
    refine fl_effs [4, 11] (by kernel_rfl) ⟨obl_ld rfl rfl rfl (v_load rfl (by first | exact st.reads 0 rfl TF.t166 (getV_state ..) | exact st.reads 1 rfl TF.t166 (getV_state ..) | exact st.reads 2 rfl TF.t166 (getV_state ..) | exact st.reads 3 rfl TF.t166 (getV_state ..))), trivial⟩ (all2 ?_ ?_)
    ·refine stepE 4 (pure' := [7, 6, 5, 1, 0]) (lds' := [8]) rfl (by kernel_rfl) (by kernel_rfl) ?_
     refine wl_call rfl (c_factors st.im) rfl ?_
     rintro v16 w ⟨t, rfl⟩
     have st := st.pure t
     refine wl_nil ⟨rfl, ?_⟩
     refine fl_eff1 11 [7, 6, 5, 1, 0] [8] (by kernel_rfl) ⟨obl_ld rfl rfl rfl (v_load rfl (by first | exact st.reads 0 rfl TF.t166 (getV_state ..) | exact st.reads 1 rfl TF.t166 (getV_state ..) | exact st.reads 2 rfl TF.t166 (getV_state ..) | exact st.reads 3 rfl TF.t166 (getV_state ..))), trivial⟩ rfl ?_
     refine wl_alloc TF.z166 st rfl ?_
     intro b4 w st
     refine wl_nil ⟨rfl, ?_⟩
     refine FL.permB [11, 10, 9, 4, 3, 8, 7, 6, 5, 2, 1, 0] [7, 6, 5, 1, 0] [8] (by kernel_rfl) ?_
     exact fin _ _ _ _ _ rfl rfl rfl rfl rfl rfl rfl rfl rfl rfl (by first | exact st | exact st.perm p3_2 | exact st.perm p3_3 | exact st.perm p3_4 | exact st.perm p3_5 | exact st.perm p3_6)
    ·refine stepE 11 (pure' := [7, 6, 5, 1, 0]) (lds' := [8]) rfl (by kernel_rfl) (by kernel_rfl) ?_
     refine wl_alloc TF.z166 st rfl ?_
     intro b4 w st
     refine wl_nil ⟨rfl, ?_⟩
     refine fl_eff1 4 [7, 6, 5, 1, 0] [8] (by kernel_rfl) ⟨obl_ld rfl rfl rfl (v_load rfl (by first | exact st.reads 0 rfl TF.t166 (getV_state ..) | exact st.reads 1 rfl TF.t166 (getV_state ..) | exact st.reads 2 rfl TF.t166 (getV_state ..) | exact st.reads 3 rfl TF.t166 (getV_state ..))), trivial⟩ rfl ?_
     refine wl_call rfl (c_factors st.im) rfl ?_
     rintro v16 w ⟨t, rfl⟩
     have st := st.pure t
     refine wl_nil ⟨rfl, ?_⟩
     refine FL.permB [11, 10, 9, 4, 3, 8, 7, 6, 5, 2, 1, 0] [7, 6, 5, 1, 0] [8] (by kernel_rfl) ?_
     exact fin _ _ _ _ _ rfl rfl rfl rfl rfl rfl rfl rfl rfl rfl (by first | exact st | exact st.perm p3_2 | exact st.perm p3_3 | exact st.perm p3_4 | exact st.perm p3_5 | exact st.perm p3_6)
   ·refine stepE 11 (pure' := [7, 6, 5, 1, 0]) (lds' := [8]) rfl (by kernel_rfl) (by kernel_rfl) ?_
    refine wl_alloc TF.z166 st rfl ?_
    intro b4 w st
    refine wl_nil ⟨rfl, ?_⟩
    refine fl_effs [4, 10] (by kernel_rfl) ⟨obl_ld rfl rfl rfl (v_load rfl (by first | exact st.reads 0 rfl TF.t166 (getV_state ..) | exact st.reads 1 rfl TF.t166 (getV_state ..) | exact st.reads 2 rfl TF.t166 (getV_state ..) | exact st.reads 3 rfl TF.t166 (getV_state ..))), trivial⟩ (all2 ?_ ?_)
    ·refine stepE 4 (pure' := [7, 6, 5, 1, 0]) (lds' := [8]) rfl (by kernel_rfl) (by kernel_rfl) ?_
     refine wl_call rfl (c_factors st.im) rfl ?_
     rintro v16 w ⟨t, rfl⟩
     have st := st.pure t
     refine wl_nil ⟨rfl, ?_⟩
     refine fl_eff1 10 [7, 6, 5, 1, 0] [8] (by kernel_rfl) ⟨obl_ld rfl rfl rfl (v_load rfl (by first | exact st.reads 0 rfl TF.t166 (getV_state ..) | exact st.reads 1 rfl TF.t166 (getV_state ..) | exact st.reads 2 rfl TF.t166 (getV_state ..) | exact st.reads 3 rfl TF.t166 (getV_state ..))), trivial⟩ rfl ?_
     refine wl_alloc TF.z176 st rfl ?_
     intro b3 w st
     refine wl_nil ⟨rfl, ?_⟩
     refine FL.permB [11, 10, 9, 4, 3, 8, 7, 6, 5, 2, 1, 0] [7, 6, 5, 1, 0] [8] (by kernel_rfl) ?_
     exact fin _ _ _ _ _ rfl rfl rfl rfl rfl rfl rfl rfl rfl rfl (by first | exact st | exact st.perm p3_2 | exact st.perm p3_3 | exact st.perm p3_4 | exact st.perm p3_5 | exact st.perm p3_6)
    ·refine stepE 10 (pure' := [7, 6, 5, 1, 0]) (lds' := [8]) rfl (by kernel_rfl) (by kernel_rfl) ?_
     refine wl_alloc TF.z176 st rfl ?_
     intro b3 w st
     refine wl_nil ⟨rfl, ?_⟩
     refine fl_eff1 4 [7, 6, 5, 1, 0] [8] (by kernel_rfl) ⟨obl_ld rfl rfl rfl (v_load rfl (by first | exact st.reads 0 rfl TF.t166 (getV_state ..) | exact st.reads 1 rfl TF.t166 (getV_state ..) | exact st.reads 2 rfl TF.t166 (getV_state ..) | exact st.reads 3 rfl TF.t166 (getV_state ..))), trivial⟩ rfl ?_
     refine wl_call rfl (c_factors st.im) rfl ?_
     rintro v16 w ⟨t, rfl⟩
     have st := st.pure t
     refine wl_nil ⟨rfl, ?_⟩
     refine FL.permB [11, 10, 9, 4, 3, 8, 7, 6, 5, 2, 1, 0] [7, 6, 5, 1, 0] [8] (by kernel_rfl) ?_
     exact fin _ _ _ _ _ rfl rfl rfl rfl rfl rfl rfl rfl rfl rfl (by first | exact st | exact st.perm p3_2 | exact st.perm p3_3 | exact st.perm p3_4 | exact st.perm p3_5 | exact st.perm p3_6)
  ·refine stepE 10 (pure' := [7, 6, 5, 2, 1, 0]) (lds' := [8]) rfl (by kernel_rfl) (by kernel_rfl) ?_
   refine wl_alloc TF.z176 st rfl ?_
   intro b3 w st
   refine wl_nil ⟨rfl, ?_⟩
   refine fl_effs [3, 11] (by kernel_rfl) ⟨obl_ld rfl rfl rfl (v_load rfl (by first | exact st.reads 0 rfl TF.t166 (getV_state ..) | exact st.reads 1 rfl TF.t166 (getV_state ..) | exact st.reads 2 rfl TF.t166 (getV_state ..) | exact st.reads 3 rfl TF.t166 (getV_state ..))), trivial⟩ (all2 ?_ ?_)
   ·refine stepE 3 (pure' := [7, 6, 5, 1, 0]) (lds' := [8]) rfl (by kernel_rfl) (by kernel_rfl) ?_
    refine wl_call rfl (by first | exact c_spreadS st 0 rfl hl | exact c_spreadS st 1 rfl hl | exact c_spreadS st 2 rfl hl | exact c_spreadS st 3 rfl hl) rfl ?_
    rintro v15 w ⟨t, rfl⟩
    have st := st.pure t
    refine wl_nil ⟨rfl, ?_⟩
    refine fl_effs [4, 11] (by kernel_rfl) ⟨obl_ld rfl rfl rfl (v_load rfl (by first | exact st.reads 0 rfl TF.t166 (getV_state ..) | exact st.reads 1 rfl TF.t166 (getV_state ..) | exact st.reads 2 rfl TF.t166 (getV_state ..) | exact st.reads 3 rfl TF.t166 (getV_state ..))), trivial⟩ (all2 ?_ ?_)
    ·refine stepE 4 (pure' := [7, 6, 5, 1, 0]) (lds' := [8]) rfl (by kernel_rfl) (by kernel_rfl) ?_
     refine wl_call rfl (c_factors st.im) rfl ?_
     rintro v16 w ⟨t, rfl⟩
     have st := st.pure t
     refine wl_nil ⟨rfl, ?_⟩
     refine fl_eff1 11 [7, 6, 5, 1, 0] [8] (by kernel_rfl) ⟨obl_ld rfl rfl rfl (v_load rfl (by first | exact st.reads 0 rfl TF.t166 (getV_state ..) | exact st.reads 1 rfl TF.t166 (getV_state ..) | exact st.reads 2 rfl TF.t166 (getV_state ..) | exact st.reads 3 rfl TF.t166 (getV_state ..))), trivial⟩ rfl ?_
     refine wl_alloc TF.z166 st rfl ?_
     intro b4 w st
     refine wl_nil ⟨rfl, ?_⟩
     refine FL.permB [11, 10, 9, 4, 3, 8, 7, 6, 5, 2, 1, 0] [7, 6, 5, 1, 0] [8] (by kernel_rfl) ?_
     exact fin _ _ _ _ _ rfl rfl rfl rfl rfl rfl rfl rfl rfl rfl (by first | exact st | exact st.perm p3_2 | exact st.perm p3_3 | exact st.perm p3_4 | exact st.perm p3_5 | exact st.perm p3_6)
    ·refine stepE 11 (pure' := [7, 6, 5, 1, 0]) (lds' := [8]) rfl (by kernel_rfl) (by kernel_rfl) ?_
     refine wl_alloc TF.z166 st rfl ?_
     intro b4 w st
     refine wl_nil ⟨rfl, ?_⟩
     refine fl_eff1 4 [7, 6, 5, 1, 0] [8] (by kernel_rfl) ⟨obl_ld rfl rfl rfl (v_load rfl (by first | exact st.reads 0 rfl TF.t166 (getV_state ..) | exact st.reads 1 rfl TF.t166 (getV_state ..) | exact st.reads 2 rfl TF.t166 (getV_state ..) | exact st.reads 3 rfl TF.t166 (getV_state ..))), trivial⟩ rfl ?_
     refine wl_call rfl (c_factors st.im) rfl ?_
     rintro v16 w ⟨t, rfl⟩
     have st := st.pure t
     refine wl_nil ⟨rfl, ?_⟩
     refine FL.permB [11, 10, 9, 4, 3, 8, 7, 6, 5, 2, 1, 0] [7, 6, 5, 1, 0] [8] (by kernel_rfl) ?_
     exact fin _ _ _ _ _ rfl rfl rfl rfl rfl rfl rfl rfl rfl rfl (by first | exact st | exact st.perm p3_2 | exact st.perm p3_3 | exact st.perm p3_4 | exact st.perm p3_5 | exact st.perm p3_6)
   ·refine stepE 11 (pure' := [7, 6, 5, 2, 1, 0]) (lds' := [8]) rfl (by kernel_rfl) (by kernel_rfl) ?_
    refine wl_alloc TF.z166 st rfl ?_
    intro b4 w st
    refine wl_nil ⟨rfl, ?_⟩
    refine fl_eff1 3 [7, 6, 5, 1, 0] [8] (by kernel_rfl) ⟨obl_ld rfl rfl rfl (v_load rfl (by first | exact st.reads 0 rfl TF.t166 (getV_state ..) | exact st.reads 1 rfl TF.t166 (getV_state ..) | exact st.reads 2 rfl TF.t166 (getV_state ..) | exact st.reads 3 rfl TF.t166 (getV_state ..))), trivial⟩ rfl ?_
    refine wl_call rfl (by first | exact c_spreadS st 0 rfl hl | exact c_spreadS st 1 rfl hl | exact c_spreadS st 2 rfl hl | exact c_spreadS st 3 rfl hl) rfl ?_
    rintro v15 w ⟨t, rfl⟩
    have st := st.pure t
    refine wl_nil ⟨rfl, ?_⟩
    refine fl_eff1 4 [7, 6, 5, 1, 0] [8] (by kernel_rfl) ⟨obl_ld rfl rfl rfl (v_load rfl (by first | exact st.reads 0 rfl TF.t166 (getV_state ..) | exact st.reads 1 rfl TF.t166 (getV_state ..) | exact st.reads 2 rfl TF.t166 (getV_state ..) | exact st.reads 3 rfl TF.t166 (getV_state ..))), trivial⟩ rfl ?_
    refine wl_call rfl (c_factors st.im) rfl ?_
    rintro v16 w ⟨t, rfl⟩
    have st := st.pure t
    refine wl_nil ⟨rfl, ?_⟩
    refine FL.permB [11, 10, 9, 4, 3, 8, 7, 6, 5, 2, 1, 0] [7, 6, 5, 1, 0] [8] (by kernel_rfl) ?_
    exact fin _ _ _ _ _ rfl rfl rfl rfl rfl rfl rfl rfl rfl rfl (by first | exact st | exact st.perm p3_2 | exact st.perm p3_3 | exact st.perm p3_4 | exact st.perm p3_5 | exact st.perm p3_6)
  ·refine stepE 11 (pure' := [7, 6, 5, 2, 1, 0]) (lds' := [8]) rfl (by kernel_rfl) (by kernel_rfl) ?_
   refine wl_alloc TF.z166 st rfl ?_
   intro b4 w st
   refine wl_nil ⟨rfl, ?_⟩
   refine fl_effs [3, 10] (by kernel_rfl) ⟨obl_ld rfl rfl rfl (v_load rfl (by first | exact st.reads 0 rfl TF.t166 (getV_state ..) | exact st.reads 1 rfl TF.t166 (getV_state ..) | exact st.reads 2 rfl TF.t166 (getV_state ..) | exact st.reads 3 rfl TF.t166 (getV_state ..))), trivial⟩ (all2 ?_ ?_)
   ·refine stepE 3 (pure' := [7, 6, 5, 1, 0]) (lds' := [8]) rfl (by kernel_rfl) (by kernel_rfl) ?_
    refine wl_call rfl (by first | exact c_spreadS st 0 rfl hl | exact c_spreadS st 1 rfl hl | exact c_spreadS st 2 rfl hl | exact c_spreadS st 3 rfl hl) rfl ?_
    rintro v15 w ⟨t, rfl⟩
    have st := st.pure t
    refine wl_nil ⟨rfl, ?_⟩
    refine fl_effs [4, 10] (by kernel_rfl) ⟨obl_ld rfl rfl rfl (v_load rfl (by first | exact st.reads 0 rfl TF.t166 (getV_state ..) | exact st.reads 1 rfl TF.t166 (getV_state ..) | exact st.reads 2 rfl TF.t166 (getV_state ..) | exact st.reads 3 rfl TF.t166 (getV_state ..))), trivial⟩ (all2 ?_ ?_)
    ·refine stepE 4 (pure' := [7, 6, 5, 1, 0]) (lds' := [8]) rfl (by kernel_rfl) (by kernel_rfl) ?_
     refine wl_call rfl (c_factors st.im) rfl ?_
     rintro v16 w ⟨t, rfl⟩
     have st := st.pure t
     refine wl_nil ⟨rfl, ?_⟩
     refine fl_eff1 10 [7, 6, 5, 1, 0] [8] (by kernel_rfl) ⟨obl_ld rfl rfl rfl (v_load rfl (by first | exact st.reads 0 rfl TF.t166 (getV_state ..) | exact st.reads 1 rfl TF.t166 (getV_state ..) | exact st.reads 2 rfl TF.t166 (getV_state ..) | exact st.reads 3 rfl TF.t166 (getV_state ..))), trivial⟩ rfl ?_
     refine wl_alloc TF.z176 st rfl ?_
     intro b3 w st
     refine wl_nil ⟨rfl, ?_⟩
     refine FL.permB [11, 10, 9, 4, 3, 8, 7, 6, 5, 2, 1, 0] [7, 6, 5, 1, 0] [8] (by kernel_rfl) ?_
     exact fin _ _ _ _ _ rfl rfl rfl rfl rfl rfl rfl rfl rfl rfl (by first | exact st | exact st.perm p3_2 | exact st.perm p3_3 | exact st.perm p3_4 | exact st.perm p3_5 | exact st.perm p3_6)
    ·refine stepE 10 (pure' := [7, 6, 5, 1, 0]) (lds' := [8]) rfl (by kernel_rfl) (by kernel_rfl) ?_
     refine wl_alloc TF.z176 st rfl ?_
     intro b3 w st
     refine wl_nil ⟨rfl, ?_⟩
     refine fl_eff1 4 [7, 6, 5, 1, 0] [8] (by kernel_rfl) ⟨obl_ld rfl rfl rfl (v_load rfl (by first | exact st.reads 0 rfl TF.t166 (getV_state ..) | exact st.reads 1 rfl TF.t166 (getV_state ..) | exact st.reads 2 rfl TF.t166 (getV_state ..) | exact st.reads 3 rfl TF.t166 (getV_state ..))), trivial⟩ rfl ?_
     refine wl_call rfl (c_factors st.im) rfl ?_
     rintro v16 w ⟨t, rfl⟩
     have st := st.pure t
     refine wl_nil ⟨rfl, ?_⟩
     refine FL.permB [11, 10, 9, 4, 3, 8, 7, 6, 5, 2, 1, 0] [7, 6, 5, 1, 0] [8] (by kernel_rfl) ?_
     exact fin _ _ _ _ _ rfl rfl rfl rfl rfl rfl rfl rfl rfl rfl (by first | exact st | exact st.perm p3_2 | exact st.perm p3_3 | exact st.perm p3_4 | exact st.perm p3_5 | exact st.perm p3_6)
   ·refine stepE 10 (pure' := [7, 6, 5, 2, 1, 0]) (lds' := [8]) rfl (by kernel_rfl) (by kernel_rfl) ?_
    refine wl_alloc TF.z176 st rfl ?_
    intro b3 w st
    refine wl_nil ⟨rfl, ?_⟩
    refine fl_eff1 3 [7, 6, 5, 1, 0] [8] (by kernel_rfl) ⟨obl_ld rfl rfl rfl (v_load rfl (by first | exact st.reads 0 rfl TF.t166 (getV_state ..) | exact st.reads 1 rfl TF.t166 (getV_state ..) | exact st.reads 2 rfl TF.t166 (getV_state ..) | exact st.reads 3 rfl TF.t166 (getV_state ..))), trivial⟩ rfl ?_
    refine wl_call rfl (by first | exact c_spreadS st 0 rfl hl | exact c_spreadS st 1 rfl hl | exact c_spreadS st 2 rfl hl | exact c_spreadS st 3 rfl hl) rfl ?_
    rintro v15 w ⟨t, rfl⟩
    have st := st.pure t
    refine wl_nil ⟨rfl, ?_⟩
    refine fl_eff1 4 [7, 6, 5, 1, 0] [8] (by kernel_rfl) ⟨obl_ld rfl rfl rfl (v_load rfl (by first | exact st.reads 0 rfl TF.t166 (getV_state ..) | exact st.reads 1 rfl TF.t166 (getV_state ..) | exact st.reads 2 rfl TF.t166 (getV_state ..) | exact st.reads 3 rfl TF.t166 (getV_state ..))), trivial⟩ rfl ?_
    refine wl_call rfl (c_factors st.im) rfl ?_
    rintro v16 w ⟨t, rfl⟩
    have st := st.pure t
    refine wl_nil ⟨rfl, ?_⟩
    refine FL.permB [11, 10, 9, 4, 3, 8, 7, 6, 5, 2, 1, 0] [7, 6, 5, 1, 0] [8] (by kernel_rfl) ?_
    exact fin _ _ _ _ _ rfl rfl rfl rfl rfl rfl rfl rfl rfl rfl (by first | exact st | exact st.perm p3_2 | exact st.perm p3_3 | exact st.perm p3_4 | exact st.perm p3_5 | exact st.perm p3_6)
 ·refine stepE 10 (pure' := [7, 6, 5, 2, 1, 0]) (lds' := [8]) rfl (by kernel_rfl) (by kernel_rfl) ?_
  refine wl_alloc TF.z176 st rfl ?_
  intro b3 w st
  refine wl_nil ⟨rfl, ?_⟩
  refine fl_effs [3, 9, 11] (by kernel_rfl) ⟨obl_ld rfl rfl rfl (v_load rfl (by first | exact st.reads 0 rfl TF.t166 (getV_state ..) | exact st.reads 1 rfl TF.t166 (getV_state ..) | exact st.reads 2 rfl TF.t166 (getV_state ..) | exact st.reads 3 rfl TF.t166 (getV_state ..))), trivial⟩ (all3 ?_ ?_ ?_)
  ·refine stepE 3 (pure' := [7, 6, 5, 1, 0]) (lds' := [8]) rfl (by kernel_rfl) (by kernel_rfl) ?_
   refine wl_call rfl (by first | exact c_spreadS st 0 rfl hl | exact c_spreadS st 1 rfl hl | exact c_spreadS st 2 rfl hl | exact c_spreadS st 3 rfl hl) rfl ?_
   rintro v15 w ⟨t, rfl⟩
   have st := st.pure t
   refine wl_nil ⟨rfl, ?_⟩
   refine fl_effs [4, 9, 11] (by kernel_rfl) ⟨obl_ld rfl rfl rfl (v_load rfl (by first | exact st.reads 0 rfl TF.t166 (getV_state ..) | exact st.reads 1 rfl TF.t166 (getV_state ..) | exact st.reads 2 rfl TF.t166 (getV_state ..) | exact st.reads 3 rfl TF.t166 (getV_state ..))), trivial⟩ (all3 ?_ ?_ ?_)
   ·refine stepE 4 (pure' := [7, 6, 5, 1, 0]) (lds' := [8]) rfl (by kernel_rfl) (by kernel_rfl) ?_
    refine wl_call rfl (c_factors st.im) rfl ?_
    rintro v16 w ⟨t, rfl⟩
    have st := st.pure t
    refine wl_nil ⟨rfl, ?_⟩
    refine fl_effs [9, 11] (by kernel_rfl) ⟨obl_ld rfl rfl rfl (v_load rfl (by first | exact st.reads 0 rfl TF.t166 (getV_state ..) | exact st.reads 1 rfl TF.t166 (getV_state ..) | exact st.reads 2 rfl TF.t166 (getV_state ..) | exact st.reads 3 rfl TF.t166 (getV_state ..))), trivial⟩ (all2 ?_ ?_)
    ·refine stepE 9 (pure' := [7, 6, 5, 1, 0]) (lds' := [8]) rfl (by kernel_rfl) (by kernel_rfl) ?_
     refine wl_alloc TF.z176 st rfl ?_
     intro b2 w st
     refine wl_nil ⟨rfl, ?_⟩
     refine fl_eff1 11 [7, 6, 5, 1, 0] [8] (by kernel_rfl) ⟨obl_ld rfl rfl rfl (v_load rfl (by first | exact st.reads 0 rfl TF.t166 (getV_state ..) | exact st.reads 1 rfl TF.t166 (getV_state ..) | exact st.reads 2 rfl TF.t166 (getV_state ..) | exact st.reads 3 rfl TF.t166 (getV_state ..))), trivial⟩ rfl ?_
     refine wl_alloc TF.z166 st rfl ?_
     intro b4 w st
     refine wl_nil ⟨rfl, ?_⟩
     refine FL.permB [11, 10, 9, 4, 3, 8, 7, 6, 5, 2, 1, 0] [7, 6, 5, 1, 0] [8] (by kernel_rfl) ?_
     exact fin _ _ _ _ _ rfl rfl rfl rfl rfl rfl rfl rfl rfl rfl (by first | exact st | exact st.perm p3_2 | exact st.perm p3_3 | exact st.perm p3_4 | exact st.perm p3_5 | exact st.perm p3_6)
    ·refine stepE 11 (pure' := [7, 6, 5, 1, 0]) (lds' := [8]) rfl (by kernel_rfl) (by kernel_rfl) ?_
     refine wl_alloc TF.z166 st rfl ?_
     intro b4 w st
     refine wl_nil ⟨rfl, ?_⟩
     refine fl_eff1 9 [7, 6, 5, 1, 0] [8] (by kernel_rfl) ⟨obl_ld rfl rfl rfl (v_load rfl (by first | exact st.reads 0 rfl TF.t166 (getV_state ..) | exact st.reads 1 rfl TF.t166 (getV_state ..) | exact st.reads 2 rfl TF.t166 (getV_state ..) | exact st.reads 3 rfl TF.t166 (getV_state ..))), trivial⟩ rfl ?_
     refine wl_alloc TF.z176 st rfl ?_
     intro b2 w st
     refine wl_nil ⟨rfl, ?_⟩
     refine FL.permB [11, 10, 9, 4, 3, 8, 7, 6, 5, 2, 1, 0] [7, 6, 5, 1, 0] [8] (by kernel_rfl) ?_
     exact fin _ _ _ _ _ rfl rfl rfl rfl rfl rfl rfl rfl rfl rfl (by first | exact st | exact st.perm p3_2 | exact st.perm p3_3 | exact st.perm p3_4 | exact st.perm p3_5 | exact st.perm p3_6)
   ·refine stepE 9 (pure' := [7, 6, 5, 1, 0]) (lds' := [8]) rfl (by kernel_rfl) (by kernel_rfl) ?_
    refine wl_alloc TF.z176 st rfl ?_
    intro b2 w st
    refine wl_nil ⟨rfl, ?_⟩
    refine fl_effs [4, 11] (by kernel_rfl) ⟨obl_ld rfl rfl rfl (v_load rfl (by first | exact st.reads 0 rfl TF.t166 (getV_state ..) | exact st.reads 1 rfl TF.t166 (getV_state ..) | exact st.reads 2 rfl TF.t166 (getV_state ..) | exact st.reads 3 rfl TF.t166 (getV_state ..))), trivial⟩ (all2 ?_ ?_)
    ·refine stepE 4 (pure' := [7, 6, 5, 1, 0]) (lds' := [8]) rfl (by kernel_rfl) (by kernel_rfl) ?_
     refine wl_call rfl (c_factors st.im) rfl ?_
     rintro v16 w ⟨t, rfl⟩
     have st := st.pure t
     refine wl_nil ⟨rfl, ?_⟩
     refine fl_eff1 11 [7, 6, 5, 1, 0] [8] (by kernel_rfl) ⟨obl_ld rfl rfl rfl (v_load rfl (by first | exact st.reads 0 rfl TF.t166 (getV_state ..) | exact st.reads 1 rfl TF.t166 (getV_state ..) | exact st.reads 2 rfl TF.t166 (getV_state ..) | exact st.reads 3 rfl TF.t166 (getV_state ..))), trivial⟩ rfl ?_
     refine wl_alloc TF.z166 st rfl ?_
     intro b4 w st
     refine wl_nil ⟨rfl, ?_⟩
     refine FL.permB [11, 10, 9, 4, 3, 8, 7, 6, 5, 2, 1, 0] [7, 6, 5, 1, 0] [8] (by kernel_rfl) ?_
     exact fin _ _ _ _ _ rfl rfl rfl rfl rfl rfl rfl rfl rfl rfl (by first | exact st | exact st.perm p3_2 | exact st.perm p3_3 | exact st.perm p3_4 | exact st.perm p3_5 | exact st.perm p3_6)
    ·refine stepE 11 (pure' := [7, 6, 5, 1, 0]) (lds' := [8]) rfl (by kernel_rfl) (by kernel_rfl) ?_
     refine wl_alloc TF.z166 st rfl ?_
     intro b4 w st
     refine wl_nil ⟨rfl, ?_⟩
     refine fl_eff1 4 [7, 6, 5, 1, 0] [8] (by kernel_rfl) ⟨obl_ld rfl rfl rfl (v_load rfl (by first | exact st.reads 0 rfl TF.t166 (getV_state ..) | exact st.reads 1 rfl TF.t166 (getV_state ..) | exact st.reads 2 rfl TF.t166 (getV_state ..) | exact st.reads 3 rfl TF.t166 (getV_state ..))), trivial⟩ rfl ?_
     refine wl_call rfl (c_factors st.im) rfl ?_
     rintro v16 w ⟨t, rfl⟩
     have st := st.pure t
     refine wl_nil ⟨rfl, ?_⟩
     refine FL.permB [11, 10, 9, 4, 3, 8, 7, 6, 5, 2, 1, 0] [7, 6, 5, 1, 0] [8] (by kernel_rfl) ?_
     exact fin _ _ _ _ _ rfl rfl rfl rfl rfl rfl rfl rfl rfl rfl (by first | exact st | exact st.perm p3_2 | exact st.perm p3_3 | exact st.perm p3_4 | exact st.perm p3_5 | exact st.perm p3_6)
   ·refine stepE 11 (pure' := [7, 6, 5, 1, 0]) (lds' := [8]) rfl (by kernel_rfl) (by kernel_rfl) ?_
    refine wl_alloc TF.z166 st rfl ?_
    intro b4 w st
    refine wl_nil ⟨rfl, ?_⟩
    refine fl_effs [4, 9] (by kernel_rfl) ⟨obl_ld rfl rfl rfl (v_load rfl (by first | exact st.reads 0 rfl TF.t166 (getV_state ..) | exact st.reads 1 rfl TF.t166 (getV_state ..) | exact st.reads 2 rfl TF.t166 (getV_state ..) | exact st.reads 3 rfl TF.t166 (getV_state ..))), trivial⟩ (all2 ?_ ?_)
    ·refine stepE 4 (pure' := [7, 6, 5, 1, 0]) (lds' := [8]) rfl (by kernel_rfl) (by kernel_rfl) ?_
     refine wl_call rfl (c_factors st.im) rfl ?_
     rintro v16 w ⟨t, rfl⟩
     have st := st.pure t
     refine wl_nil ⟨rfl, ?_⟩
     refine fl_eff1 9 [7, 6, 5, 1, 0] [8] (by kernel_rfl) ⟨obl_ld rfl rfl rfl (v_load rfl (by first | exact st.reads 0 rfl TF.t166 (getV_state ..) | exact st.reads 1 rfl TF.t166 (getV_state ..) | exact st.reads 2 rfl TF.t166 (getV_state ..) | exact st.reads 3 rfl TF.t166 (getV_state ..))), trivial⟩ rfl ?_
     refine wl_alloc TF.z176 st rfl ?_
     intro b2 w st
     refine wl_nil ⟨rfl, ?_⟩
     refine FL.permB [11, 10, 9, 4, 3, 8, 7, 6, 5, 2, 1, 0] [7, 6, 5, 1, 0] [8] (by kernel_rfl) ?_
     exact fin _ _ _ _ _ rfl rfl rfl rfl rfl rfl rfl rfl rfl rfl (by first | exact st | exact st.perm p3_2 | exact st.perm p3_3 | exact st.perm p3_4 | exact st.perm p3_5 | exact st.perm p3_6)
    ·refine stepE 9 (pure' := [7, 6, 5, 1, 0]) (lds' := [8]) rfl (by kernel_rfl) (by kernel_rfl) ?_
     refine wl_alloc TF.z176 st rfl ?_
     intro b2 w st
     refine wl_nil ⟨rfl, ?_⟩
     refine fl_eff1 4 [7, 6, 5, 1, 0] [8] (by kernel_rfl) ⟨obl_ld rfl rfl rfl (v_load rfl (by first | exact st.reads 0 rfl TF.t166 (getV_state ..) | exact st.reads 1 rfl TF.t166 (getV_state ..) | exact st.reads 2 rfl TF.t166 (getV_state ..) | exact st.reads 3 rfl TF.t166 (getV_state ..))), trivial⟩ rfl ?_
     refine wl_call rfl (c_factors st.im) rfl ?_
     rintro v16 w ⟨t, rfl⟩
     have st := st.pure t
     refine wl_nil ⟨rfl, ?_⟩
     refine FL.permB [11, 10, 9, 4, 3, 8, 7, 6, 5, 2, 1, 0] [7, 6, 5, 1, 0] [8] (by kernel_rfl) ?_
     exact fin _ _ _ _ _ rfl rfl rfl rfl rfl rfl rfl rfl rfl rfl (by first | exact st | exact st.perm p3_2 | exact st.perm p3_3 | exact st.perm p3_4 | exact st.perm p3_5 | exact st.perm p3_6)
  ·refine stepE 9 (pure' := [7, 6, 5, 2, 1, 0]) (lds' := [8]) rfl (by kernel_rfl) (by kernel_rfl) ?_
   refine wl_alloc TF.z176 st rfl ?_
   intro b2 w st
   refine wl_nil ⟨rfl, ?_⟩
   refine fl_effs [3, 11] (by kernel_rfl) ⟨obl_ld rfl rfl rfl (v_load rfl (by first | exact st.reads 0 rfl TF.t166 (getV_state ..) | exact st.reads 1 rfl TF.t166 (getV_state ..) | exact st.reads 2 rfl TF.t166 (getV_state ..) | exact st.reads 3 rfl TF.t166 (getV_state ..))), trivial⟩ (all2 ?_ ?_)
   ·refine stepE 3 (pure' := [7, 6, 5, 1, 0]) (lds' := [8]) rfl (by kernel_rfl) (by kernel_rfl) ?_
    refine wl_call rfl (by first | exact c_spreadS st 0 rfl hl | exact c_spreadS st 1 rfl hl | exact c_spreadS st 2 rfl hl | exact c_spreadS st 3 rfl hl) rfl ?_
    rintro v15 w ⟨t, rfl⟩
    have st := st.pure t
    refine wl_nil ⟨rfl, ?_⟩
    refine fl_effs [4, 11] (by kernel_rfl) ⟨obl_ld rfl rfl rfl (v_load rfl (by first | exact st.reads 0 rfl TF.t166 (getV_state ..) | exact st.reads 1 rfl TF.t166 (getV_state ..) | exact st.reads 2 rfl TF.t166 (getV_state ..) | exact st.reads 3 rfl TF.t166 (getV_state ..))), trivial⟩ (all2 ?_ ?_)
    ·refine stepE 4 (pure' := [7, 6, 5, 1, 0]) (lds' := [8]) rfl (by kernel_rfl) (by kernel_rfl) ?_
     refine wl_call rfl (c_factors st.im) rfl ?_
     rintro v16 w ⟨t, rfl⟩
     have st := st.pure t
     refine wl_nil ⟨rfl, ?_⟩
     refine fl_eff1 11 [7, 6, 5, 1, 0] [8] (by kernel_rfl) ⟨obl_ld rfl rfl rfl (v_load rfl (by first | exact st.reads 0 rfl TF.t166 (getV_state ..) | exact st.reads 1 rfl TF.t166 (getV_state ..) | exact st.reads 2 rfl TF.t166 (getV_state ..) | exact st.reads 3 rfl TF.t166 (getV_state ..))), trivial⟩ rfl ?_
     refine wl_alloc TF.z166 st rfl ?_
     intro b4 w st
     refine wl_nil ⟨rfl, ?_⟩
     refine FL.permB [11, 10, 9, 4, 3, 8, 7, 6, 5, 2, 1, 0] [7, 6, 5, 1, 0] [8] (by kernel_rfl) ?_
     exact fin _ _ _ _ _ rfl rfl rfl rfl rfl rfl rfl rfl rfl rfl (by first | exact st | exact st.perm p3_2 | exact st.perm p3_3 | exact st.perm p3_4 | exact st.perm p3_5 | exact st.perm p3_6)
    ·refine stepE 11 (pure' := [7, 6, 5, 1, 0]) (lds' := [8]) rfl (by kernel_rfl) (by kernel_rfl) ?_
     refine wl_alloc TF.z166 st rfl ?_
     intro b4 w st
     refine wl_nil ⟨rfl, ?_⟩
     refine fl_eff1 4 [7, 6, 5, 1, 0] [8] (by kernel_rfl) ⟨obl_ld rfl rfl rfl (v_load rfl (by first | exact st.reads 0 rfl TF.t166 (getV_state ..) | exact st.reads 1 rfl TF.t166 (getV_state ..) | exact st.reads 2 rfl TF.t166 (getV_state ..) | exact st.reads 3 rfl TF.t166 (getV_state ..))), trivial⟩ rfl ?_
     refine wl_call rfl (c_factors st.im) rfl ?_
     rintro v16 w ⟨t, rfl⟩
     have st := st.pure t
     refine wl_nil ⟨rfl, ?_⟩
     refine FL.permB [11, 10, 9, 4, 3, 8, 7, 6, 5, 2, 1, 0] [7, 6, 5, 1, 0] [8] (by kernel_rfl) ?_
     exact fin _ _ _ _ _ rfl rfl rfl rfl rfl rfl rfl rfl rfl rfl (by first | exact st | exact st.perm p3_2 | exact st.perm p3_3 | exact st.perm p3_4 | exact st.perm p3_5 | exact st.perm p3_6)
   ·refine stepE 11 (pure' := [7, 6, 5, 2, 1, 0]) (lds' := [8]) rfl (by kernel_rfl) (by kernel_rfl) ?_
    refine wl_alloc TF.z166 st rfl ?_
    intro b4 w st
    refine wl_nil ⟨rfl, ?_⟩
    refine fl_eff1 3 [7, 6, 5, 1, 0] [8] (by kernel_rfl) ⟨obl_ld rfl rfl rfl (v_load rfl (by first | exact st.reads 0 rfl TF.t166 (getV_state ..) | exact st.reads 1 rfl TF.t166 (getV_state ..) | exact st.reads 2 rfl TF.t166 (getV_state ..) | exact st.reads 3 rfl TF.t166 (getV_state ..))), trivial⟩ rfl ?_
    refine wl_call rfl (by first | exact c_spreadS st 0 rfl hl | exact c_spreadS st 1 rfl hl | exact c_spreadS st 2 rfl hl | exact c_spreadS st 3 rfl hl) rfl ?_
    rintro v15 w ⟨t, rfl⟩
    have st := st.pure t
    refine wl_nil ⟨rfl, ?_⟩
    refine fl_eff1 4 [7, 6, 5, 1, 0] [8] (by kernel_rfl) ⟨obl_ld rfl rfl rfl (v_load rfl (by first | exact st.reads 0 rfl TF.t166 (getV_state ..) | exact st.reads 1 rfl TF.t166 (getV_state ..) | exact st.reads 2 rfl TF.t166 (getV_state ..) | exact st.reads 3 rfl TF.t166 (getV_state ..))), trivial⟩ rfl ?_
    refine wl_call rfl (c_factors st.im) rfl ?_
    rintro v16 w ⟨t, rfl⟩
    have st := st.pure t
    refine wl_nil ⟨rfl, ?_⟩
    refine FL.permB [11, 10, 9, 4, 3, 8, 7, 6, 5, 2, 1, 0] [7, 6, 5, 1, 0] [8] (by kernel_rfl) ?_
    exact fin _ _ _ _ _ rfl rfl rfl rfl rfl rfl rfl rfl rfl rfl (by first | exact st | exact st.perm p3_2 | exact st.perm p3_3 | exact st.perm p3_4 | exact st.perm p3_5 | exact st.perm p3_6)
  ·refine stepE 11 (pure' := [7, 6, 5, 2, 1, 0]) (lds' := [8]) rfl (by kernel_rfl) (by kernel_rfl) ?_
   refine wl_alloc TF.z166 st rfl ?_
   intro b4 w st
   refine wl_nil ⟨rfl, ?_⟩
   refine fl_effs [3, 9] (by kernel_rfl) ⟨obl_ld rfl rfl rfl (v_load rfl (by first | exact st.reads 0 rfl TF.t166 (getV_state ..) | exact st.reads 1 rfl TF.t166 (getV_state ..) | exact st.reads 2 rfl TF.t166 (getV_state ..) | exact st.reads 3 rfl TF.t166 (getV_state ..))), trivial⟩ (all2 ?_ ?_)
   ·refine stepE 3 (pure' := [7, 6, 5, 1, 0]) (lds' := [8]) rfl (by kernel_rfl) (by kernel_rfl) ?_
    refine wl_call rfl (by first | exact c_spreadS st 0 rfl hl | exact c_spreadS st 1 rfl hl | exact c_spreadS st 2 rfl hl | exact c_spreadS st 3 rfl hl) rfl ?_
    rintro v15 w ⟨t, rfl⟩
    have st := st.pure t
    refine wl_nil ⟨rfl, ?_⟩
    refine fl_effs [4, 9] (by kernel_rfl) ⟨obl_ld rfl rfl rfl (v_load rfl (by first | exact st.reads 0 rfl TF.t166 (getV_state ..) | exact st.reads 1 rfl TF.t166 (getV_state ..) | exact st.reads 2 rfl TF.t166 (getV_state ..) | exact st.reads 3 rfl TF.t166 (getV_state ..))), trivial⟩ (all2 ?_ ?_)
    ·refine stepE 4 (pure' := [7, 6, 5, 1, 0]) (lds' := [8]) rfl (by kernel_rfl) (by kernel_rfl) ?_
     refine wl_call rfl (c_factors st.im) rfl ?_
     rintro v16 w ⟨t, rfl⟩
     have st := st.pure t
     refine wl_nil ⟨rfl, ?_⟩
     refine fl_eff1 9 [7, 6, 5, 1, 0] [8] (by kernel_rfl) ⟨obl_ld rfl rfl rfl (v_load rfl (by first | exact st.reads 0 rfl TF.t166 (getV_state ..) | exact st.reads 1 rfl TF.t166 (getV_state ..) | exact st.reads 2 rfl TF.t166 (getV_state ..) | exact st.reads 3 rfl TF.t166 (getV_state ..))), trivial⟩ rfl ?_
     refine wl_alloc TF.z176 st rfl ?_
     intro b2 w st
     refine wl_nil ⟨rfl, ?_⟩
     refine FL.permB [11, 10, 9, 4, 3, 8, 7, 6, 5, 2, 1, 0] [7, 6, 5, 1, 0] [8] (by kernel_rfl) ?_
     exact fin _ _ _ _ _ rfl rfl rfl rfl rfl rfl rfl rfl rfl rfl (by first | exact st | exact st.perm p3_2 | exact st.perm p3_3 | exact st.perm p3_4 | exact st.perm p3_5 | exact st.perm p3_6)
    ·refine stepE 9 (pure' := [7, 6, 5, 1, 0]) (lds' := [8]) rfl (by kernel_rfl) (by kernel_rfl) ?_
     refine wl_alloc TF.z176 st rfl ?_
     intro b2 w st
     refine wl_nil ⟨rfl, ?_⟩
     refine fl_eff1 4 [7, 6, 5, 1, 0] [8] (by kernel_rfl) ⟨obl_ld rfl rfl rfl (v_load rfl (by first | exact st.reads 0 rfl TF.t166 (getV_state ..) | exact st.reads 1 rfl TF.t166 (getV_state ..) | exact st.reads 2 rfl TF.t166 (getV_state ..) | exact st.reads 3 rfl TF.t166 (getV_state ..))), trivial⟩ rfl ?_
     refine wl_call rfl (c_factors st.im) rfl ?_
     rintro v16 w ⟨t, rfl⟩
     have st := st.pure t
     refine wl_nil ⟨rfl, ?_⟩
     refine FL.permB [11, 10, 9, 4, 3, 8, 7, 6, 5, 2, 1, 0] [7, 6, 5, 1, 0] [8] (by kernel_rfl) ?_
     exact fin _ _ _ _ _ rfl rfl rfl rfl rfl rfl rfl rfl rfl rfl (by first | exact st | exact st.perm p3_2 | exact st.perm p3_3 | exact st.perm p3_4 | exact st.perm p3_5 | exact st.perm p3_6)
   ·refine stepE 9 (pure' := [7, 6, 5, 2, 1, 0]) (lds' := [8]) rfl (by kernel_rfl) (by kernel_rfl) ?_
    refine wl_alloc TF.z176 st rfl ?_
    intro b2 w st
    refine wl_nil ⟨rfl, ?_⟩
    refine fl_eff1 3 [7, 6, 5, 1, 0] [8] (by kernel_rfl) ⟨obl_ld rfl rfl rfl (v_load rfl (by first | exact st.reads 0 rfl TF.t166 (getV_state ..) | exact st.reads 1 rfl TF.t166 (getV_state ..) | exact st.reads 2 rfl TF.t166 (getV_state ..) | exact st.reads 3 rfl TF.t166 (getV_state ..))), trivial⟩ rfl ?_
    refine wl_call rfl (by first | exact c_spreadS st 0 rfl hl | exact c_spreadS st 1 rfl hl | exact c_spreadS st 2 rfl hl | exact c_spreadS st 3 rfl hl) rfl ?_
    rintro v15 w ⟨t, rfl⟩
    have st := st.pure t
    refine wl_nil ⟨rfl, ?_⟩
    refine fl_eff1 4 [7, 6, 5, 1, 0] [8] (by kernel_rfl) ⟨obl_ld rfl rfl rfl (v_load rfl (by first | exact st.reads 0 rfl TF.t166 (getV_state ..) | exact st.reads 1 rfl TF.t166 (getV_state ..) | exact st.reads 2 rfl TF.t166 (getV_state ..) | exact st.reads 3 rfl TF.t166 (getV_state ..))), trivial⟩ rfl ?_
    refine wl_call rfl (c_factors st.im) rfl ?_
    rintro v16 w ⟨t, rfl⟩
    have st := st.pure t
    refine wl_nil ⟨rfl, ?_⟩
    refine FL.permB [11, 10, 9, 4, 3, 8, 7, 6, 5, 2, 1, 0] [7, 6, 5, 1, 0] [8] (by kernel_rfl) ?_
    exact fin _ _ _ _ _ rfl rfl rfl rfl rfl rfl rfl rfl rfl rfl (by first | exact st | exact st.perm p3_2 | exact st.perm p3_3 | exact st.perm p3_4 | exact st.perm p3_5 | exact st.perm p3_6)
 ·refine stepE 11 (pure' := [7, 6, 5, 2, 1, 0]) (lds' := [8]) rfl (by kernel_rfl) (by kernel_rfl) ?_
  refine wl_alloc TF.z166 st rfl ?_
  intro b4 w st
  refine wl_nil ⟨rfl, ?_⟩
  refine fl_effs [3, 9, 10] (by kernel_rfl) ⟨obl_ld rfl rfl rfl (v_load rfl (by first | exact st.reads 0 rfl TF.t166 (getV_state ..) | exact st.reads 1 rfl TF.t166 (getV_state ..) | exact st.reads 2 rfl TF.t166 (getV_state ..) | exact st.reads 3 rfl TF.t166 (getV_state ..))), trivial⟩ (all3 ?_ ?_ ?_)
  ·refine stepE 3 (pure' := [7, 6, 5, 1, 0]) (lds' := [8]) rfl (by kernel_rfl) (by kernel_rfl) ?_
   refine wl_call rfl (by first | exact c_spreadS st 0 rfl hl | exact c_spreadS st 1 rfl hl | exact c_spreadS st 2 rfl hl | exact c_spreadS st 3 rfl hl) rfl ?_
   rintro v15 w ⟨t, rfl⟩
   have st := st.pure t
   refine wl_nil ⟨rfl, ?_⟩
   refine fl_effs [4, 9, 10] (by kernel_rfl) ⟨obl_ld rfl rfl rfl (v_load rfl (by first | exact st.reads 0 rfl TF.t166 (getV_state ..) | exact st.reads 1 rfl TF.t166 (getV_state ..) | exact st.reads 2 rfl TF.t166 (getV_state ..) | exact st.reads 3 rfl TF.t166 (getV_state ..))), trivial⟩ (all3 ?_ ?_ ?_)
   ·refine stepE 4 (pure' := [7, 6, 5, 1, 0]) (lds' := [8]) rfl (by kernel_rfl) (by kernel_rfl) ?_
    refine wl_call rfl (c_factors st.im) rfl ?_
    rintro v16 w ⟨t, rfl⟩
    have st := st.pure t
    refine wl_nil ⟨rfl, ?_⟩
    refine fl_effs [9, 10] (by kernel_rfl) ⟨obl_ld rfl rfl rfl (v_load rfl (by first | exact st.reads 0 rfl TF.t166 (getV_state ..) | exact st.reads 1 rfl TF.t166 (getV_state ..) | exact st.reads 2 rfl TF.t166 (getV_state ..) | exact st.reads 3 rfl TF.t166 (getV_state ..))), trivial⟩ (all2 ?_ ?_)
    ·refine stepE 9 (pure' := [7, 6, 5, 1, 0]) (lds' := [8]) rfl (by kernel_rfl) (by kernel_rfl) ?_
     refine wl_alloc TF.z176 st rfl ?_
     intro b2 w st
     refine wl_nil ⟨rfl, ?_⟩
     refine fl_eff1 10 [7, 6, 5, 1, 0] [8] (by kernel_rfl) ⟨obl_ld rfl rfl rfl (v_load rfl (by first | exact st.reads 0 rfl TF.t166 (getV_state ..) | exact st.reads 1 rfl TF.t166 (getV_state ..) | exact st.reads 2 rfl TF.t166 (getV_state ..) | exact st.reads 3 rfl TF.t166 (getV_state ..))), trivial⟩ rfl ?_
     refine wl_alloc TF.z176 st rfl ?_
     intro b3 w st
     refine wl_nil ⟨rfl, ?_⟩
     refine FL.permB [11, 10, 9, 4, 3, 8, 7, 6, 5, 2, 1, 0] [7, 6, 5, 1, 0] [8] (by kernel_rfl) ?_
     exact fin _ _ _ _ _ rfl rfl rfl rfl rfl rfl rfl rfl rfl rfl (by first | exact st | exact st.perm p3_2 | exact st.perm p3_3 | exact st.perm p3_4 | exact st.perm p3_5 | exact st.perm p3_6)
    ·refine stepE 10 (pure' := [7, 6, 5, 1, 0]) (lds' := [8]) rfl (by kernel_rfl) (by kernel_rfl) ?_
     refine wl_alloc TF.z176 st rfl ?_
     intro b3 w st
     refine wl_nil ⟨rfl, ?_⟩
     refine fl_eff1 9 [7, 6, 5, 1, 0] [8] (by kernel_rfl) ⟨obl_ld rfl rfl rfl (v_load rfl (by first | exact st.reads 0 rfl TF.t166 (getV_state ..) | exact st.reads 1 rfl TF.t166 (getV_state ..) | exact st.reads 2 rfl TF.t166 (getV_state ..) | exact st.reads 3 rfl TF.t166 (getV_state ..))), trivial⟩ rfl ?_
     refine wl_alloc TF.z176 st rfl ?_
     intro b2 w st
     refine wl_nil ⟨rfl, ?_⟩
     refine FL.permB [11, 10, 9, 4, 3, 8, 7, 6, 5, 2, 1, 0] [7, 6, 5, 1, 0] [8] (by kernel_rfl) ?_
     exact fin _ _ _ _ _ rfl rfl rfl rfl rfl rfl rfl rfl rfl rfl (by first | exact st | exact st.perm p3_2 | exact st.perm p3_3 | exact st.perm p3_4 | exact st.perm p3_5 | exact st.perm p3_6)
   ·refine stepE 9 (pure' := [7, 6, 5, 1, 0]) (lds' := [8]) rfl (by kernel_rfl) (by kernel_rfl) ?_
    refine wl_alloc TF.z176 st rfl ?_
    intro b2 w st
    refine wl_nil ⟨rfl, ?_⟩
    refine fl_effs [4, 10] (by kernel_rfl) ⟨obl_ld rfl rfl rfl (v_load rfl (by first | exact st.reads 0 rfl TF.t166 (getV_state ..) | exact st.reads 1 rfl TF.t166 (getV_state ..) | exact st.reads 2 rfl TF.t166 (getV_state ..) | exact st.reads 3 rfl TF.t166 (getV_state ..))), trivial⟩ (all2 ?_ ?_)
    ·refine stepE 4 (pure' := [7, 6, 5, 1, 0]) (lds' := [8]) rfl (by kernel_rfl) (by kernel_rfl) ?_
     refine wl_call rfl (c_factors st.im) rfl ?_
     rintro v16 w ⟨t, rfl⟩
     have st := st.pure t
     refine wl_nil ⟨rfl, ?_⟩
     refine fl_eff1 10 [7, 6, 5, 1, 0] [8] (by kernel_rfl) ⟨obl_ld rfl rfl rfl (v_load rfl (by first | exact st.reads 0 rfl TF.t166 (getV_state ..) | exact st.reads 1 rfl TF.t166 (getV_state ..) | exact st.reads 2 rfl TF.t166 (getV_state ..) | exact st.reads 3 rfl TF.t166 (getV_state ..))), trivial⟩ rfl ?_
     refine wl_alloc TF.z176 st rfl ?_
     intro b3 w st
     refine wl_nil ⟨rfl, ?_⟩
     refine FL.permB [11, 10, 9, 4, 3, 8, 7, 6, 5, 2, 1, 0] [7, 6, 5, 1, 0] [8] (by kernel_rfl) ?_
     exact fin _ _ _ _ _ rfl rfl rfl rfl rfl rfl rfl rfl rfl rfl (by first | exact st | exact st.perm p3_2 | exact st.perm p3_3 | exact st.perm p3_4 | exact st.perm p3_5 | exact st.perm p3_6)
    ·refine stepE 10 (pure' := [7, 6, 5, 1, 0]) (lds' := [8]) rfl (by kernel_rfl) (by kernel_rfl) ?_
     refine wl_alloc TF.z176 st rfl ?_
     intro b3 w st
     refine wl_nil ⟨rfl, ?_⟩
     refine fl_eff1 4 [7, 6, 5, 1, 0] [8] (by kernel_rfl) ⟨obl_ld rfl rfl rfl (v_load rfl (by first | exact st.reads 0 rfl TF.t166 (getV_state ..) | exact st.reads 1 rfl TF.t166 (getV_state ..) | exact st.reads 2 rfl TF.t166 (getV_state ..) | exact st.reads 3 rfl TF.t166 (getV_state ..))), trivial⟩ rfl ?_
     refine wl_call rfl (c_factors st.im) rfl ?_
     rintro v16 w ⟨t, rfl⟩
     have st := st.pure t
     refine wl_nil ⟨rfl, ?_⟩
     refine FL.permB [11, 10, 9, 4, 3, 8, 7, 6, 5, 2, 1, 0] [7, 6, 5, 1, 0] [8] (by kernel_rfl) ?_
     exact fin _ _ _ _ _ rfl rfl rfl rfl rfl rfl rfl rfl rfl rfl (by first | exact st | exact st.perm p3_2 | exact st.perm p3_3 | exact st.perm p3_4 | exact st.perm p3_5 | exact st.perm p3_6)
   ·refine stepE 10 (pure' := [7, 6, 5, 1, 0]) (lds' := [8]) rfl (by kernel_rfl) (by kernel_rfl) ?_
    refine wl_alloc TF.z176 st rfl ?_
    intro b3 w st
    refine wl_nil ⟨rfl, ?_⟩
    refine fl_effs [4, 9] (by kernel_rfl) ⟨obl_ld rfl rfl rfl (v_load rfl (by first | exact st.reads 0 rfl TF.t166 (getV_state ..) | exact st.reads 1 rfl TF.t166 (getV_state ..) | exact st.reads 2 rfl TF.t166 (getV_state ..) | exact st.reads 3 rfl TF.t166 (getV_state ..))), trivial⟩ (all2 ?_ ?_)
    ·refine stepE 4 (pure' := [7, 6, 5, 1, 0]) (lds' := [8]) rfl (by kernel_rfl) (by kernel_rfl) ?_
     refine wl_call rfl (c_factors st.im) rfl ?_
     rintro v16 w ⟨t, rfl⟩
     have st := st.pure t
     refine wl_nil ⟨rfl, ?_⟩
     refine fl_eff1 9 [7, 6, 5, 1, 0] [8] (by kernel_rfl) ⟨obl_ld rfl rfl rfl (v_load rfl (by first | exact st.reads 0 rfl TF.t166 (getV_state ..) | exact st.reads 1 rfl TF.t166 (getV_state ..) | exact st.reads 2 rfl TF.t166 (getV_state ..) | exact st.reads 3 rfl TF.t166 (getV_state ..))), trivial⟩ rfl ?_
     refine wl_alloc TF.z176 st rfl ?_
     intro b2 w st
     refine wl_nil ⟨rfl, ?_⟩
     refine FL.permB [11, 10, 9, 4, 3, 8, 7, 6, 5, 2, 1, 0] [7, 6, 5, 1, 0] [8] (by kernel_rfl) ?_
     exact fin _ _ _ _ _ rfl rfl rfl rfl rfl rfl rfl rfl rfl rfl (by first | exact st | exact st.perm p3_2 | exact st.perm p3_3 | exact st.perm p3_4 | exact st.perm p3_5 | exact st.perm p3_6)
    ·refine stepE 9 (pure' := [7, 6, 5, 1, 0]) (lds' := [8]) rfl (by kernel_rfl) (by kernel_rfl) ?_
     refine wl_alloc TF.z176 st rfl ?_
     intro b2 w st
     refine wl_nil ⟨rfl, ?_⟩
     refine fl_eff1 4 [7, 6, 5, 1, 0] [8] (by kernel_rfl) ⟨obl_ld rfl rfl rfl (v_load rfl (by first | exact st.reads 0 rfl TF.t166 (getV_state ..) | exact st.reads 1 rfl TF.t166 (getV_state ..) | exact st.reads 2 rfl TF.t166 (getV_state ..) | exact st.reads 3 rfl TF.t166 (getV_state ..))), trivial⟩ rfl ?_
     refine wl_call rfl (c_factors st.im) rfl ?_
     rintro v16 w ⟨t, rfl⟩
     have st := st.pure t
     refine wl_nil ⟨rfl, ?_⟩
     refine FL.permB [11, 10, 9, 4, 3, 8, 7, 6, 5, 2, 1, 0] [7, 6, 5, 1, 0] [8] (by kernel_rfl) ?_
     exact fin _ _ _ _ _ rfl rfl rfl rfl rfl rfl rfl rfl rfl rfl (by first | exact st | exact st.perm p3_2 | exact st.perm p3_3 | exact st.perm p3_4 | exact st.perm p3_5 | exact st.perm p3_6)
  ·refine stepE 9 (pure' := [7, 6, 5, 2, 1, 0]) (lds' := [8]) rfl (by kernel_rfl) (by kernel_rfl) ?_
   refine wl_alloc TF.z176 st rfl ?_
   intro b2 w st
   refine wl_nil ⟨rfl, ?_⟩
   refine fl_effs [3, 10] (by kernel_rfl) ⟨obl_ld rfl rfl rfl (v_load rfl (by first | exact st.reads 0 rfl TF.t166 (getV_state ..) | exact st.reads 1 rfl TF.t166 (getV_state ..) | exact st.reads 2 rfl TF.t166 (getV_state ..) | exact st.reads 3 rfl TF.t166 (getV_state ..))), trivial⟩ (all2 ?_ ?_)
   ·refine stepE 3 (pure' := [7, 6, 5, 1, 0]) (lds' := [8]) rfl (by kernel_rfl) (by kernel_rfl) ?_
    refine wl_call rfl (by first | exact c_spreadS st 0 rfl hl | exact c_spreadS st 1 rfl hl | exact c_spreadS st 2 rfl hl | exact c_spreadS st 3 rfl hl) rfl ?_
    rintro v15 w ⟨t, rfl⟩
    have st := st.pure t
    refine wl_nil ⟨rfl, ?_⟩
    refine fl_effs [4, 10] (by kernel_rfl) ⟨obl_ld rfl rfl rfl (v_load rfl (by first | exact st.reads 0 rfl TF.t166 (getV_state ..) | exact st.reads 1 rfl TF.t166 (getV_state ..) | exact st.reads 2 rfl TF.t166 (getV_state ..) | exact st.reads 3 rfl TF.t166 (getV_state ..))), trivial⟩ (all2 ?_ ?_)
    ·refine stepE 4 (pure' := [7, 6, 5, 1, 0]) (lds' := [8]) rfl (by kernel_rfl) (by kernel_rfl) ?_
     refine wl_call rfl (c_factors st.im) rfl ?_
     rintro v16 w ⟨t, rfl⟩
     have st := st.pure t
     refine wl_nil ⟨rfl, ?_⟩
     refine fl_eff1 10 [7, 6, 5, 1, 0] [8] (by kernel_rfl) ⟨obl_ld rfl rfl rfl (v_load rfl (by first | exact st.reads 0 rfl TF.t166 (getV_state ..) | exact st.reads 1 rfl TF.t166 (getV_state ..) | exact st.reads 2 rfl TF.t166 (getV_state ..) | exact st.reads 3 rfl TF.t166 (getV_state ..))), trivial⟩ rfl ?_
     refine wl_alloc TF.z176 st rfl ?_
     intro b3 w st
     refine wl_nil ⟨rfl, ?_⟩
     refine FL.permB [11, 10, 9, 4, 3, 8, 7, 6, 5, 2, 1, 0] [7, 6, 5, 1, 0] [8] (by kernel_rfl) ?_
     exact fin _ _ _ _ _ rfl rfl rfl rfl rfl rfl rfl rfl rfl rfl (by first | exact st | exact st.perm p3_2 | exact st.perm p3_3 | exact st.perm p3_4 | exact st.perm p3_5 | exact st.perm p3_6)
    ·refine stepE 10 (pure' := [7, 6, 5, 1, 0]) (lds' := [8]) rfl (by kernel_rfl) (by kernel_rfl) ?_
     refine wl_alloc TF.z176 st rfl ?_
     intro b3 w st
     refine wl_nil ⟨rfl, ?_⟩
     refine fl_eff1 4 [7, 6, 5, 1, 0] [8] (by kernel_rfl) ⟨obl_ld rfl rfl rfl (v_load rfl (by first | exact st.reads 0 rfl TF.t166 (getV_state ..) | exact st.reads 1 rfl TF.t166 (getV_state ..) | exact st.reads 2 rfl TF.t166 (getV_state ..) | exact st.reads 3 rfl TF.t166 (getV_state ..))), trivial⟩ rfl ?_
     refine wl_call rfl (c_factors st.im) rfl ?_
     rintro v16 w ⟨t, rfl⟩
     have st := st.pure t
     refine wl_nil ⟨rfl, ?_⟩
     refine FL.permB [11, 10, 9, 4, 3, 8, 7, 6, 5, 2, 1, 0] [7, 6, 5, 1, 0] [8] (by kernel_rfl) ?_
     exact fin _ _ _ _ _ rfl rfl rfl rfl rfl rfl rfl rfl rfl rfl (by first | exact st | exact st.perm p3_2 | exact st.perm p3_3 | exact st.perm p3_4 | exact st.perm p3_5 | exact st.perm p3_6)
   ·refine stepE 10 (pure' := [7, 6, 5, 2, 1, 0]) (lds' := [8]) rfl (by kernel_rfl) (by kernel_rfl) ?_
    refine wl_alloc TF.z176 st rfl ?_
    intro b3 w st
    refine wl_nil ⟨rfl, ?_⟩
    refine fl_eff1 3 [7, 6, 5, 1, 0] [8] (by kernel_rfl) ⟨obl_ld rfl rfl rfl (v_load rfl (by first | exact st.reads 0 rfl TF.t166 (getV_state ..) | exact st.reads 1 rfl TF.t166 (getV_state ..) | exact st.reads 2 rfl TF.t166 (getV_state ..) | exact st.reads 3 rfl TF.t166 (getV_state ..))), trivial⟩ rfl ?_
    refine wl_call rfl (by first | exact c_spreadS st 0 rfl hl | exact c_spreadS st 1 rfl hl | exact c_spreadS st 2 rfl hl | exact c_spreadS st 3 rfl hl) rfl ?_
    rintro v15 w ⟨t, rfl⟩
    have st := st.pure t
    refine wl_nil ⟨rfl, ?_⟩
    refine fl_eff1 4 [7, 6, 5, 1, 0] [8] (by kernel_rfl) ⟨obl_ld rfl rfl rfl (v_load rfl (by first | exact st.reads 0 rfl TF.t166 (getV_state ..) | exact st.reads 1 rfl TF.t166 (getV_state ..) | exact st.reads 2 rfl TF.t166 (getV_state ..) | exact st.reads 3 rfl TF.t166 (getV_state ..))), trivial⟩ rfl ?_
    refine wl_call rfl (c_factors st.im) rfl ?_
    rintro v16 w ⟨t, rfl⟩
    have st := st.pure t
    refine wl_nil ⟨rfl, ?_⟩
    refine FL.permB [11, 10, 9, 4, 3, 8, 7, 6, 5, 2, 1, 0] [7, 6, 5, 1, 0] [8] (by kernel_rfl) ?_
    exact fin _ _ _ _ _ rfl rfl rfl rfl rfl rfl rfl rfl rfl rfl (by first | exact st | exact st.perm p3_2 | exact st.perm p3_3 | exact st.perm p3_4 | exact st.perm p3_5 | exact st.perm p3_6)
  ·refine stepE 10 (pure' := [7, 6, 5, 2, 1, 0]) (lds' := [8]) rfl (by kernel_rfl) (by kernel_rfl) ?_
   refine wl_alloc TF.z176 st rfl ?_
   intro b3 w st
   refine wl_nil ⟨rfl, ?_⟩
   refine fl_effs [3, 9] (by kernel_rfl) ⟨obl_ld rfl rfl rfl (v_load rfl (by first | exact st.reads 0 rfl TF.t166 (getV_state ..) | exact st.reads 1 rfl TF.t166 (getV_state ..) | exact st.reads 2 rfl TF.t166 (getV_state ..) | exact st.reads 3 rfl TF.t166 (getV_state ..))), trivial⟩ (all2 ?_ ?_)
   ·refine stepE 3 (pure' := [7, 6, 5, 1, 0]) (lds' := [8]) rfl (by kernel_rfl) (by kernel_rfl) ?_
    refine wl_call rfl (by first | exact c_spreadS st 0 rfl hl | exact c_spreadS st 1 rfl hl | exact c_spreadS st 2 rfl hl | exact c_spreadS st 3 rfl hl) rfl ?_
    rintro v15 w ⟨t, rfl⟩
    have st := st.pure t
    refine wl_nil ⟨rfl, ?_⟩
    refine fl_effs [4, 9] (by kernel_rfl) ⟨obl_ld rfl rfl rfl (v_load rfl (by first | exact st.reads 0 rfl TF.t166 (getV_state ..) | exact st.reads 1 rfl TF.t166 (getV_state ..) | exact st.reads 2 rfl TF.t166 (getV_state ..) | exact st.reads 3 rfl TF.t166 (getV_state ..))), trivial⟩ (all2 ?_ ?_)
    ·refine stepE 4 (pure' := [7, 6, 5, 1, 0]) (lds' := [8]) rfl (by kernel_rfl) (by kernel_rfl) ?_
     refine wl_call rfl (c_factors st.im) rfl ?_
     rintro v16 w ⟨t, rfl⟩
     have st := st.pure t
     refine wl_nil ⟨rfl, ?_⟩
     refine fl_eff1 9 [7, 6, 5, 1, 0] [8] (by kernel_rfl) ⟨obl_ld rfl rfl rfl (v_load rfl (by first | exact st.reads 0 rfl TF.t166 (getV_state ..) | exact st.reads 1 rfl TF.t166 (getV_state ..) | exact st.reads 2 rfl TF.t166 (getV_state ..) | exact st.reads 3 rfl TF.t166 (getV_state ..))), trivial⟩ rfl ?_
     refine wl_alloc TF.z176 st rfl ?_
     intro b2 w st
     refine wl_nil ⟨rfl, ?_⟩
     refine FL.permB [11, 10, 9, 4, 3, 8, 7, 6, 5, 2, 1, 0] [7, 6, 5, 1, 0] [8] (by kernel_rfl) ?_
     exact fin _ _ _ _ _ rfl rfl rfl rfl rfl rfl rfl rfl rfl rfl (by first | exact st | exact st.perm p3_2 | exact st.perm p3_3 | exact st.perm p3_4 | exact st.perm p3_5 | exact st.perm p3_6)
    ·refine stepE 9 (pure' := [7, 6, 5, 1, 0]) (lds' := [8]) rfl (by kernel_rfl) (by kernel_rfl) ?_
     refine wl_alloc TF.z176 st rfl ?_
     intro b2 w st
     refine wl_nil ⟨rfl, ?_⟩
     refine fl_eff1 4 [7, 6, 5, 1, 0] [8] (by kernel_rfl) ⟨obl_ld rfl rfl rfl (v_load rfl (by first | exact st.reads 0 rfl TF.t166 (getV_state ..) | exact st.reads 1 rfl TF.t166 (getV_state ..) | exact st.reads 2 rfl TF.t166 (getV_state ..) | exact st.reads 3 rfl TF.t166 (getV_state ..))), trivial⟩ rfl ?_
     refine wl_call rfl (c_factors st.im) rfl ?_
     rintro v16 w ⟨t, rfl⟩
     have st := st.pure t
     refine wl_nil ⟨rfl, ?_⟩
     refine FL.permB [11, 10, 9, 4, 3, 8, 7, 6, 5, 2, 1, 0] [7, 6, 5, 1, 0] [8] (by kernel_rfl) ?_
     exact fin _ _ _ _ _ rfl rfl rfl rfl rfl rfl rfl rfl rfl rfl (by first | exact st | exact st.perm p3_2 | exact st.perm p3_3 | exact st.perm p3_4 | exact st.perm p3_5 | exact st.perm p3_6)
   ·refine stepE 9 (pure' := [7, 6, 5, 2, 1, 0]) (lds' := [8]) rfl (by kernel_rfl) (by kernel_rfl) ?_
    refine wl_alloc TF.z176 st rfl ?_
    intro b2 w st
    refine wl_nil ⟨rfl, ?_⟩
    refine fl_eff1 3 [7, 6, 5, 1, 0] [8] (by kernel_rfl) ⟨obl_ld rfl rfl rfl (v_load rfl (by first | exact st.reads 0 rfl TF.t166 (getV_state ..) | exact st.reads 1 rfl TF.t166 (getV_state ..) | exact st.reads 2 rfl TF.t166 (getV_state ..) | exact st.reads 3 rfl TF.t166 (getV_state ..))), trivial⟩ rfl ?_
    refine wl_call rfl (by first | exact c_spreadS st 0 rfl hl | exact c_spreadS st 1 rfl hl | exact c_spreadS st 2 rfl hl | exact c_spreadS st 3 rfl hl) rfl ?_
    rintro v15 w ⟨t, rfl⟩
    have st := st.pure t
    refine wl_nil ⟨rfl, ?_⟩
    refine fl_eff1 4 [7, 6, 5, 1, 0] [8] (by kernel_rfl) ⟨obl_ld rfl rfl rfl (v_load rfl (by first | exact st.reads 0 rfl TF.t166 (getV_state ..) | exact st.reads 1 rfl TF.t166 (getV_state ..) | exact st.reads 2 rfl TF.t166 (getV_state ..) | exact st.reads 3 rfl TF.t166 (getV_state ..))), trivial⟩ rfl ?_
    refine wl_call rfl (c_factors st.im) rfl ?_
    rintro v16 w ⟨t, rfl⟩
    have st := st.pure t
    refine wl_nil ⟨rfl, ?_⟩
    refine FL.permB [11, 10, 9, 4, 3, 8, 7, 6, 5, 2, 1, 0] [7, 6, 5, 1, 0] [8] (by kernel_rfl) ?_
    exact fin _ _ _ _ _ rfl rfl rfl rfl rfl rfl rfl rfl rfl rfl (by first | exact st | exact st.perm p3_2 | exact st.perm p3_3 | exact st.perm p3_4 | exact st.perm p3_5 | exact st.perm p3_6)
end
end Go.Proofs.YtladpaehbolghaaGreat

namespace Go.Proofs.YtladpaehbolghaaGreat
open Go Go.RowKit K SH
namespace SH
def spl (S : List UInt8) (o : Nat) (l : List UInt8) : List UInt8 := S.take o ++ l ++ S.drop (o + l.length)
theorem length_spl {S l : List UInt8} {o : Nat} (h : o + l.length ≤ S.length) : (spl S o l).length = S.length := by simp [spl]; omega
theorem hs_append (L y : List UInt8) : ∀ k, 64 * k ≤ L.length → hs (L ++ y) k = hs L k
 | 0, _ => rfl
 | k + 1, h => by
  have ih := hs_append L y k (by omega)
  have e : ((L ++ y).drop (64 * k)).take 64 = (L.drop (64 * k)).take 64 := by
   rw [List.drop_append_of_le_length (by omega), List.take_append_of_le_length (by simp; omega)]
  rw [hs, hs, ih, e]
structure HSt (L : List UInt8) (v : V8) (bk : List UInt8) (hv : Nat) : Prop where
 st : v = hs L (L.length / 64)
 at_ : hv = L.length % 64
 len : bk.length = 64
 pre : bk.take hv = L.drop (64 * (L.length / 64))
theorem HSt.lt {L bk : List UInt8} {v : V8} {hv : Nat} (h : HSt L v bk hv) : hv < 64 := by rw [h.at_]; exact Nat.mod_lt _ (by decide)
theorem HSt.part {L bk y : List UInt8} {v : V8} {hv : Nat} (h : HSt L v bk hv) (hy : hv + y.length < 64) : HSt (L ++ y) v (spl bk hv y) (hv + y.length) := by
 have h1 := h.at_
 have hd : (L ++ y).length / 64 = L.length / 64 := by rw [List.length_append]; omega
 have hl := h.len
 refine ⟨?_, by rw [List.length_append]; omega, by rw [length_spl (by omega), hl], ?_⟩
 ·rw [hd, hs_append _ _ _ (by omega)]
  exact h.st
 ·rw [hd, List.drop_append_of_le_length (by omega), ← h.pre]
  unfold spl
  have hlt : (bk.take hv).length = hv := by simp; omega
  rw [List.take_append_of_le_length (by simp; omega), List.take_of_length_le (by simp; omega)]
theorem HSt.whole {L bk y : List UInt8} {v : V8} {hv : Nat} (h : HSt L v bk hv) (hy : hv + y.length = 64) : HSt (L ++ y) (comp v (spl bk hv y)) (spl bk hv y) 0 := by
 have h1 := h.at_
 have h2 := h.lt
 have hd : (L ++ y).length / 64 = L.length / 64 + 1 := by rw [List.length_append]; omega
 have hl := h.len
 have hsp : spl bk hv y = bk.take hv ++ y := by
  unfold spl
  rw [List.drop_eq_nil_of_le (by omega), List.append_nil]
 refine ⟨?_, by rw [List.length_append]; omega, by rw [length_spl (by omega), hl], ?_⟩
 ·rw [hd, hs, hs_append _ _ _ (by omega), ← h.st, List.drop_append_of_le_length (by omega), ← h.pre, ← hsp, List.take_of_length_le (by rw [length_spl (by omega)]; omega)]
 ·rw [hd, List.take_zero, List.drop_eq_nil_of_le (by rw [List.length_append]; omega)]
def HashAt (L : List UInt8) (c : Array Value) : Prop := ∃ v bk hv, c = hashC v bk (hv : Nat) (UInt64.ofNat L.length) ∧ HSt L v bk hv
theorem setSeg_hash {v : V8} {bk l : List UInt8} {hv : Int} {n : UInt64} {o : Nat} (h : o + l.length ≤ bk.length) : setSeg (hashC v bk hv n) (8 + o * 1) (bs l) = hashC v (spl bk o l) hv n := by
 have e1 : bs bk = bs (bk.take o) ++ bs ((bk.drop o).take l.length) ++ bs (bk.drop (o + l.length)) := by
  unfold bs
  rw [← List.map_append, ← List.map_append, List.append_assoc]
  congr 1
  rw [← List.drop_drop, List.take_append_drop, List.take_append_drop]
 have e2 : hashC v bk hv n = ((ws v.l ++ bs (bk.take o)) ++ bs ((bk.drop o).take l.length) ++ (bs (bk.drop (o + l.length)) ++ [.int .i64 hv, u64 n])).toArray := by
  unfold hashC
  rw [e1]
  simp
 rw [e2, setSeg_mid (by simp [ws, bs, length_l]; omega) (by simp [bs]; omega)]
 unfold hashC spl bs
 simp
theorem set_have {v : V8} {bk : List UInt8} {hv x : Int} {n : UInt64} (hl : bk.length = 64) : (hashC v bk hv n).setIfInBounds (0 + 72) (.int .i64 x) = hashC v bk x n := by
 unfold hashC
 have := set_app (A := ws v.l ++ bs bk) (B := [u64 n]) (x := .int .i64 x) (y := .int .i64 hv) (n := 0 + 72) (by simp [ws, bs, hl, length_l])
 exact this
theorem set_bytes {v : V8} {bk : List UInt8} {hv : Int} {n k : UInt64} (hl : bk.length = 64) : (hashC v bk hv n).setIfInBounds (0 + 73) (u64 k) = hashC v bk hv k := by
 unfold hashC
 have := set_app (A := ws v.l ++ bs bk ++ [.int .i64 hv]) (B := []) (x := u64 k) (y := u64 n) (n := 0 + 73) (by simp [ws, bs, hl, length_l])
 simpa using this
theorem getV_have {v : V8} {bk : List UInt8} {hv : Int} {n : UInt64} (hl : bk.length = 64) : getV false 1 (hashC v bk hv n) (0 + 72) = some (.int .i64 hv) := by
 unfold getV hashC
 simp only [Bool.false_eq_true, if_false]
 rw [List.getElem?_append_right (by simp [ws, bs, hl, length_l])]
 simp [ws, bs, hl, length_l]
theorem getV_bytes {v : V8} {bk : List UInt8} {hv : Int} {n : UInt64} (hl : bk.length = 64) : getV false 1 (hashC v bk hv n) (0 + 73) = some (u64 n) := by
 unfold getV hashC
 simp only [Bool.false_eq_true, if_false]
 rw [List.getElem?_append_right (by simp [ws, bs, hl, length_l])]
 simp [ws, bs, hl, length_l]
theorem size_hashC {v : V8} {bk : List UInt8} {hv : Int} {n : UInt64} (hl : bk.length = 64) : (hashC v bk hv n).size = 74 := by simp [hashC, ws, bs, hl, length_l]
end SH
section
variable {m : Mem} {wI : World}
theorem c_hwrite {b : Nat} {c : Array Value} {L x : List UInt8} {v : Value} (him : Im m wI) (hE : (K.blk b c 175).holds wI) (hm : m b = none) (hH : HashAt L c) (hx : SlM m v 1 x.length (bs x)) (hb : L.length + x.length ≤ 2199023255552) :
  Ret Tryz.prog 128 #[.pointer (some ⟨b, 0, none⟩), v] wI fun _ w' => ∃ c', Tch wI w' [b] [b] ∧ (K.blk b c' 175).holds w' ∧ HashAt (L ++ x) c' := by
 have st := St.startE him hE (by simpa [K.blk] using hm)
 obtain ⟨vs, bk, hv, rfl, hst⟩ := hH
 have hx0 := hx
 obtain ⟨_, xa, xc, rfl, _⟩ := hx
 refine ret_of Tryz.call128 Tryz.func128 rfl Tryz.ntmps128 Tryz.results128 rfl ?_
 refine wc_seq ?_
 refine wc_region ?_
 refine wl_val (v_move' (by conv => (lhs; whnf))) rfl ?_
 refine wl_val (v_nil rfl) rfl ?_
 refine wl_val (v_fa TF.f175_3 rfl) rfl ?_
 refine wl_val (v_load rfl (st.reads 0 rfl TF.t47 (getV_bytes hst.len))) rfl ?_
 refine wl_val (v_move' (by conv => (lhs; whnf))) rfl ?_
 refine wl_val (v_len_s Tryz.underlying23 rfl) rfl ?_
 refine wl_val (v_convi_64 (n := x.length) Tryz.underlying3 Tryz.underlying47 rfl) rfl ?_
 refine wl_val (v_add64 rfl rfl) rfl ?_
 refine wl_val (v_nil rfl) rfl ?_
 refine wl_val (v_fa TF.f175_3 rfl) rfl ?_
 refine wl_store1 (v := u64 (UInt64.ofNat L.length + UInt64.ofNat x.length)) 0 st rfl TF.t47 rfl rfl rfl (by rw [size_hashC hst.len]; omega) ?_
 intro w st
 refine wl_nil ?_
 refine then_go ?_
 refine wc_block ?_
 have e : (hashC vs bk (hv : Nat) (UInt64.ofNat L.length)).setIfInBounds (0 + 73) (u64 (UInt64.ofNat L.length + UInt64.ofNat x.length)) = hashC vs bk (hv : Nat) (UInt64.ofNat (L ++ x).length) := by
  rw [set_bytes hst.len, List.length_append, UInt64.ofNat_add]
 change St _ _ _ _ _ [K.blk b ((hashC vs bk (hv : Nat) (UInt64.ofNat L.length)).setIfInBounds (0 + 73) (u64 (UInt64.ofNat L.length + UInt64.ofNat x.length))) _] at st
 rw [e] at st
 refine wc_loop (S := Nat) (fun q r w' => ∃ y z vs bk hv v', x = y ++ z ∧ q = z.length ∧ r 0 = .pointer (some ⟨b, 0, none⟩) ∧ r 1 = v' ∧ SlM m v' 1 z.length (bs z) ∧ HSt (L ++ y) vs bk hv ∧ St m m [b] wI w' [K.blk b (hashC vs bk (hv : Nat) (UInt64.ofNat (L ++ x).length)) 175]) id x.length ⟨[], x, vs, bk, hv, _, rfl, rfl, rfl, rfl, hx0, by rw [List.append_nil]; exact hst, st⟩ ?_
 clear st hst
 rintro q r w2 ⟨y, z, vs, bk, hv, v', hxyz, hq, h0, h1, hz, hst, st⟩
 have hz0 := hz
 obtain ⟨_, za, zc, rfl, hzk, _⟩ := hz
 refine wc_o 0 h0 (wc_o 1 h1 ?_)
 refine wc_seq ?_
 refine wc_seq ?_
 refine wc_region ?_
 refine wl_val (v_move' (by conv => (lhs; whnf))) rfl ?_
 refine wl_val (v_len_s Tryz.underlying23 rfl) rfl ?_
 refine wl_val (v_gtr rfl rfl) rfl ?_
 refine wl_nil ?_
 refine then_go ?_
 refine wc_if rfl (fun h17 => ?_) (fun h17 => ?_)
 ·refine wc_skip ?_
  refine then_go ?_
  refine wc_block ?_
  refine wc_seq ?_
  have hlt := hst.lt
  have hblen := hst.len
  have hLy : (L ++ y).length ≤ 2199023255552 := by rw [hxyz] at hb; simp at hb ⊢; omega
  have hzl : z.length ≤ 2199023255552 := by rw [hxyz] at hb; simp at hb ⊢; omega
  obtain ⟨k, hk⟩ : ∃ k, k = min z.length (64 - hv) := ⟨_, rfl⟩
  have hk1 : k ≤ z.length := by omega
  have hzt : (z.take k).length = k := by simp; omega
  refine wc_draw TF.mixed ?_
  have st := st.pure (touch_drew _)
  refine fl_val 0 rfl (fun _ => (v_move' (by conv => (lhs; whnf)))) rfl (by kernel_rfl) ?_
  refine fl_val 1 rfl (fun _ => (v_nil rfl)) rfl (by kernel_rfl) ?_
  refine fl_val 2 rfl (fun _ => (v_fa TF.f175_1 rfl)) rfl (by kernel_rfl) ?_
  refine fl_val 3 rfl (fun _ => (v_move' (by conv => (lhs; whnf)))) rfl (by kernel_rfl) ?_
  refine fl_val 4 rfl (fun _ => (v_nil rfl)) rfl (by kernel_rfl) ?_
  refine fl_val 5 rfl (fun _ => (v_fa TF.f175_2 rfl)) rfl (by kernel_rfl) ?_
  refine fl_ld 6 rfl (v_load rfl (by first | exact st.reads 0 rfl TF.t3 (getV_have hst.len) | exact st.reads 0 rfl TF.t3 (getV_have hsl))) (by kernel_rfl) ?_
  refine fl_val 7 rfl (fun _ => (v_sla hv 64 Tryz.underlying103 TF.t5 rfl ⟨_, _, rfl, rfl⟩ rfl (by omega) (by omega) (by omega))) rfl (by kernel_rfl) ?_
  refine fl_val 8 rfl (fun _ => (v_move' (by conv => (lhs; whnf)))) rfl (by kernel_rfl) ?_
  refine fl_eff1 9 [5, 4, 3, 2, 1, 0] [6] (by kernel_rfl) ⟨obl_ld rfl rfl rfl (v_load rfl (by first | exact st.reads 0 rfl TF.t3 (getV_have hst.len) | exact st.reads 0 rfl TF.t3 (getV_have hsl))), trivial⟩ rfl ?_
  refine wl_copy (size := 1) (b := b) (off := 0 + 8 + hv * 1) (len := 64 - hv) (cap := 64 - hv) (j := z.length) (news := bs z) 0 st rfl Tryz.underlying23 TF.t5 rfl rfl (hz0.src st.im (one_bs _)) (by rw [size_hashC hst.len]; omega) rfl ?_
  intro w st
  rw [← hk] at st ⊢
  have e : setSeg (hashC vs bk (hv : Nat) (UInt64.ofNat (L ++ x).length)) (0 + 8 + hv * 1) ((bs z).take (k * 1)) = hashC vs (spl bk hv (z.take k)) (hv : Nat) (UInt64.ofNat (L ++ x).length) := by
   rw [show (bs z).take (k * 1) = bs (z.take k) by rw [Nat.mul_one, bs, bs, List.map_take], show 0 + 8 + hv * 1 = 8 + hv * 1 by omega, setSeg_hash (by rw [hzt]; omega)]
  change St _ _ _ _ _ [K.blk b (setSeg (hashC vs bk (hv : Nat) (UInt64.ofNat (L ++ x).length)) (0 + 8 + hv * 1) ((bs z).take (k * 1))) _] at st
  rw [e] at st
  have hsl : (spl bk hv (z.take k)).length = 64 := by rw [length_spl (by rw [hzt]; omega), hblen]
  refine wl_nil ⟨rfl, ?_⟩
  refine fl_eff1 10 [] [] (by kernel_rfl) ⟨obl_ld rfl rfl rfl (v_load rfl (by first | exact st.reads 0 rfl TF.t3 (getV_have hst.len) | exact st.reads 0 rfl TF.t3 (getV_have hsl))), trivial⟩ rfl ?_
  refine wl_val (v_assign' (by conv => (lhs; whnf))) rfl ?_
  refine wl_nil ⟨rfl, ?_⟩
  refine fl_nil (by kernel_rfl) trivial ?_
  refine then_go ?_
  refine wc_seq ?_
  refine wc_draw TF.mixed ?_
  have st := st.pure (touch_drew _)
  refine fl_val 0 rfl (fun _ => (v_move' (by conv => (lhs; whnf)))) rfl (by kernel_rfl) ?_
  refine fl_val 1 rfl (fun _ => (v_move' (by conv => (lhs; whnf)))) rfl (by kernel_rfl) ?_
  refine fl_val 2 rfl (fun _ => (v_nil rfl)) rfl (by kernel_rfl) ?_
  refine fl_val 3 rfl (fun _ => (v_fa TF.f175_2 rfl)) rfl (by kernel_rfl) ?_
  refine fl_ld 4 rfl (v_load rfl (st.reads 0 rfl TF.t3 (getV_have hsl))) (by kernel_rfl) ?_
  refine fl_val 5 rfl (fun _ => (v_move' (by conv => (lhs; whnf)))) rfl (by kernel_rfl) ?_
  refine fl_val 6 rfl (fun _ => (v_add' (c := ((hv + k : Nat) : Int)) rfl rfl (by omega) (by omega) (by omega))) rfl (by kernel_rfl) ?_
  refine fl_val 7 rfl (fun _ => (v_move' (by conv => (lhs; whnf)))) rfl (by kernel_rfl) ?_
  refine fl_val 8 rfl (fun _ => (v_move' (by conv => (lhs; whnf)))) rfl (by kernel_rfl) ?_
  refine fl_val 9 rfl (fun _ => (v_slice_s (l := k) (h := z.length) Tryz.underlying23 TF.t5 rfl ⟨_, _, rfl, rfl⟩ rfl hk1 hzk)) rfl (by kernel_rfl) ?_
  refine fl_val 10 rfl (fun _ => (v_nil rfl)) rfl (by kernel_rfl) ?_
  refine fl_val 11 rfl (fun _ => (v_fa TF.f175_2 rfl)) rfl (by kernel_rfl) ?_
  refine fl_eff1 12 [10, 9, 8, 7] [] (by kernel_rfl) ⟨obl_ld rfl rfl rfl (v_load rfl (st.reads 0 rfl TF.t3 (getV_have hsl))), trivial⟩ rfl ?_
  refine wl_store1 (v := .int .i64 ((hv + k : Nat) : Int)) 0 st rfl TF.t3 rfl rfl rfl (by rw [size_hashC hsl]; omega) ?_
  intro w st
  have e3 := set_have (v := vs) (bk := spl bk hv (z.take k)) (hv := (hv : Nat)) (x := ((hv + k : Nat) : Int)) (n := UInt64.ofNat (L ++ x).length) hsl
  change St _ _ _ _ _ [K.blk b ((hashC vs (spl bk hv (z.take k)) (hv : Nat) (UInt64.ofNat (L ++ x).length)).setIfInBounds (0 + 72) (.int .i64 ((hv + k : Nat) : Int))) _] at st
  rw [e3] at st
  have hz2 := hz0.subB k z.length hk1 (Nat.le_refl _)
  have hzd : (z.drop k).take (z.length - k) = z.drop k := List.take_of_length_le (by simp)
  rw [hzd, show z.length - k = (z.drop k).length by simp] at hz2
  rw [show z.length - k = (z.drop k).length by simp]
  refine wl_nil ⟨rfl, ?_⟩
  refine fl_eff1 13 [] [] (by kernel_rfl) trivial rfl ?_
  refine wl_val (v_assign' (by conv => (lhs; whnf))) rfl ?_
  refine wl_nil ⟨rfl, ?_⟩
  refine fl_nil (by kernel_rfl) trivial ?_
  refine then_go ?_
  refine wc_seq ?_
  refine wc_region ?_
  refine wl_val (v_move' (by conv => (lhs; whnf))) rfl ?_
  refine wl_val (v_nil rfl) rfl ?_
  refine wl_val (v_fa TF.f175_2 rfl) rfl ?_
  refine wl_val (v_load rfl (st.reads 0 rfl TF.t3 (getV_have hsl))) rfl ?_
  refine wl_val (v_eql rfl rfl) rfl ?_
  refine wl_nil ?_
  refine then_go ?_
  refine wc_if rfl (fun h44 => ?_) (fun h44 => ?_)
  ·refine wc_region ?_
   refine wl_val (v_move' (by conv => (lhs; whnf))) rfl ?_
   refine wl_call rfl (c_mix st.im (st.at (i := 0) rfl) (st.none (i := 0) rfl b (by simp [K.blk])) hsl) rfl ?_
   rintro v46 w ⟨t, hE2⟩
   have st := st.step 0 rfl t hE2
   change St _ _ _ _ _ [K.blk b (hashC (comp vs (spl bk hv (z.take k))) (spl bk hv (z.take k)) ((0 : Nat) : Int) (UInt64.ofNat (L ++ x).length)) _] at st
   refine wl_nil ?_
   refine block_go (then_go ?_)
   have hw := hst.whole (y := z.take k) (by rw [hzt]; omega)
   rw [List.append_assoc] at hw
   exact ⟨(z.drop k).length, by simp; omega, y ++ z.take k, z.drop k, _, _, 0, _, by rw [List.append_assoc, List.take_append_drop, hxyz], rfl, rfl, rfl, hz2, hw, st⟩
  ·refine wc_skip ?_
   refine block_go (then_go ?_)
   have hw := hst.part (y := z.take k) (by rw [hzt]; omega)
   rw [List.append_assoc, hzt] at hw
   exact ⟨(z.drop k).length, by simp; omega, y ++ z.take k, z.drop k, _, _, _, _, by rw [List.append_assoc, List.take_append_drop, hxyz], rfl, rfl, rfl, hz2, hw, st⟩
 ·refine wc_exit (then_exit (then_exit (block_hit ?_)))
  have hz0l : z = [] := List.eq_nil_of_length_eq_zero (by omega)
  have hxy : x = y := by rw [hxyz, hz0l, List.append_nil]
  rw [← hxy] at hst
  exact end0 ⟨_, st.touch, st.at (i := 0) rfl, vs, bk, hv, rfl, hst⟩
end
end Go.Proofs.YtladpaehbolghaaGreat

namespace Go.Proofs.YtladpaehbolghaaGreat
open Go Go.RowKit K SH
namespace SH
theorem one_hashC {v : V8} {bk : List UInt8} {hv : Int} {n : UInt64} : ∀ u ∈ (hashC v bk hv n).toList, u.oneCell' = true := by
 intro u hu
 simp only [hashC, List.mem_append, List.mem_cons, List.not_mem_nil, or_false] at hu
 rcases hu with (h | h) | h | h
 ·exact one_ws _ u h
 ·exact one_bs _ u h
 ·rw [h]; rfl
 ·rw [h]; rfl
theorem hashAt_nil : HashAt [] (hashC h0 (List.replicate 64 0) 0 0) := ⟨h0, _, 0, rfl, ⟨rfl, rfl, by simp, rfl⟩⟩
end SH
section
variable {m : Mem} {wI : World}
theorem c_hnew (him : Im m wI) : Ret Tryz.prog 127 #[] wI fun v w' => ∃ b c, v = .pointer (some ⟨b, 0, none⟩) ∧ Tch wI w' [] [b] ∧ (K.blk b c 175).holds w' ∧ HashAt [] c := by
 have st := St.start him
 refine ret_of Tryz.call127 Tryz.func127 rfl Tryz.ntmps127 Tryz.results127 rfl ?_
 refine wc_seq ?_
 refine wc_region ?_
 refine wl_val (v_assign' (by conv => (lhs; whnf))) rfl ?_
 refine wl_nil ?_
 refine then_go ?_
 refine wc_seq ?_
 refine wc_region ?_
 refine wl_val (v_build_fill (c' := (ws h0.l).toArray) [(0, u32 1779033703), (1, u32 3144134277), (2, u32 1013904242), (3, u32 2773480762), (4, u32 1359893119), (5, u32 2600822924), (6, u32 528734635), (7, u32 1541459225)] TF.z166 Tryz.underlying166 TF.t160 rfl (fill8 _ _ _ _ _ _ _ _)) rfl ?_
 refine wl_val (v_build (c' := hashC h0 (List.replicate 64 0) 0 0) [(0, arr32 h0.l)] TF.z175 TF.p175 rfl (fill_one [] (List.replicate 8 (u32 0)) (List.replicate 64 (u8 0) ++ [.int .i64 0, u64 0]) rfl rfl rfl rfl)) rfl ?_
 refine wl_box (v := .agg (hashC h0 (List.replicate 64 0) 0 0)) rfl st rfl ?_
 intro b w st
 refine wl_val (v_assign' (by conv => (lhs; whnf))) rfl ?_
 refine wl_nil ?_
 refine then_go ?_
 refine wc_ret ?_
 have hf := (St.finish (Es := []) (l := [_]) st).1
 exact ret1 rfl ⟨b, _, rfl, ⟨hf.os, hf.tape, hf.output, hf.size, hf.block, fun k hk => hf.out k (by simpa [joinE, K.blk] using hk)⟩, st.at (i := 0) rfl, hashAt_nil⟩
theorem c_hclone {b : Nat} {v : V8} {bk : List UInt8} {hv : Int} {n : UInt64} {t : TypeId} {fr : Nat × Nat} (him : Im m wI) (hm : m b = some (.cells (hashC v bk hv n) t fr)) (hl : bk.length = 64) :
  Ret Tryz.prog 139 #[.pointer (some ⟨b, 0, none⟩)] wI fun v' w' => ∃ b', v' = .pointer (some ⟨b', 0, none⟩) ∧ Tch wI w' [] [b'] ∧ (K.blk b' (hashC v bk hv n) 175).holds w' := by
 have st := St.start him
 refine ret_of Tryz.call139 Tryz.func139 rfl Tryz.ntmps139 Tryz.results139 rfl ?_
 refine wc_seq ?_
 refine wc_region ?_
 refine wl_val (v_assign' (by conv => (lhs; whnf))) rfl ?_
 refine wl_nil ?_
 refine then_go ?_
 refine wc_seq ?_
 refine wc_region ?_
 refine wl_val (v_move' (by conv => (lhs; whnf))) rfl ?_
 refine wl_val (v_nil rfl) rfl ?_
 refine wl_val (v_load rfl (st.readm hm TF.t175 (getV_all (size_hashC hl)))) rfl ?_
 refine wl_alloc TF.z175 st rfl ?_
 intro b3 w st
 refine wl_storeW (cs := hashC v bk hv n) 0 st rfl TF.t175 rfl rfl (size_hashC hl) rfl one_hashC ?_
 intro w st
 refine wl_nil ?_
 refine then_go ?_
 refine wc_seq ?_
 refine wc_region ?_
 refine wl_val (v_assign' (by conv => (lhs; whnf))) rfl ?_
 refine wl_nil ?_
 refine then_go ?_
 refine wc_ret ?_
 have hf := (St.finish (Es := []) (l := [_]) st).1
 exact ret1 rfl ⟨b3, rfl, ⟨hf.os, hf.tape, hf.output, hf.size, hf.block, fun k hk => hf.out k (by simpa [joinE, K.blk] using hk)⟩, st.at (i := 0) rfl⟩
theorem c_hdigest {b : Nat} {L : List UInt8} {c : Array Value} {t : TypeId} {fr : Nat × Nat} (him : Im m wI) (hm : m b = some (.cells c t fr)) (hH : HashAt L c) (hL : L.length ≤ 1099511627776) :
  Ret Tryz.prog 129 #[.pointer (some ⟨b, 0, none⟩)] wI fun v w' => Tch wI w' [] [] ∧ v = arr (sum L) := by
 have st := St.start him
 obtain ⟨vs, bk, hv, rfl, hst⟩ := hH
 have hfl := full_le L
 have hfm := full_mod L (by omega)
 refine ret_of Tryz.call129 Tryz.func129 rfl Tryz.ntmps129 Tryz.results129 rfl ?_
 refine wc_seq ?_
 refine wc_region ?_
 refine wl_alloc TF.z141 st rfl ?_
 intro b2 w st
 refine wl_nil ?_
 refine then_go ?_
 refine wc_seq ?_
 refine wc_region ?_
 refine wl_val (v_move' (by conv => (lhs; whnf))) rfl ?_
 refine wl_call rfl (c_hclone st.im hm hst.len) rfl ?_
 rintro v9 w ⟨b3, rfl, t, hE⟩
 have st := st.new (E := K.blk b3 _ _) t hE
 refine wl_val (v_assign' (by conv => (lhs; whnf))) rfl ?_
 refine wl_nil ?_
 refine then_go ?_
 refine wc_seq ?_
 refine wc_region ?_
 refine wl_val (v_move' (by conv => (lhs; whnf))) rfl ?_
 refine wl_val (v_move' (by conv => (lhs; whnf))) rfl ?_
 refine wl_val (v_nil rfl) rfl ?_
 refine wl_val (v_fa TF.f175_3 rfl) rfl ?_
 refine wl_val (v_load rfl (st.readm hm TF.t47 (getV_bytes hst.len))) rfl ?_
 refine wl_call rfl (c_pad st.im) rfl ?_
 rintro v15 w ⟨t, m1, hg1, hi1, hp⟩
 have st := st.grown hg1 t hi1
 refine wl_call rfl (c_hwrite (L := L) st.im (st.at (i := 0) rfl) (st.none (i := 0) rfl b3 (by simp [K.blk])) ⟨vs, bk, hv, rfl, hst⟩ hp (by rw [length_pad]; have := zs_lt (UInt64.ofNat L.length).toNat; omega)) rfl ?_
 rintro v16 w ⟨c2, t, hE2, hH2⟩
 have st := st.step 0 rfl t hE2
 rw [show L ++ pad (UInt64.ofNat L.length) = full L from rfl] at hH2
 obtain ⟨v2, bk2, hv2, rfl, hst2⟩ := hH2
 have hsum : sum L = dig v2 := by rw [hst2.st]; rfl
 change St _ _ _ _ _ [K.blk b3 (hashC v2 bk2 (hv2 : Nat) (UInt64.ofNat (full L).length)) _, _] at st
 refine wl_nil ?_
 refine then_go ?_
 refine wc_seq ?_
 refine wc_region ?_
 refine wl_alloc TF.z141 st rfl ?_
 intro b4 w st
 refine wl_nil ?_
 refine then_go ?_
 refine wc_seq ?_
 refine wc_seq ?_
 refine wc_region ?_
 refine wl_val (v_move' (by conv => (lhs; whnf))) rfl ?_
 refine wl_val (v_nil rfl) rfl ?_
 refine wl_val (v_fa TF.f175_0 rfl) rfl ?_
 refine wl_val (v_load rfl (st.reads 1 rfl TF.t166 (getV_state ..))) rfl ?_
 refine wl_val (v_move' (by conv => (lhs; whnf))) rfl ?_
 refine wl_nil ?_
 refine then_go ?_
 refine wc_block ?_
 refine wc_loop (S := Nat) (fun q r w' => ∃ i, q + i = 8 ∧ r 2 = .pointer (some ⟨b2, 0, none⟩) ∧ r 4 = .pointer (some ⟨b4, 0, none⟩) ∧ r 20 = arr32 v2.l ∧ r 21 = .int .i64 i ∧
  St m m1 [] wI w' [K.blk b4 (bs ((List.range (4 * i)).map (digB v2)) ++ List.replicate (32 - 4 * i) (u8 0)).toArray 141, K.blk b3 (hashC v2 bk2 (hv2 : Nat) (UInt64.ofNat (full L).length)) 175, K.blk b2 (Array.replicate 32 (u8 0)) 141]) id 8 ⟨0, rfl, rfl, rfl, rfl, rfl, st⟩ ?_
 rintro q r w2 ⟨i, hqi, h2, h4, h20, h21, st⟩
 refine wc_o 2 h2 (wc_o 4 h4 (wc_o 20 h20 (wc_o 21 h21 ?_)))
 refine wc_seq ?_
 refine wc_region ?_
 refine wl_val (v_lss rfl rfl) rfl ?_
 refine wl_nil ?_
 refine then_go ?_
 refine wc_seq ?_
 refine wc_if rfl (fun h22 => ?_) (fun h22 => ?_)
 ·refine wc_skip ?_
  refine then_go ?_
  refine wc_seq ?_
  refine wc_block ?_
  refine wc_seq ?_
  have hi : i < 8 := by omega
  refine wc_region ?_
  refine wl_val (v_move' (by conv => (lhs; whnf))) rfl ?_
  refine wl_val (v_index_a (v := u32 (v2.l.getD i 0)) Tryz.underlying166 TF.t160 rfl rfl (by omega) (by omega) (getV_wse (j := i) (by simp) (by rw [length_l]; omega))) rfl ?_
  refine wl_val (v_assign' (by conv => (lhs; whnf))) rfl ?_
  refine wl_val (v_assign' (by conv => (lhs; whnf))) rfl ?_
  refine wl_nil ?_
  refine then_go ?_
  refine wc_seq ?_
  refine wc_region ?_
  refine wl_val (v_move' (by conv => (lhs; whnf))) rfl ?_
  refine wl_nil ?_
  refine then_go ?_
  refine wc_block ?_
  refine wc_loop (S := Nat) (fun q r w' => ∃ k, q + k = 4 ∧ r 2 = .pointer (some ⟨b2, 0, none⟩) ∧ r 4 = .pointer (some ⟨b4, 0, none⟩) ∧ r 5 = .int .i64 i ∧ r 6 = u32 (v2.l.getD i 0) ∧ r 20 = arr32 v2.l ∧ r 21 = .int .i64 i ∧ r 25 = .int .i64 k ∧
   St m m1 [] wI w' [K.blk b4 (bs ((List.range (4 * i + k)).map (digB v2)) ++ List.replicate (32 - (4 * i + k)) (u8 0)).toArray 141, K.blk b3 (hashC v2 bk2 (hv2 : Nat) (UInt64.ofNat (full L).length)) 175, K.blk b2 (Array.replicate 32 (u8 0)) 141]) id 4 ⟨0, rfl, rfl, rfl, rfl, rfl, rfl, rfl, rfl, st⟩ ?_
  rintro q2 r w3 ⟨k, hqk, h2, h4, h5, h6, h20, h21, h25, st⟩
  refine wc_o 2 h2 (wc_o 4 h4 (wc_o 5 h5 (wc_o 6 h6 (wc_o 20 h20 (wc_o 21 h21 (wc_o 25 h25 ?_))))))
  refine wc_seq ?_
  refine wc_region ?_
  refine wl_val (v_lss rfl rfl) rfl ?_
  refine wl_nil ?_
  refine then_go ?_
  refine wc_seq ?_
  refine wc_if rfl (fun h26 => ?_) (fun h26 => ?_)
  ·refine wc_skip ?_
   refine then_go ?_
   refine wc_seq ?_
   refine wc_block ?_
   refine wc_seq ?_
   have hk : k < 4 := by omega
   refine wc_region ?_
   refine wl_val (v_move' (by conv => (lhs; whnf))) rfl ?_
   refine wl_val (v_assign' (by conv => (lhs; whnf))) rfl ?_
   refine wl_nil ?_
   refine then_go ?_
   refine wc_region ?_
   refine wl_val (v_move' (by conv => (lhs; whnf))) rfl ?_
   refine wl_val (v_mul' (c := ((4 * i : Nat) : Int)) rfl rfl (by omega) (by omega) (by omega)) rfl ?_
   refine wl_val (v_move' (by conv => (lhs; whnf))) rfl ?_
   refine wl_val (v_add' (c := ((4 * i + k : Nat) : Int)) rfl rfl (by omega) (by omega) (by omega)) rfl ?_
   refine wl_val (v_move' (by conv => (lhs; whnf))) rfl ?_
   refine wl_val (v_move' (by conv => (lhs; whnf))) rfl ?_
   refine wl_val (v_mul' (c := ((8 * k : Nat) : Int)) rfl rfl (by omega) (by omega) (by omega)) rfl ?_
   refine wl_val (v_sub' (c := ((24 - 8 * k : Nat) : Int)) rfl rfl (by omega) (by omega) (by omega)) rfl ?_
   refine wl_val (v_shr32 (24 - 8 * k) rfl rfl (by first | omega | decide | (dsimp only at *; omega))) rfl ?_
   refine wl_val (v_conv32_8 Tryz.underlying160 Tryz.underlying5 rfl) rfl ?_
   refine wl_val (v_iaa (4 * i + k) Tryz.underlying141 TF.t5 rfl rfl (by first | rfl | omega) (by first | omega | (dsimp only at *; omega))) rfl ?_
   have hdb : UInt8.ofNat (shr32 (v2.l.getD i 0) (24 - 8 * k)).toNat = digB v2 (4 * i + k) := by
    unfold digB
    rw [show (4 * i + k) / 4 = i by omega, show (4 * i + k) % 4 = k by omega]
   refine wl_store1 (v := u8 (UInt8.ofNat (shr32 (v2.l.getD i 0) (24 - 8 * k)).toNat)) 0 st rfl TF.t5 rfl rfl rfl (by simp [bs]; omega) ?_
   intro w st
   refine wl_nil ?_
   refine block_go (then_go ?_)
   refine wc_region ?_
   refine wl_val (v_add' rfl rfl rfl (by first | omega | (dsimp only at *; omega)) (by first | omega | (dsimp only at *; omega))) rfl ?_
   refine wl_val (v_move' (by conv => (lhs; whnf))) rfl ?_
   refine wl_nil ?_
   refine then_go ?_
   refine ⟨q2 - 1, by simp; omega, k + 1, by omega, rfl, rfl, rfl, rfl, rfl, rfl, rfl, ?_⟩
   have e : (bs ((List.range (4 * i + k)).map (digB v2)) ++ List.replicate (32 - (4 * i + k)) (u8 0)).toArray.setIfInBounds (0 + (4 * i + k) * 1) (u8 (digB v2 (4 * i + k))) = (bs ((List.range (4 * i + (k + 1))).map (digB v2)) ++ List.replicate (32 - (4 * i + (k + 1))) (u8 0)).toArray := by
    rw [show 32 - (4 * i + k) = (32 - (4 * i + (k + 1))) + 1 by omega, List.replicate_succ, set_app (by simp [bs]), show 4 * i + (k + 1) = (4 * i + k) + 1 by omega, List.range_succ]
    simp [bs]
   rw [hdb] at st
   rw [← e]
   exact st
  ·refine wc_exit (then_exit (then_exit (block_hit ?_)))
   refine block_go (then_go ?_)
   refine wc_region ?_
   refine wl_val (v_add' rfl rfl rfl (by first | omega | (dsimp only at *; omega)) (by first | omega | (dsimp only at *; omega))) rfl ?_
   refine wl_val (v_move' (by conv => (lhs; whnf))) rfl ?_
   refine wl_nil ?_
   refine then_go ?_
   have hk4 : k = 4 := by omega
   subst hk4
   refine ⟨q - 1, by simp; omega, i + 1, by omega, rfl, rfl, rfl, rfl, ?_⟩
   rw [show 4 * (i + 1) = 4 * i + 4 by omega]
   exact st
 ·refine wc_exit (then_exit (then_exit (block_hit ?_)))
  refine then_go ?_
  refine wc_seq ?_
  have hi8 : i = 8 := by omega
  subst hi8
  have e : (bs ((List.range (4 * 8)).map (digB v2)) ++ List.replicate (32 - 4 * 8) (u8 0)).toArray = (bs (sum L)).toArray := by rw [hsum]; simp [dig]
  rw [e] at st
  refine wc_region ?_
  refine wl_val (v_load rfl (st.reads 0 rfl TF.t141 (getV_all (by simp [bs, length_sum])))) rfl ?_
  refine wl_storeW (cs := (bs (sum L)).toArray) 2 st rfl TF.t141 rfl rfl (by simp [bs, length_sum]) rfl (by simpa using one_bs _) ?_
  intro w st
  refine wl_nil ?_
  refine then_go ?_
  refine wc_ret ?_
  exact ret1c rfl (st.reads 2 rfl TF.t141 (getV_all (by simp [bs, length_sum]))) ⟨(st.keepOnly (l := []) (List.nil_sublist _)).touch, rfl⟩
theorem c_sum {bv : Value} {b : List UInt8} (him : Im m wI) (hb : SlM m bv 1 b.length (bs b)) (hl : b.length ≤ 1099511627776) :
  Ret Tryz.prog 111 #[bv] wI fun v w' => Tch wI w' [] [] ∧ v = arr (sum b) := by
 have st := St.start him
 refine ret_of Tryz.call111 Tryz.func111 rfl Tryz.ntmps111 Tryz.results111 rfl ?_
 refine wc_seq ?_
 refine wc_region ?_
 refine wl_alloc TF.z141 st rfl ?_
 intro b2 w st
 refine wl_nil ?_
 refine then_go ?_
 refine wc_seq ?_
 refine wc_region ?_
 refine wl_call rfl (c_hnew st.im) rfl ?_
 rintro v4 w ⟨b3, c3, rfl, t, hE, hH⟩
 have st := st.new (E := K.blk b3 c3 _) t hE
 refine wl_val (v_assign' (by conv => (lhs; whnf))) rfl ?_
 refine wl_nil ?_
 refine then_go ?_
 refine wc_seq ?_
 refine wc_region ?_
 refine wl_val (v_move' (by conv => (lhs; whnf))) rfl ?_
 refine wl_val (v_move' (by conv => (lhs; whnf))) rfl ?_
 refine wl_call rfl (c_hwrite st.im (st.at (i := 0) rfl) (st.none (i := 0) rfl b3 (by simp [K.blk])) hH hb (by simp; omega)) rfl ?_
 rintro v7 w ⟨c4, t, hE4, hH4⟩
 have st := st.step 0 rfl t hE4
 rw [List.nil_append] at hH4
 change St _ _ _ _ _ [K.blk b3 c4 _, _] at st
 refine wl_nil ?_
 refine then_go ?_
 refine wc_seq ?_
 refine wc_region ?_
 refine wl_val (v_move' (by conv => (lhs; whnf))) rfl ?_
 obtain ⟨ml, himl, _, hbl, _⟩ := st.lend (i := 0) rfl
 refine wl_call rfl (c_hdigest himl hbl hH4 hl) rfl ?_
 rintro v9 w ⟨t, rfl⟩
 have st := st.pure t
 refine wl_storeW (cs := (bs (sum b)).toArray) 1 st rfl TF.t141 rfl rfl (by simp [bs, length_sum]) rfl (by simpa using one_bs _) ?_
 intro w st
 refine wl_nil ?_
 refine then_go ?_
 refine wc_ret ?_
 exact ret1c rfl (st.reads 1 rfl TF.t141 (getV_all (by simp [bs, length_sum]))) ⟨(st.keepOnly (l := []) (List.nil_sublist _)).touch, rfl⟩
end
end Go.Proofs.YtladpaehbolghaaGreat

namespace Go.Proofs.YtladpaehbolghaaGreat
open Go Go.RowKit K SH
def PcsM (m : Mem) (v : Value) (L : List (List UInt8 × Value)) : Prop := SlM m v 1 L.length (L.map (·.2)) ∧ ∀ x ∈ L, SlM m x.2 1 x.1.length (bs x.1)
theorem PcsM.mono {m m' : Mem} {v : Value} {L : List (List UInt8 × Value)} (h : PcsM m v L) (hm : ∀ k o, m k = some o → m' k = some o) : PcsM m' v L := ⟨h.1.mono hm, fun x hx => (h.2 x hx).mono hm⟩
def joinB (L : List (List UInt8 × Value)) : List UInt8 := L.flatMap (·.1)
theorem PcsM.elem {m : Mem} {v : Value} {L : List (List UInt8 × Value)} (h : PcsM m v L) {i : Nat} (hi : i < L.length) :
  ∃ b o cap, v = .slice (some ⟨b, o, none⟩) L.length cap ∧ SlM m L[i].2 1 L[i].1.length (bs L[i].1) ∧ ∀ {w : World} (_ : Im m w), Reads Tryz.prog w 23 ⟨b, o + i * 1, none⟩ L[i].2 := by
 obtain ⟨b, o, cap, hv, _, hr⟩ := h.1.elem Tryz.prog (i := i) hi (by omega)
 refine ⟨b, o, cap, hv, h.2 _ (List.getElem_mem _), fun {w} him => ?_⟩
 have := hr him (off := 0) (v' := L[i].2) TF.t23 (by
  have e : cellsAt (L.map (·.2)) 1 i = [L[i].2] := by simp [cellsAt, List.drop_eq_getElem_cons, hi]
  rw [e]
  rfl)
 simpa using this
theorem joinB_take {L : List (List UInt8 × Value)} {i : Nat} (hi : i < L.length) : joinB (L.take (i + 1)) = joinB (L.take i) ++ L[i].1 := by
 unfold joinB
 rw [List.take_succ_eq_append_getElem hi, List.flatMap_append]
 simp only [List.flatMap_cons, List.flatMap_nil, List.append_nil]
theorem joinB_le {L : List (List UInt8 × Value)} (i : Nat) : (joinB (L.take i)).length ≤ (joinB L).length := by
 have e : joinB L = joinB (L.take i) ++ joinB (L.drop i) := by
  unfold joinB
  rw [← List.flatMap_append, List.take_append_drop]
 rw [e, List.length_append]
 omega
end Go.Proofs.YtladpaehbolghaaGreat

namespace Go.Proofs.YtladpaehbolghaaGreat
open Go Go.RowKit
namespace K
abbrev FR (ρ : Option Nat) : Fence := { Fence.wide with round := ρ }
section
variable {P : Program} {ops : Array Oper} {Q : Exit → Act → World → Prop}
theorem callsIn_of {ρ : Option Nat} {n : Nat} {f : FuncId} {args : Array Value} {w : World} {R : Ending → World → Prop} (h : Calls P f args w R) : CallsIn (FR ρ) n P f args w R :=
 callsIn_wide (n := n).2 h
theorem rowsIn_of {ρ : Option Nat} {n : Nat} {row : String} {args : Array Value} {w : World} {R : Value → World → Prop} (h : Rows P row args w R) : RowsIn (FR ρ) n P row args w R :=
 fun c cs _ => let ⟨v, w', r, s⟩ := h c cs; ⟨v, w', r, stepsIn_wide.2 s⟩
theorem upon_in {ρ : Option Nat} {n : Nat} {o : Oper} {a : Act} {next : Act → World → Prop} : ∀ {x : Result Next}, o.upon P a next Q x → o.uponIn (FR ρ) n P a next Q x := by
 intro x h
 cases x with
 | ok v w' =>
  cases v with
  | value v => exact h
  | skip => exact h
  | defer d => exact h
  | enter f args => exact ⟨by simp [Fence.wide], callsIn_of h⟩
  | row row args => exact ⟨by simp [Fence.wide], rowsIn_of h⟩
  | _ => exact h.elim
 | halt e w' =>
  cases e <;> first | exact h | exact h.elim
def noDefer (ops : Array Oper) : Bool := ops.all fun o => match o.op with | .defer _ => false | _ => true
theorem noDefer_at {i : Nat} {o : Oper} (h : noDefer ops = true) (ho : ops[i]? = some o) : ∀ c, o.op ≠ .defer c := by
 intro c hc
 obtain ⟨hi, rfl⟩ := Array.getElem?_eq_some_iff.1 ho
 have := Array.all_eq_true.1 h i hi
 rw [hc] at this
 cases this
theorem ops_in {ρ : Option Nat} {n : Nat} (hnd : noDefer ops = true) (hout : ¬ LetsOut Q) : ∀ (l : List Nat) (a : Act) (w : World), wpOps P ops Q l a w → wpOpsIn (FR ρ) n P ops Q l a w
 | [], _, _, h => h
 | i :: l, a, w, h => by
  simp only [wpOps, wpOpsIn] at h ⊢
  cases ho : ops[i]? with
  | none =>
   rw [ho] at h
   exact ops_in hnd hout l a w h
  | some o =>
   rw [ho] at h
   simp only at h ⊢
   split
   ·rename_i hw
    rw [if_pos hw] at h
    rcases h with h | h
    ·refine ⟨fun _ _ => trivial, ?_⟩
     rw [Oper.semAt_plain (FR ρ) a.eval o (noDefer_at hnd ho)]
     have h2 : o.upon P a (wpOps P ops Q l) Q ((execOp a.eval o).run P w) := h
     have h3 : o.upon P a (wpOpsIn (FR ρ) n P ops Q l) Q ((execOp a.eval o).run P w) := Oper.wp_mono (Q := Q) (ops_in hnd hout l) h2
     exact upon_in h3
    ·exact absurd h.2 hout
   ·rename_i hw
    rw [if_neg hw] at h
    exact ⟨fun _ _ => trivial, ops_in hnd hout l _ w h⟩
end
def WI (ρ : Option Nat) (P : Program) (n : Nat) (Q : Po) (c : Code) (r : Fr) (w : World) : Prop := ∀ k ds a, Has n ds a r → c.wpIn (FR ρ) k P (lift n ds Q) a w
section
variable {ρ : Option Nat} {P : Program} {n : Nat} {Q : Po} {r : Fr} {w : World}
theorem wi_of_wc {c : Code} (h : WC P n Q c r w) : WI none P n Q c r w := fun _ ds a ha => wpIn_wide.2 (h ds a ha)
theorem WI.mono {Q' : Po} {c : Code} (h : WI ρ P n Q c r w) (hq : ∀ e r w, Q e r w → Q' e r w) : WI ρ P n Q' c r w :=
 fun k ds a ha => wpIn_mono (h k ds a ha) fun _ _ _ ⟨r', h1, h2⟩ => ⟨r', h1, hq _ _ _ h2⟩
theorem wi_seq {x y : Code} (h : WI ρ P n (thenQ (fun r w => WI ρ P n Q y r w) Q) x r w) : WI ρ P n Q (x.seq y) r w := by
 intro k ds a ha
 refine wpIn_seq (wpIn_mono (h k ds a ha) ?_)
 rintro e a' w' ⟨r', h1, h2⟩
 cases e with
 | normal => exact h2 k ds a' h1
 | _ => exact ⟨r', h1, h2⟩
theorem wi_skip (h : Q .normal r w) : WI ρ P n Q .skip r w := fun _ _ _ ha => wpIn_skip ⟨r, ha, h⟩
theorem wi_block {i : Nat} {c : Code} (h : WI ρ P n (inBlockQ i Q) c r w) : WI ρ P n Q (.block i c) r w := by
 intro k ds a ha
 refine wpIn_block (wpIn_mono (h k ds a ha) ?_)
 rintro e a' w' ⟨r', h1, h2⟩
 cases e with
 | exit j =>
  simp only [inBlockQ] at h2
  simp only [Exit.inBlock]
  split <;> rename_i hj
  ·rw [if_pos hj] at h2; exact ⟨r', h1, h2⟩
  ·rw [if_neg hj] at h2; exact ⟨r', h1, h2⟩
 | _ => exact ⟨r', h1, h2⟩
theorem wi_cond {c : Operand} {x y : Code} {t : Bool} (hc : ev r c = .bool t) (ht : t = true → WI ρ P n Q x r w) (hf : t = false → WI ρ P n Q y r w) : WI ρ P n Q (.cond c x y) r w :=
 fun k ds a ha => wpIn_cond_split (by rw [ha.eval]; exact hc) (fun h => ht h k ds a ha) (fun h => hf h k ds a ha)
theorem wi_false {c : Operand} {x y : Code} (hc : ev r c = .bool false) (h : WI ρ P n Q y r w) : WI ρ P n Q (.cond c x y) r w := wi_cond hc (fun h => by cases h) (fun _ => h)
theorem no_out {ds : List Deferred} (hQ : ∀ r w, Q .outgrown r w → False) : ¬ LetsOut (lift n ds Q) := by
 rintro ⟨_, w, r, _, h⟩
 exact hQ r w h
theorem wi_region {id : Nat} {l : List Oper} (hnd : noDefer l.toArray = true) (hQ : ∀ r w, Q .outgrown r w → False) (h : WL P n l.toArray Q l r w) : WI ρ P n Q (.region id l.toArray false) r w := by
 intro k ds a ha
 refine wpIn_region (ops_in hnd (no_out hQ) _ a w ?_)
 have h1 := h ds a ha
 rw [List.range_eq_range', ← Array.length_toList, wpOps_eq_wpList l.toArray.toList 0 (by simp)]
 simpa using h1
theorem wi_draw {id : Nat} {l : List Oper} (hm : P.follows .mixedOrders = true) (hnd : noDefer l.toArray = true) (hQ : ∀ r w, Q .outgrown r w → False) (h : FL P n l.toArray Q [] [] [] r w.drew) : WI ρ P n Q (.region id l.toArray true) r w := by
 intro k ds a ha
 refine wpIn_region_draw fun t => ops_in hnd (no_out hQ) _ a _ ?_
 simp only [Region.schedule, hm, Bool.true_or, if_true]
 refine wpAny_sound l.toArray.size t _ a _ ?_
 refine h (by simp) ds [] _ _ a ⟨by simp, by simp, by simp, fun i hi => ?_, ?_, ha.size, ha.defers, fun t _ => ha.val t⟩
 ·rw [getD_replicate_false _ _ hi]; rfl
 ·unfold unl
  exact Nat.le_trans (List.countP_le_length) (by simp)
end
end K
end Go.Proofs.YtladpaehbolghaaGreat

namespace Go.Proofs.YtladpaehbolghaaGreat
open Go Go.RowKit
namespace K
def objE (b : Nat) (o : Obj) : Ent where
 foot := [b]
 holds := fun w => w.heap[b]? = some o
 keep := fun h hw => by rw [h b (by simp)]; exact hw
 live := fun h k hk => by simp at hk; subst hk; exact lt_of_get h
theorem touch_putObj (w : World) (l : Nat) (o : Obj) : Tch w (w.putObj l o) [l] [l] :=
 ⟨rfl, rfl, rfl, by simp, fun k _ hk => World.putObj_heap_other (by simpa using hk), fun _ h => .inl h⟩
section
variable {m0 m : Mem} {F : List Nat} {w0 w : World} {Es : List Ent}
theorem St.putObj (st : St m0 m F w0 w Es) (i : Nat) {b : Nat} {o : Obj} (o' : Obj) (hi : Es[i]? = some (objE b o)) : St m0 m F w0 (w.putObj b o') (Es.set i (objE b o')) :=
 st.step i hi (touch_putObj w b o') (World.putObj_heap_same (lt_of_get (st.at hi)))
theorem St.newObj (st : St m0 m F w0 w Es) (o : Obj) : St m0 m F w0 (w.alloc o) (objE w.heap.size o :: Es) :=
 st.new (E := objE w.heap.size o) (touch_alloc w o) (World.alloc_heap_new w o)
end
abbrev PoX := List Deferred → Po
def WX (ds : List Deferred) (P : Program) (n : Nat) (Q : PoX) (c : Code) (r : Fr) (w : World) : Prop :=
 ∀ k a, Has n ds a r → c.wpIn (FR none) k P (fun e a w => ∃ ds' r', Has n ds' a r' ∧ Q ds' e r' w) a w
def thenX (K : List Deferred → Fr → World → Prop) (Q : PoX) : PoX
 | ds, .normal, r, w => K ds r w
 | ds, e, r, w => Q ds e r w
def inBlockX (id : Nat) (Q : PoX) : PoX
 | ds, .exit id', r, w => if id' = id then Q ds .normal r w else Q ds (.exit id') r w
 | ds, e, r, w => Q ds e r w
section
variable {P : Program} {n : Nat} {Q : PoX} {r : Fr} {w : World} {ds : List Deferred}
theorem wx_of_wc {c : Code} (h : WC P n (Q ds) c r w) : WX ds P n Q c r w :=
 fun k a ha => wpIn_mono (wi_of_wc h k ds a ha) fun _ _ _ ⟨r', h1, h2⟩ => ⟨ds, r', h1, h2⟩
theorem wx_seq {x y : Code} (h : WX ds P n (thenX (fun ds r w => WX ds P n Q y r w) Q) x r w) : WX ds P n Q (x.seq y) r w := by
 intro k a ha
 refine wpIn_seq (wpIn_mono (h k a ha) ?_)
 rintro e a' w' ⟨ds', r', h1, h2⟩
 cases e with
 | normal => exact h2 k a' h1
 | _ => exact ⟨ds', r', h1, h2⟩
theorem wx_seqc {x y : Code} (h : WC P n (thenQ (fun r w => WX ds P n Q y r w) (Q ds)) x r w) : WX ds P n Q (x.seq y) r w := by
 refine wx_seq (wx_of_wc (h.mono ?_))
 intro e r w h
 cases e <;> exact h
theorem wx_block {i : Nat} {c : Code} (h : WX ds P n (inBlockX i Q) c r w) : WX ds P n Q (.block i c) r w := by
 intro k a ha
 refine wpIn_block (wpIn_mono (h k a ha) ?_)
 rintro e a' w' ⟨ds', r', h1, h2⟩
 cases e with
 | exit j =>
  simp only [inBlockX] at h2
  simp only [Exit.inBlock]
  split <;> rename_i hj
  ·rw [if_pos hj] at h2; exact ⟨ds', r', h1, h2⟩
  ·rw [if_neg hj] at h2; exact ⟨ds', r', h1, h2⟩
 | _ => exact ⟨ds', r', h1, h2⟩
theorem wx_cut {x y : Code} (M : List Deferred → Fr → World → Prop) (h1 : WX ds P n (thenX M Q) x r w) (h2 : ∀ ds r w, M ds r w → WX ds P n Q y r w) : WX ds P n Q (x.seq y) r w := by
 refine wx_seq ?_
 intro k a ha
 refine wpIn_mono (h1 k a ha) ?_
 rintro e a' w' ⟨ds', r', h3, h4⟩
 refine ⟨ds', r', h3, ?_⟩
 cases e <;> first | exact h2 _ _ _ h4 | exact h4
def closed : List Deferred → World → (World → Prop) → Prop
 | [], w, K => K w
 | d :: ds, w, K => ∃ D, d.target = .collected D ∧ w.heap[D]? = some (.deferred (some [])) ∧ closed ds (w.putObj D (.deferred none)) K
def bodyX (P : Program) (rvs : List ResultVar) (R : Value → World → Prop) : PoX
 | ds, .normal, r, w | ds, .ret, r, w => closed ds w fun w' => ∃ vs, ResL P r w' rvs vs ∧ R (pack vs) w'
 | _, _, _, _ => False
theorem leaves_of {fn : Func} {a : Act} {rvs : List ResultVar} {R : Value → World → Prop} {k : Nat} {d0 : List Deferred} (ha : Has n d0 a r) (hres : fn.results = rvs.toArray) :
  ∀ (ds : List Deferred) (w : World), closed ds w (fun w' => ∃ vs, ResL P r w' rvs vs ∧ R (pack vs) w') → LeavesInM (FR none) k P fn a.tmps (fun e w' => ∃ v, e = .returned v ∧ R v w') ds .returning w
 | [], w, ⟨vs, hv, hR⟩ => ⟨_, results_of ha hres hv, _, rfl, hR⟩
 | d :: ds, w, ⟨D, hD, hh, hc⟩ => ⟨by simp, .inl ⟨D, _, hD, run_takeDeferred hh, leaves_of ha hres ds _ hc⟩⟩
theorem ret_ofX {f : FuncId} {fn : Func} {c : Code} {args : List Value} {R : Value → World → Prop} {rvs : List ResultVar}
  (hgo : ∀ args w, (callFunc f args).run P w = .ok (.enter f args) w) (hf : P.funcs[f]? = some fn) (hb : fn.body = some c) (hn : fn.ntmps = n) (hres : fn.results = rvs.toArray)
  (hsz : Nat.ble args.length n = true) (h : WX [] P n (bodyX P rvs R) c (frOf 0 args) w) : Ret P f args.toArray w R := by
 refine ⟨hgo, callsIn_wide (n := 9).1 (callsIn_of_wp_marks hf hb trivial ?_)⟩
 rw [hn]
 refine wpIn_mono (h 9 _ (has_args hsz)) ?_
 rintro e a w' ⟨ds', r', ha, hq⟩
 cases e with
 | normal =>
  show LeavesInM _ _ _ _ _ _ a.defers _ _
  rw [ha.defers]
  exact leaves_of ha hres ds' w' hq
 | ret =>
  show LeavesInM _ _ _ _ _ _ a.defers _ _
  rw [ha.defers]
  exact leaves_of ha hres ds' w' hq
 | _ => exact hq.elim
end
def mkRec (fn : FuncId) (tmps : Array Value) (ps : Array Tmp) (assign body : Code) (D : Nat) (s : LoopState) (pe : Option Code) : Loop :=
 { state := s, pending := pe, fn, tmps, params := ps, assign, body, defers := D }
def mark (D : Nat) : Deferred := { target := .collected D, args := #[] }
section
variable {P : Program} {n : Nat} {Q : PoX} {r : Fr} {w w0 : World} {ds : List Deferred} {m0 m : Mem} {F : List Nat} {Es : List Ent}
theorem wx_range {g : Operand} {ps : Array Tmp} {assign body : Code} {gf : FuncId} {lb : List Value} (hg : ev r g = .func (.func gf) #[] lb.toArray) (eg : ∀ args w, (callFunc gf args).run P w = .ok (.enter gf args) w) (st : St m0 m F w0 w Es)
    (h : ∀ (l D : Nat) (fn : FuncId) (tmps : Array Value) (rec : LoopState → Option Code → Loop) (w1 : World), rec = mkRec fn tmps ps assign body D → tmps.size = n → (∀ t, tmps.getD t undef = r t) → St m0 m F w0 w1 (objE l (.loop (rec .ready none)) :: objE D (.deferred (some [])) :: Es) →
      Calls P gf (.func (.yield l) #[] #[] :: lb).toArray w1 fun e w2 => ∃ v, e = .returned v ∧ ∃ s pe, s ≠ .busy ∧ w2.heap[l]? = some (.loop (rec s pe)) ∧
        (match pe with
         | none => Q (mark D :: ds) .normal r (w2.putObj l (.loop (rec .exhausted pe)))
         | some c => WX (mark D :: ds) P n Q c r (w2.putObj l (.loop (rec .exhausted pe))))) : WX ds P n Q (.rangeFunc g ps assign body) r w := by
  intro k a ha
  refine wpIn_rangeFunc fun fn _ => ?_
  have st1 := st.newObj (.deferred (some []))
  have st2 := st1.newObj (.loop (mkRec fn a.tmps ps assign body w.heap.size .ready none))
  have hsz : (w.alloc (.deferred (some []))).heap.size = w.heap.size + 1 := by simp
  rw [hsz] at st2
  have hev : a.eval g = .func (.func gf) #[] lb.toArray := by rw [ha.eval]; exact hg
  have hc := h (w.heap.size + 1) w.heap.size fn a.tmps _ _ rfl ha.size ha.val st2
  have hen := run_enterLoop_outer (P := P) (w := w) fn a.tmps ps assign body
  change _ = Result.ok _ ((w.alloc (.deferred (some []))).alloc (.loop (mkRec fn a.tmps ps assign body w.heap.size .ready none))) at hen
  generalize (w.alloc (.deferred (some []))).alloc (.loop (mkRec fn a.tmps ps assign body w.heap.size .ready none)) = W1 at hen hc
  refine ⟨w.heap.size + 1, [mark w.heap.size], W1, { target := .fn (.func gf) lb.toArray, args := #[.func (.yield (w.heap.size + 1)) #[] #[]] }, W1, gf, (.func (.yield (w.heap.size + 1)) #[] #[] :: lb).toArray, W1, hen, ?_, fun _ _ => trivial, ?_, by simp [Fence.wide], ?_⟩
  · simp only [resolve, hev]
    simp [go_sem]
  · simp [invoke, go_sem, eg]
  · refine callsIn_of (Calls.mono hc ?_)
    rintro e w2 ⟨v, rfl, s, pe, hs, hl, hq⟩
    refine ⟨pe, _, run_endLoop hl hs, ?_⟩
    have hh : Has n (mark w.heap.size :: ds) { a with defers := [mark w.heap.size] ++ a.defers } r := ⟨ha.size, ha.val, by rw [ha.defers]; rfl⟩
    cases pe with
    | none => exact ⟨_, r, hh, hq⟩
    | some c => exact hq k _ hh
end
def setPs : List (Nat × Value) → Fr → Fr
 | [], r => r
 | x :: l, r => setPs l (upd x.1 x.2 r)
theorem has_ps {n : Nat} : ∀ (l : List (Nat × Value)) (tmps : Array Value) (r : Fr), tmps.size = n → (∀ t, tmps.getD t undef = r t) → (l.all fun x => Nat.blt x.1 n) = true →
  Has n [] { tmps := l.foldl (fun ts (x : Nat × Value) => ts.setIfInBounds x.1 x.2) tmps, defers := [] } (setPs l r)
 | [], tmps, r, hs, hv, _ => ⟨hs, hv, rfl⟩
 | x :: l, tmps, r, hs, hv, hb => by
  simp only [List.all_cons, Bool.and_eq_true] at hb
  have h1 : Has n [] { tmps := tmps, defers := [] } r := ⟨hs, hv, rfl⟩
  have h2 := h1.put hb.1 x.2
  exact has_ps l _ _ h2.size h2.val hb.2
section
variable {P : Program} {n : Nat} {r : Fr} {w : World}
def roundQ (rec : LoopState → Option Code → Loop) (l : Nat) (R : Value → World → Prop) : Po
 | .normal, _, w => w.heap[l]? = some (.loop (rec .busy none)) ∧ R (.bool true) (w.putObj l (.loop (rec .ready none)))
 | .ret, _, w => w.heap[l]? = some (.loop (rec .busy none)) ∧ R (.bool false) (w.putObj l (.loop (rec .done (some .ret))))
 | .exit i, _, w => w.heap[l]? = some (.loop (rec .busy none)) ∧ R (.bool false) (w.putObj l (.loop (rec .done (some (.exit i)))))
 | _, _, _ => False
def noQ : Po := fun _ _ _ => False
def YieldR (P : Program) (l : Nat) (vs : List Value) (w : World) (R : Value → World → Prop) : Prop :=
 ∃ fn tmps assign body, (Instr.yield l vs.toArray).run P w = .ok (.round l fn tmps assign body) w ∧ ∀ k, RoundIn (FR none) k P l fn tmps assign body w fun e w' => ∃ v, e = .returned v ∧ R v w'
theorem yield_round {rec : LoopState → Option Code → Loop} {fn : FuncId} {tmps : Array Value} {ps : List Nat} {assign body : Code} {D l : Nat} {vs : List Value} {R : Value → World → Prop}
  (hrec : rec = mkRec fn tmps ps.toArray assign body D) (hl : w.heap[l]? = some (.loop (rec .ready none))) (hs : vs.length = ps.length) (hsz : tmps.size = n) (hv : ∀ t, tmps.getD t undef = r t) (hps : (ps.all fun x => Nat.blt x n) = true)
  (h : WI (some l) P n (thenQ (fun r1 w1 => w1.heap[l]? = some (.loop (rec .ready none)) ∧ WI (some l) P n (roundQ rec l R) body r1 (w1.putObj l (.loop (rec .busy none)))) noQ) assign (setPs (ps.zip vs) r) w) : YieldR P l vs w R := by
 subst hrec
 refine ⟨fn, _, assign, body, run_yield hl (by simp [mkRec, hs]), fun k => roundIn_of_wpIn (F := FR none) trivial ?_⟩
 have hzip : (mkRec fn tmps ps.toArray assign body D .ready none).params.zip vs.toArray = (ps.zip vs).toArray := by
  apply Array.toList_inj.mp
  simp [mkRec]
 have hall : ((ps.zip vs).all fun x => Nat.blt x.1 n) = true := by
  rw [List.all_eq_true]
  intro x hx
  exact List.all_eq_true.1 hps x.1 (List.of_mem_zip hx).1
 have hh := has_ps (n := n) (ps.zip vs) tmps r hsz hv hall
 have hacts : ((mkRec fn tmps ps.toArray assign body D .ready none).params.zip vs.toArray).foldl (fun ts (x : Nat × Value) => ts.setIfInBounds x.1 x.2) (mkRec fn tmps ps.toArray assign body D .ready none).tmps = (ps.zip vs).foldl (fun ts (x : Nat × Value) => ts.setIfInBounds x.1 x.2) tmps := by
  rw [hzip]
  simp [mkRec]
 refine wpIn_mono (a := { tmps := _, defers := [] }) ?_ ?_ (Q := lift n [] (thenQ (fun r1 w1 => w1.heap[l]? = some (.loop (mkRec fn tmps ps.toArray assign body D .ready none)) ∧ WI (some l) P n (roundQ (mkRec fn tmps ps.toArray assign body D) l R) body r1 (w1.putObj l (.loop (mkRec fn tmps ps.toArray assign body D .busy none)))) noQ))
 ·have := h k [] _ hh
  rw [← hacts] at this
  exact this
 ·rintro e a1 w1 ⟨r1, h1, h2⟩
  cases e with
  | normal =>
   obtain ⟨hl1, hb⟩ := h2
   refine ⟨_, run_beginRound hl1 rfl, wpIn_mono (hb k [] a1 h1) ?_⟩
   rintro e a2 w2 ⟨r2, _, h4⟩
   cases e with
   | normal => exact ⟨_, _, run_endRound none h4.1, _, rfl, h4.2⟩
   | ret => exact ⟨_, _, run_endRound (some .ret) h4.1, _, rfl, h4.2⟩
   | exit j => exact ⟨_, _, run_endRound (some (.exit j)) h4.1, _, rfl, h4.2⟩
   | _ => exact h4.elim
  | _ => exact h2.elim
theorem retX1 {rvs : List ResultVar} {R : Value → World → Prop} {D : Nat} (h : w.heap[D]? = some (.deferred (some []))) (k : bodyQ P rvs R .ret r (w.putObj D (.deferred none))) : bodyX P rvs R [mark D] .ret r w := ⟨D, rfl, h, k⟩
def WLI (P : Program) (n : Nat) (ops : Array Oper) (Q : Po) (l : List Oper) (r : Fr) (w : World) : Prop := ∀ k ds a, Has n ds a r → wpListIn (FR none) k P ops (lift n ds Q) l a w
end
section
variable {P : Program} {n : Nat} {ops : Array Oper} {Q : Po} {r : Fr} {w : World} {rest : List Oper} {d : Nat} {ty : TypeId} {pos : String} {after : Array Edge}
theorem wli_nil (h : Q .normal r w) : WLI P n ops Q [] r w := fun _ _ _ ha => ⟨r, ha, h⟩
theorem wli_call {f : FuncId} {ags : Array Operand} {tys : Array TypeId} {args : List Value} {R : Value → World → Prop} (ha : ags.toList.map (ev r) = args)
  (hc : Ret P f args.toArray w R) (hd : Nat.blt d n = true) (k : ∀ v w', R v w' → WLI P n ops Q rest (upd d v r) w') :
  WLI P n ops Q (⟨some d, .call ⟨.value (.func f), ags, tys⟩, ty, pos, after, none⟩ :: rest) r w := by
 intro kk ds a h
 refine wpListIn_plain rfl fun K hK => ⟨fun _ _ => trivial, ?_⟩
 have hargs : ags.map (ev r) = args.toArray := by
  apply Array.toList_inj.mp
  rw [Array.toList_map, ha]
 have he : (execOp a.eval ⟨some d, .call ⟨.value (.func f), ags, tys⟩, ty, pos, after, none⟩).run P w = .ok (.enter f args.toArray) w := by
  rw [h.eval]
  simp [execOp, resolve, ev, Deferred.ofValue, invoke, hargs, hc.1]
 have hsem : (⟨some d, .call ⟨.value (.func f), ags, tys⟩, ty, pos, after, none⟩ : Oper).semAt (FR none).round a.eval = execOp a.eval (⟨some d, .call ⟨.value (.func f), ags, tys⟩, ty, pos, after, none⟩ : Oper) := by simp [Oper.semAt]
 rw [hsem, he, Oper.uponIn_enter]
 refine ⟨by simp [Fence.wide], callsIn_of (Calls.mono hc.2 ?_)⟩
 rintro e w' ⟨v, rfl, hR⟩
 exact hK _ _ (k v w' hR kk ds _ (h.put hd v))
theorem wli_yield {x : Operand} {l : Nat} {ags : Array Operand} {tys : Array TypeId} {args : List Value} {R : Value → World → Prop} (hx : ev r x = .func (.yield l) #[] #[]) (ha : ags.toList.map (ev r) = args)
  (hc : YieldR P l args w R) (hd : Nat.blt d n = true) (k : ∀ v w', R v w' → WLI P n ops Q rest (upd d v r) w') :
  WLI P n ops Q (⟨some d, .call ⟨.value x, ags, tys⟩, ty, pos, after, none⟩ :: rest) r w := by
 intro kk ds a h
 refine wpListIn_plain rfl fun K hK => ⟨fun _ _ => trivial, ?_⟩
 obtain ⟨fn, tmps, assign, body, hy, hround⟩ := hc
 have hargs : ags.map (ev r) = args.toArray := by
  apply Array.toList_inj.mp
  rw [Array.toList_map, ha]
 have he : (execOp a.eval ⟨some d, .call ⟨.value x, ags, tys⟩, ty, pos, after, none⟩).run P w = .ok (.round l fn tmps assign body) w := by
  rw [h.eval]
  simp [execOp, resolve, hx, Deferred.ofValue, invoke, hargs, hy]
 have hsem : (⟨some d, .call ⟨.value x, ags, tys⟩, ty, pos, after, none⟩ : Oper).semAt (FR none).round a.eval = execOp a.eval (⟨some d, .call ⟨.value x, ags, tys⟩, ty, pos, after, none⟩ : Oper) := by simp [Oper.semAt]
 rw [hsem, he, Oper.uponIn_round]
 refine ⟨by simp [Fence.wide], (hround _).mono ?_⟩
 rintro e w' ⟨v, rfl, hR⟩
 exact hK _ _ (k v w' hR kk ds _ (h.put hd v))
end
end K
end Go.Proofs.YtladpaehbolghaaGreat

namespace Go.Proofs.YtladpaehbolghaaGreat
open Go Go.RowKit
namespace K
section
variable {P : Program} {n : Nat} {ops : Array Oper} {Q : Po} {r : Fr} {w : World}
def FLI (P : Program) (n : Nat) (ops : Array Oper) (Q : Po) (done pure lds : List Nat) (r : Fr) (w : World) : Prop :=
 (∀ i ∈ pure, ∀ w', obl P n ops r w' i) → ∀ kk ds X listed fuel a, RS n ops done (pure ++ lds) r X listed fuel ds a → wpAnyIn (FR none) kk P .any ops (lift n ds Q) fuel listed a w
theorem fli_core {done pure lds : List Nat} {kk : Nat} {ds : List Deferred} (hns : noSel ops = true)
  (hpair : okAll ops (pure ++ lds) = true)
  (hpure : ∀ i ∈ pure, ∀ w', obl P n ops r w' i) (hlds : ∀ i ∈ lds, obl P n ops r w i)
  (hnil : ∀ X listed fuel a, RS n ops done (pure ++ lds) r X listed fuel ds a → Region.ready .any ops listed = [] → lift n ds Q .normal a w)
  (hrest : ∀ X listed fuel a, RS n ops done (pure ++ lds) r X listed (fuel + 1) ds a → ∀ i ∈ Region.ready .any ops listed, i ∉ X → wpOpIn (FR none) kk P ops (lift n ds Q) i (wpAnyIn (FR none) kk P .any ops (lift n ds Q) fuel (listed.setIfInBounds i true)) a w) :
  ∀ fuel X listed a, RS n ops done (pure ++ lds) r X listed fuel ds a → wpAnyIn (FR none) kk P .any ops (lift n ds Q) fuel listed a w := by
 have hob : ∀ i ∈ pure ++ lds, obl P n ops r w i := fun i hi => by
  rcases List.mem_append.1 hi with h | h
  ·exact hpure i h w
  ·exact hlds i h
 intro fuel
 induction fuel with
 | zero =>
  intro X listed a s
  have hr : Region.ready .any ops listed = [] := by
   cases hr : Region.ready .any ops listed with
   | nil => rfl
   | cons i l =>
    have hi : i ∈ Region.ready .any ops listed := by rw [hr]; exact List.mem_cons_self
    obtain ⟨h1, h2, _⟩ := mem_ready.1 hi
    have h3 := unl_pos h1 h2
    have h4 := s.fuel
    omega
  exact ⟨hr, hnil X listed 0 a s hr⟩
 | succ fuel ih =>
  intro X listed a s
  refine ⟨hnil X listed _ a s, fun i hi => ?_⟩
  by_cases hX : i ∈ X
  ·obtain ⟨o, d, ho, hd, hdn, hv⟩ := hob i (s.sub i hX)
   have hil := lt_of_some ho
   have hother : ∀ y ∈ X, y ≠ i → ∀ d', dstOf ops y = some d' → d' ∉ o.looksAt ops ∧ o.dst ≠ some d' := by
    intro y hy hne
    have hp := (List.all_eq_true.1 (Bool.and_eq_true_iff.1 ((List.all_eq_true.1 hpair) i (s.sub i hX))).2) y (s.sub y hy)
    have hne' : (i == y) = false := by simpa using fun e => hne (e.symm)
    rw [hne', Bool.false_or] at hp
    by_cases hyl : y < ops.size
    ·exact okPair_spec hp hi (s.pending hy hyl).2 ho
    ·intro d' hd'
     unfold dstOf at hd'
     rw [Array.getElem?_eq_none (by omega)] at hd'
     cases hd'
   have hself : d ∉ o.looksAt ops := by
    have hp := (Bool.and_eq_true_iff.1 ((List.all_eq_true.1 hpair) i (s.sub i hX))).1
    unfold selfOk at hp
    rw [ho] at hp
    simp only [hd] at hp
    simpa using hp
   have heval : ∀ t ∈ o.looksAt ops, a.tmps.getD t undef = r t := by
    intro t ht
    refine s.agree t fun x hx hxd => ?_
    by_cases hxi : x = i
    ·subst hxi
     have : dstOf ops x = some d := by unfold dstOf; rw [ho]; exact hd
     rw [this] at hxd
     exact hself ((Option.some.inj hxd).symm ▸ ht)
    ·exact (hother x hx hxi t hxd).1 ht
   have hexec : execOp a.eval o = execOp (ev r) o :=
    exec_congr (f := fun t => a.tmps.getD t undef) (g := r) (noSel_spec hns ho) (fun x hx => by cases x <;> first | rfl | exact absurd rfl (hx _)) (fun _ => rfl) (fun _ => rfl) heval
   have hwant : Region.wanted o (yielded ops a.tmps) = Region.wanted o (yl ops r) := by
    refine wanted_congr fun g want hg => ?_
    rw [yielded_yl (f := fun t => a.tmps.getD t undef) (fun _ => rfl)]
    exact yl_congr fun d' hd' => heval d' (looks_guard hg hd')
   have hnext : wpAnyIn (FR none) kk P .any ops (lift n ds Q) fuel (listed.setIfInBounds i true) (a.put o.dst (r d)) w := by
    have hni := s.pending hX hil
    refine ih (X.filter (· != i)) _ _ ⟨?_, ?_, ?_, ?_, ?_, ?_, ?_, ?_⟩
    ·exact fun x hx => s.sub x (List.mem_filter.1 hx).1
    ·exact fun x hx => s.subd x (List.mem_filter.1 hx).1
    ·simp [s.size]
    ·intro j hj
     by_cases hji : j = i
     ·subst hji
      have hc : done.contains j = true := s.subd j hX
      have h1 : (listed.setIfInBounds j true).getD j true = true := by simp [Array.getD_eq_getD_getElem?]
      rw [h1, hc]
      simp
     ·have hne : i ≠ j := fun e => hji e.symm
      have h1 : (listed.setIfInBounds i true).getD j true = listed.getD j true := by simp only [Array.getD_eq_getD_getElem?, Array.getElem?_setIfInBounds_ne hne]
      rw [h1, s.told j hj]
      congr 2
      by_cases hjX : j ∈ X
      ·have : j ∈ X.filter (· != i) := List.mem_filter.2 ⟨hjX, by simpa using hji⟩
       simp [hjX, hji]
      ·simp [hjX]
    ·have := unl_set s.size hil hni.1
     have := s.fuel
     omega
    ·simp [Act.put, hd, s.asize]
    ·simp [Act.put, hd, s.defers]
    ·intro t ht
     rw [hd]
     simp only [Act.put]
     by_cases htd : t = d
     ·subst htd
      by_cases hts : t < a.tmps.size
      ·simp [Array.getD, hts]
      ·have h1 : t < n := Nat.blt_eq.mp hdn
       have h2 := s.asize
       exact absurd (show t < a.tmps.size by rw [h2]; exact h1) hts
     ·have hne : d ≠ t := fun e => htd e.symm
      rw [Array.getD_eq_getD_getElem?, Array.getElem?_setIfInBounds_ne hne, ← Array.getD_eq_getD_getElem?]
      refine s.agree t fun x hx hxd => ?_
      by_cases hxi : x = i
      ·subst hxi
       have : dstOf ops x = some d := by unfold dstOf; rw [ho]; exact hd
       rw [this] at hxd
       exact htd (Option.some.inj hxd).symm
      ·exact ht x (List.mem_filter.2 ⟨hx, by simpa using hxi⟩) hxd
   unfold wpOpIn
   rw [ho]
   simp only
   by_cases hw : Region.wanted o (yl ops r) = true
   ·rw [if_pos (by rw [hwant]; exact hw)]
    rw [if_pos hw] at hv
    refine ⟨fun _ _ => trivial, ?_⟩
    have hsem : o.semAt (FR none).round a.eval = execOp a.eval o := by simp [Oper.semAt]
    rw [hsem, hexec, hv, Oper.uponIn_value]
    exact hnext
   ·rw [if_neg (by rw [hwant]; exact hw)]
    rw [if_neg hw] at hv
    refine ⟨fun _ _ => trivial, ?_⟩
    rw [← hv]
    exact hnext
  ·exact hrest X listed fuel a s i hi hX
def StepEI (P : Program) (n : Nat) (ops : Array Oper) (Q : Po) (done pure lds : List Nat) (r : Fr) (w : World) (k : Nat) : Prop :=
 ∃ o, ops[k]? = some o ∧ WLI P n ops (fun e r' w' => e = .normal ∧ FLI P n ops Q (k :: done) (leave ops k pure) (leave ops k lds) r' w') [o] r w
theorem fli_eff {done pure lds : List Nat} (ks : List Nat) (hks : readyOf ops done = ks) (hne : ks ≠ []) (hb : backward ops = true) (hns : noSel ops = true) (hpair : okAll ops (pure ++ lds) = true)
  (heff : (ks.all fun k => effOk ops (pure ++ lds) k) = true)
  (hlds : ∀ i ∈ lds, obl P n ops r w i) (hk : ∀ k ∈ ks, StepEI P n ops Q done pure lds r w k) : FLI P n ops Q done pure lds r w := by
 intro hpure kk ds X listed fuel a s
 refine fli_core hns hpair hpure hlds ?_ ?_ fuel X listed a s
 ·intro X listed fuel a s hr
  exfalso
  obtain ⟨k, hk⟩ := List.exists_mem_of_ne_nil ks hne
  rw [← hks] at hk
  obtain ⟨h1, h2⟩ := List.mem_filter.1 hk
  have hl := List.mem_range.1 h1
  have h3 := ready_nil hb s.size hr k hl
  rw [s.told k hl] at h3
  simp only [Bool.and_eq_true, Bool.not_eq_true'] at h2 h3
  rw [h2.1] at h3
  exact Bool.noConfusion h3.1
 ·intro X listed fuel a s i hi hX
  obtain ⟨hil, hni, o, ho, hdeps⟩ := mem_ready.1 hi
  have hnd : done.contains i = false := by
   have h3 := s.told i hil
   have h5 : X.contains i = false := by simpa using hX
   rw [hni, h5] at h3
   simpa using h3.symm
  have hik : i ∈ ks := by
   rw [← hks]
   refine List.mem_filter.2 ⟨List.mem_range.2 hil, ?_⟩
   rw [hnd]
   simp only [Bool.not_false, Bool.true_and]
   unfold depsIn
   rw [ho]
   refine Array.all_eq_true'.2 fun e he => ?_
   cases hbe : Region.binds .any e with
   | false => rfl
   | true =>
    have h1 := hdeps e he hbe
    have hel : e.on < ops.size := by
     have h2 := (List.all_eq_true.1 hb) i (List.mem_range.2 hil)
     rw [ho] at h2
     have h3 := Array.all_eq_true'.1 h2 e he
     simp only [hbe, Bool.not_true, Bool.false_or] at h3
     have : e.on < i := Nat.blt_eq.mp h3
     omega
    have h2 := s.told e.on hel
    have hlt : e.on < listed.size := by have := s.size; omega
    have h3 : listed.getD e.on true = true := by
     simp only [Array.getD, hlt, dite_true] at h1 ⊢
     exact h1
    rw [h3] at h2
    have h4 := h2.symm
    rw [Bool.and_eq_true] at h4
    rw [h4.1]
    rfl
  obtain ⟨o', ho', hwl⟩ := hk i hik
  rw [ho] at ho'
  obtain rfl := Option.some.inj ho'
  have heffi := (List.all_eq_true.1 heff) i hik
  have hnotX : ∀ y ∈ X, behind ops y i = false := by
   intro y hy
   cases hby : behind ops y i with
   | false => rfl
   | true =>
    have h1 := behind_listed hi hby
    have hyl : y < ops.size := by
     rcases Nat.lt_or_ge y ops.size with h' | h'
     ·exact h'
     ·have : y < listed.size := by
       rcases Nat.lt_or_ge y listed.size with h'' | h''
       ·exact h''
       ·simp [Array.getD, Nat.not_lt.mpr h''] at h1
      have := s.size
      omega
    rw [(s.pending hy hyl).2] at h1
    cases h1
  have hpairE : ∀ y ∈ X, ∀ d, dstOf ops y = some d → d ∉ o.looksAt ops ∧ o.dst ≠ some d := by
   intro y hy d hd
   have h1 := (List.all_eq_true.1 heffi) y (s.sub y hy)
   rw [Bool.and_eq_true] at h1
   have h2 := h1.2
   rw [hnotX y hy, Bool.false_or, Bool.and_eq_true] at h2
   have hyl : y < ops.size := by
    unfold dstOf at hd
    cases hoy : ops[y]? with
    | none => rw [hoy] at hd; cases hd
    | some oy => exact lt_of_some hoy
   exact okPair_spec h2.1 hi (s.pending hy hyl).2 ho d hd
  have heval : ∀ t ∈ o.looksAt ops, a.tmps.getD t undef = r t := fun t ht => s.agree t fun x hx hxd => (hpairE x hx t hxd).1 ht
  -- the frame in which all that is taken is done
  obtain ⟨g, hg⟩ : ∃ g : Act, Has n ds g r := by
   refine ⟨⟨((List.range n).map r).toArray, ds⟩, by simp, fun t => ?_, rfl⟩
   by_cases htn : t < n
   ·simp [Array.getD, htn]
   ·have h0 : r t = undef := by
     have h1 := s.agree t (fun x hx hxd => by
      have hob : obl P n ops r w x := by
       rcases List.mem_append.1 (s.sub x hx) with h | h
       ·exact hpure x h w
       ·exact hlds x h
      obtain ⟨ox, dx, hox, hdx, hdn, _⟩ := hob
      have e1 : dx = t := by
       unfold dstOf at hxd
       rw [hox] at hxd
       simp only [Option.bind_some, hdx] at hxd
       exact Option.some.inj hxd
      have e2 : dx < n := Nat.blt_eq.mp hdn
      exact htn (e1 ▸ e2))
     rw [← h1]
     have := s.asize
     simp [Array.getD, show ¬ t < a.tmps.size by omega]
    simp [Array.getD, htn, h0]
  have hexec : execOp a.eval o = execOp g.eval o := by
   rw [hg.eval]
   exact exec_congr (f := fun t => a.tmps.getD t undef) (g := r) (noSel_spec hns ho) (fun x hx => by cases x <;> first | rfl | exact absurd rfl (hx _)) (fun _ => rfl) (fun _ => rfl) heval
  have hwant : Region.wanted o (yielded ops a.tmps) = Region.wanted o (yielded ops g.tmps) := by
   refine wanted_congr fun g' want hg' => ?_
   rw [yielded_yl (f := fun t => a.tmps.getD t undef) (fun _ => rfl), yielded_yl hg.val]
   exact yl_congr fun d' hd' => heval d' (looks_guard hg' hd')
  -- behind the effect
  have hnext : ∀ v w', (∃ r', Has n ds (g.put o.dst v) r' ∧ FLI P n ops Q (i :: done) (leave ops i pure) (leave ops i lds) r' w') →
    wpAnyIn (FR none) kk P .any ops (lift n ds Q) fuel (listed.setIfInBounds i true) (a.put o.dst v) w' := by
   rintro v w' ⟨r', hr', hfl⟩
   have hval : ∀ t, o.dst ≠ some t → r' t = r t := by
    intro t ht
    rw [← hr'.val, ← hg.val]
    cases hod : o.dst with
    | none => rfl
    | some d =>
     have hne : d ≠ t := fun e => ht (by rw [hod, e])
     simp only [Act.put]
     rw [Array.getD_eq_getD_getElem?, Array.getElem?_setIfInBounds_ne hne, ← Array.getD_eq_getD_getElem?]
   refine hfl (fun j hj w'' => ?_) kk ds X _ _ _ ⟨?_, ?_, ?_, ?_, ?_, ?_, ?_, ?_⟩
   ·obtain ⟨hj1, hj2⟩ := List.mem_filter.1 hj
    obtain ⟨oj, dj, hoj, hdj, hdn, hv⟩ := hpure j hj1 w''
    have h1 := (List.all_eq_true.1 heffi) j (List.mem_append.2 (.inl hj1))
    rw [Bool.and_eq_true] at h1
    have h2 := h1.2
    simp only [Bool.not_eq_true'] at hj2
    rw [hj2, Bool.false_or, Bool.and_eq_true, ho, hoj] at h2
    have h3 := h2.2
    have hap : ∀ d, o.dst = some d → d ∉ oj.looksAt ops ∧ oj.dst ≠ some d := by
     intro d hd
     simp only [hd, Bool.and_eq_true, Bool.not_eq_true', bne_iff_ne, ne_eq] at h3
     exact ⟨by simpa using h3.1, h3.2⟩
    have hl : ∀ t ∈ oj.looksAt ops, r' t = r t := fun t ht => hval t fun e => (hap t e).1 ht
    have hexec' : execOp (ev r') oj = execOp (ev r) oj :=
     exec_congr (f := r') (g := r) (noSel_spec hns hoj) (fun x hx => by cases x <;> first | rfl | exact absurd rfl (hx _)) (fun _ => rfl) (fun _ => rfl) hl
    have hw' : Region.wanted oj (yl ops r') = Region.wanted oj (yl ops r) := wanted_congr fun g' want hg' => yl_congr fun d' hd' => hl d' (looks_guard hg' hd')
    refine ⟨oj, dj, hoj, hdj, hdn, ?_⟩
    rw [hw', hexec', hval dj fun e => (hap dj e).2 hdj]
    exact hv
   ·intro x hx
    have hb' := hnotX x hx
    have hkeep : ∀ l : List Nat, x ∈ l → x ∈ leave ops i l := fun l hxl => List.mem_filter.2 ⟨hxl, by rw [hb']; rfl⟩
    rcases List.mem_append.1 (s.sub x hx) with h | h
    ·exact List.mem_append.2 (.inl (hkeep _ h))
    ·exact List.mem_append.2 (.inr (hkeep _ h))
   ·intro x hx
    have := s.subd x hx
    simp only [List.contains_cons, this, Bool.or_true]
   ·simp [s.size]
   ·intro j hj
    by_cases hji : j = i
    ·subst hji
     have h1 : (listed.setIfInBounds j true).getD j true = true := by simp [Array.getD_eq_getD_getElem?]
     have h5 : X.contains j = false := by simpa using hX
     rw [h1, h5]
     simp
    ·have hne : i ≠ j := fun e => hji e.symm
     have h1 : (listed.setIfInBounds i true).getD j true = listed.getD j true := by simp only [Array.getD_eq_getD_getElem?, Array.getElem?_setIfInBounds_ne hne]
     have hf : (j == i) = false := by simpa using hji
     rw [h1, s.told j hj]
     simp only [List.contains_cons, hf, Bool.false_or]
   ·have := unl_set s.size hil hni
    have := s.fuel
    omega
   ·cases hod : o.dst with
    | none => simp [Act.put, s.asize]
    | some d => simp [Act.put, s.asize]
   ·cases hod : o.dst with
    | none => simp [Act.put, s.defers]
    | some d => simp [Act.put, s.defers]
   ·intro t ht
    cases hod : o.dst with
    | none =>
     simp only [Act.put]
     rw [s.agree t ht, hval t (by rw [hod]; intro h; cases h)]
    | some d =>
     by_cases htd : t = d
     ·subst htd
      rw [← hr'.val, hod]
      simp only [Act.put, Array.getD_eq_getD_getElem?, Array.getElem?_setIfInBounds_self]
      have h1 := s.asize
      have h2 := hg.size
      rw [h1, h2]
     ·have hne : d ≠ t := fun e => htd e.symm
      rw [hval t (by rw [hod]; exact fun e => hne (Option.some.inj e))]
      simp only [Act.put]
      rw [Array.getD_eq_getD_getElem?, Array.getElem?_setIfInBounds_ne hne, ← Array.getD_eq_getD_getElem?]
      exact s.agree t ht
  have hd0 : a.defers = g.defers := by rw [s.defers, hg.defers]
  have h := hwl kk ds g hg
  unfold wpListIn at h
  unfold wpOpIn
  rw [ho]
  simp only
  rw [hwant]
  by_cases hw : Region.wanted o (yielded ops g.tmps) = true
  ·rw [if_pos hw] at h ⊢
   obtain ⟨_, h⟩ := h
   refine ⟨fun _ _ => trivial, ?_⟩
   have hsem : ∀ e : Operand → Value, o.semAt (FR none).round e = execOp e o := fun e => by simp [Oper.semAt]
   rw [hsem] at h ⊢
   rw [hexec]
   generalize (execOp g.eval o).run P w = x at *
   cases x with
   | ok v w' =>
    cases v <;> simp only [Oper.uponIn] at h ⊢
    case value v =>
     obtain ⟨r', h1, _, h2⟩ := h
     exact hnext v w' ⟨r', h1, h2⟩
    case skip =>
     obtain ⟨r', h1, _, h2⟩ := h
     exact hnext _ w' ⟨r', h1, h2⟩
    case enter f args =>
     refine ⟨h.1, CallsIn.mono h.2 ?_⟩
     intro e w'' he
     cases e with
     | returned v =>
      obtain ⟨r', h1, _, h2⟩ := he
      exact hnext v w'' ⟨r', h1, h2⟩
     | panicked c =>
      obtain ⟨_, _, hx, _⟩ := he
      cases hx
     | outgrown =>
      obtain ⟨_, _, _, _, hx, _⟩ := he
      cases hx
    case row row args =>
     refine ⟨h.1, RowsIn.mono h.2 ?_⟩
     rintro v w'' ⟨r', h1, _, h2⟩
     exact hnext v w'' ⟨r', h1, h2⟩
    case round l f tmps assign body =>
     refine ⟨h.1, RoundIn.mono h.2 ?_⟩
     intro e w'' he
     cases e with
     | returned v =>
      obtain ⟨r', h1, _, h2⟩ := he
      exact hnext v w'' ⟨r', h1, h2⟩
     | panicked c =>
      obtain ⟨_, _, hx, _⟩ := he
      cases hx
     | outgrown =>
      obtain ⟨_, _, _, _, hx, _⟩ := he
      cases hx
    case defer d =>
     obtain ⟨r', h1, _, h2⟩ := h
     have := h1.defers
     cases hod : o.dst <;> simp [Act.put, hod, hg.defers] at this
   | halt x w' =>
    cases x <;> simp only [Oper.uponIn] at h ⊢
    obtain ⟨_, _, hx, _⟩ := h
    cases hx
  ·rw [if_neg hw] at h ⊢
   obtain ⟨_, r', h1, _, h2⟩ := h
   exact ⟨fun _ _ => trivial, hnext _ w ⟨r', h1, h2⟩⟩
theorem fli_end {done pure lds : List Nat} (hall : ((List.range ops.size).all done.contains) = true) (hb : backward ops = true) (hns : noSel ops = true) (hpair : okAll ops (pure ++ lds) = true)
  (hlds : ∀ i ∈ lds, obl P n ops r w i) (h : Q .normal r w) : FLI P n ops Q done pure lds r w := by
 intro hpure kk ds X listed fuel a s
 have hin : ∀ X listed fuel a, RS n ops done (pure ++ lds) r X listed fuel ds a → Region.ready .any ops listed = [] → lift n ds Q .normal a w := by
  intro X listed fuel a s hr
  refine ⟨r, ⟨s.asize, fun t => s.agree t fun x hx hxd => ?_, s.defers⟩, h⟩
  unfold dstOf at hxd
  cases ho : ops[x]? with
  | none => rw [ho] at hxd; cases hxd
  | some o =>
   have hl := lt_of_some ho
   have h1 := ready_nil hb s.size hr x hl
   have h2 := (s.pending hx hl).1
   rw [h1] at h2
   cases h2
 refine fli_core hns hpair hpure hlds hin ?_ fuel X listed a s
 intro X listed fuel a s i hi hX
 obtain ⟨h1, h2, _⟩ := mem_ready.1 hi
 have h3 := s.told i h1
 have h4 := (List.all_eq_true.1 hall) i (List.mem_range.2 h1)
 have h5 : X.contains i = false := by simpa using hX
 rw [h4, h5, h2] at h3
 cases h3
theorem fli_pure {done pure lds : List Nat} {d : Nat} {v : Value} (i : Nat) (hd : dstOf ops i = some d) (hns : noSel ops = true) (hnd : done.contains i = false) (hf : freshB ops pure i d = true)
  (hob : ∀ w', obl P n ops (upd d v r) w' i) (k : FLI P n ops Q (i :: done) (i :: pure) lds (upd d v r) w) : FLI P n ops Q done pure lds r w := by
 intro hpure kk ds X listed fuel a s
 refine k (fun j hj w' => ?_) kk ds (i :: X) listed fuel a (s.taken hd hnd fun x hx => ?_)
 ·rcases List.mem_cons.1 hj with h | h
  ·subst h; exact hob w'
  ·have := freshB_spec hf h
   exact obl_upd (hpure j h w') hns this.1 this.2
 ·rcases hx with h | h
  ·subst h; simp
  ·rcases List.mem_append.1 h with h | h
   ·exact List.mem_append.2 (.inl (List.mem_cons_of_mem _ h))
   ·exact List.mem_append.2 (.inr h)
theorem fli_load {done pure lds : List Nat} {d : Nat} {v : Value} (i : Nat) (hd : dstOf ops i = some d) (hns : noSel ops = true) (hnd : done.contains i = false) (hf : freshB ops pure i d = true)
  (k : FLI P n ops Q (i :: done) pure (i :: lds) (upd d v r) w) : FLI P n ops Q done pure lds r w := by
 intro hpure kk ds X listed fuel a s
 refine k (fun j hj w' => ?_) kk ds (i :: X) listed fuel a (s.taken hd hnd fun x hx => ?_)
 ·have := freshB_spec hf hj
  exact obl_upd (hpure j hj w') hns this.1 this.2
 ·rcases hx with h | h
  ·subst h; simp
  ·rcases List.mem_append.1 h with h | h
   ·exact List.mem_append.2 (.inl h)
   ·exact List.mem_append.2 (.inr (List.mem_cons_of_mem _ h))
end
section
variable {P : Program} {n : Nat} {ops : Array Oper} {Q : Po} {r : Fr} {w : World} {done pure lds : List Nat} {d : Nat} {op : Op} {ty : TypeId} {pos : String} {after : Array Edge} {v : Value}
theorem fli_val (i : Nat) (ho : ops[i]? = some ⟨some d, op, ty, pos, after, none⟩) (hv : ∀ w', Val P op ty r w' v w') (hd : Nat.blt d n = true) (hc : chkV ops done pure i d = true)
  (k : FLI P n ops Q (i :: done) (i :: pure) lds (upd d v r) w) : FLI P n ops Q done pure lds r w := by
 simp only [chkV, Bool.and_eq_true, Bool.not_eq_true'] at hc
 obtain ⟨⟨⟨h1, h2⟩, h3⟩, h4⟩ := hc
 exact fli_pure i (by unfold dstOf; rw [ho]; rfl) h1 h2 h3 (fun w' => obl_of h4 h1 ho hd (hv w')) k
theorem fli_ld (i : Nat) (ho : ops[i]? = some ⟨some d, op, ty, pos, after, none⟩) (_hv : Val P op ty r w v w) (hc : chkV ops done pure i d = true)
  (k : FLI P n ops Q (i :: done) pure (i :: lds) (upd d v r) w) : FLI P n ops Q done pure lds r w := by
 simp only [chkV, Bool.and_eq_true, Bool.not_eq_true'] at hc
 obtain ⟨⟨⟨h1, h2⟩, h3⟩, _⟩ := hc
 exact fli_load i (by unfold dstOf; rw [ho]; rfl) h1 h2 h3 k
theorem fli_eff1 (k : Nat) (pure' lds' : List Nat) (hc : chkE1 ops done pure lds k pure' lds' = true) (hl : Obls P n ops r w lds) {o : Oper} (ho : ops[k]? = some o)
  (h : WLI P n ops (fun e r' w' => e = .normal ∧ FLI P n ops Q (k :: done) pure' lds' r' w') [o] r w) : FLI P n ops Q done pure lds r w := by
 simp only [chkE1, chkE, Bool.and_eq_true, beq_iff_eq] at hc
 obtain ⟨⟨⟨⟨⟨⟨⟨h1, h2⟩, h3⟩, h4⟩, h5⟩, h6⟩, h7⟩, h8⟩ := hc
 refine fli_eff [k] h1 (by simp) h3 h4 h5 h6 hl.all fun j hj => ?_
 have : j = k := by simpa using hj
 subst this
 refine ⟨o, ho, ?_⟩
 rw [h7, h8]
 exact h
theorem fli_nil (hc : chkN ops done pure lds = true) (hl : Obls P n ops r w lds) (h : Q .normal r w) : FLI P n ops Q done pure lds r w := by
 simp only [chkN, Bool.and_eq_true] at hc
 obtain ⟨⟨⟨h1, h2⟩, h3⟩, h4⟩ := hc
 exact fli_end h1 h2 h3 h4 hl.all h
theorem wc_drawI {id : Nat} {l : List Oper} (hm : P.follows .mixedOrders = true) (h : FLI P n l.toArray Q [] [] [] r w.drew) : WC P n Q (.region id l.toArray true) r w := by
 intro ds a ha
 refine wpIn_wide (n := 9).1 (wpIn_region_draw fun t => ?_)
 simp only [Region.schedule, hm, Bool.true_or, if_true]
 refine wpAnyIn_sound l.toArray.size t _ a _ ?_
 refine h (by simp) 9 ds [] _ _ a ⟨by simp, by simp, by simp, fun i hi => ?_, ?_, ha.size, ha.defers, fun t _ => ha.val t⟩
 ·rw [getD_replicate_false _ _ hi]; rfl
 ·unfold unl
  exact Nat.le_trans (List.countP_le_length) (by simp)
end
end K
end Go.Proofs.YtladpaehbolghaaGreat

namespace Go.Proofs.YtladpaehbolghaaGreat
open Go Go.RowKit
namespace K
section
variable {P : Program} {n : Nat} {ops : Array Oper} {Q : Po} {rest : List Oper} {r : Fr} {w : World} {d : Nat} {ty : TypeId} {pos : String} {after : Array Edge} {m0 m : Mem} {F : List Nat} {w0 : World} {Es : List Ent}
theorem wl_appBi (i : Nat) {T U E bytes j : Nat} {D : TypeDesc} {v x : Value} {s y : Operand} {l l2 : List UInt8} (st : St m0 m F w0 w Es) (hi : Es[i]? = some (rowE v E 1 l.length (bs l))) (hT : P.underlying T = some (.slice E)) (hU : P.underlying U = some D) (hD : D = .string ∨ ∃ E', D = .slice E') (tf : TyF P E false 1 bytes) (hz : TyZ P E (.int .u8 0))
  (hs : ev r s = v) (hy : ev r y = x) (src : Src P w x 1 j (bs l2)) (hb : (l.length + l2.length) * bytes ≤ 140737488355328) (h63 : l.length + l2.length ≤ 9223372036854775807) (hd : Nat.blt d n = true)
  (k : ∀ v' w', St m0 m F w0 w' (Es.set i (rowE v' E 1 (l ++ l2).length (bs (l ++ l2)))) → v'.oneCell' = true → WL P n ops Q rest (upd d v' r) w') :
  WL P n ops Q (⟨some d, .call ⟨.builtin .append, #[s, y], #[T, U]⟩, ty, pos, after, none⟩ :: rest) r w := by
 have hj : l2.length = j := by have := src.length; simpa [bs] using this
 subst hj
 refine wl_append (news := bs l2) i st hi hT hU hD tf hz rfl hs hy src h63 hb hd ?_
 intro v' w' _ st'
 have e : bs l ++ bs l2 = bs (l ++ l2) := by simp [bs]
 rw [e, show l.length + l2.length = (l ++ l2).length by simp] at st'
 have hlt : i < Es.length := by
  rcases Nat.lt_or_ge i Es.length with h | h
  ·exact h
  ·rw [List.getElem?_eq_none h] at hi; cases hi
 have hrow : (rowE v' E 1 (l ++ l2).length (bs (l ++ l2))).holds w' := st'.at (i := i) (by simp [hlt])
 exact k v' w' st' (row_one hrow)
end
end K
end Go.Proofs.YtladpaehbolghaaGreat

namespace Go.Proofs.YtladpaehbolghaaGreat
open Go Go.RowKit K
theorem v_to {P : Program} {r : Fr} {w w' : World} {ty : TypeId} {o : Op} {v v' : Value} (h : Val P o ty r w v w') (e : v = v') : Val P o ty r w v' w' := e ▸ h
section
variable {P : Program} {r : Fr} {w : World} {ty : TypeId}
theorem v_eqlT {T U : TypeId} {x y : Operand} {k : IntKind} {a b : Int} (h : a = b) (hx : ev r x = .int k a) (hy : ev r y = .int k b) : Val P (.binOp .eql T x y U) ty r w (.bool true) w := by
 have := v_eql (P := P) (T := T) (U := U) (ty := ty) (w := w) hx hy
 rwa [decide_eq_true h] at this
end
section
variable {P : Program} {r : Fr} {w : World} {ty : TypeId}
theorem v_neqF {T U : TypeId} {x y : Operand} {k : IntKind} {a b : Int} (h : a = b) (hx : ev r x = .int k a) (hy : ev r y = .int k b) : Val P (.binOp .neq T x y U) ty r w (.bool false) w := by
 have := v_neq (P := P) (T := T) (U := U) (ty := ty) (w := w) hx hy
 rwa [decide_eq_false (not_not_intro h)] at this
theorem v_neqT {T U : TypeId} {x y : Operand} {k : IntKind} {a b : Int} (h : ¬ a = b) (hx : ev r x = .int k a) (hy : ev r y = .int k b) : Val P (.binOp .neq T x y U) ty r w (.bool true) w := by
 have := v_neq (P := P) (T := T) (U := U) (ty := ty) (w := w) hx hy
 rwa [decide_eq_true h] at this
end
end Go.Proofs.YtladpaehbolghaaGreat

namespace Go.Proofs.YtladpaehbolghaaGreat
open Go Go.RowKit K
theorem getV_lst {a b c : List Value} {v : Value} {o : Nat} {l : List Value} (hl : l = a ++ v :: c) (ha : a.length = o) : getV false 1 l.toArray o = some v := by
 subst hl; subst ha
 simp [getV]
section lists
variable {α : Type} {c : α → List Value} {size : Nat}
structure LsM (m : Mem) (v : Value) (c : α → List Value) (size : Nat) (L : List α) : Prop where
 row : SlM m v size L.length (L.flatMap c)
 len : ∀ x ∈ L, (c x).length = size
theorem cellsAt_flat : ∀ {L : List α}, (∀ x ∈ L, (c x).length = size) → ∀ {i : Nat} (hi : i < L.length), cellsAt (L.flatMap c) size i = c L[i]
 | [], _, _, hi => by simp at hi
 | x :: L, h, 0, _ => by
  have h1 := h x (by simp)
  simp only [cellsAt, List.flatMap_cons, Nat.zero_mul, List.drop_zero, List.getElem_cons_zero]
  rw [List.take_left' h1]
 | x :: L, h, i + 1, hi => by
  have h1 := h x (by simp)
  have h2 := cellsAt_flat (L := L) (fun y hy => h y (by simp [hy])) (i := i) (by simp at hi; omega)
  rw [List.getElem_cons_succ, ← h2]
  simp only [cellsAt, List.flatMap_cons]
  rw [show (i + 1) * size = (c x).length + i * size by rw [h1, Nat.succ_mul]; omega, List.drop_append, List.drop_eq_nil_of_le (by omega), List.nil_append, Nat.add_sub_cancel_left]
theorem LsM.mono {m m' : Mem} {v : Value} {L : List α} (h : LsM m v c size L) (hm : ∀ k o, m k = some o → m' k = some o) : LsM m' v c size L := ⟨h.row.mono hm, h.len⟩
theorem LsM.nil {m : Mem} : LsM m (.slice none 0 0) c size [] := ⟨SlM.nil, by simp⟩
theorem LsM.sl {m : Mem} {v : Value} {L : List α} (h : LsM m v c size L) : ∃ a cap, v = .slice a L.length cap := by
 obtain ⟨_, a, cap, rfl, _⟩ := h.row
 exact ⟨a, cap, rfl⟩
theorem LsM.rd {P : Program} {m : Mem} {a : Option Addr} {k cap : Nat} {L : List α} (h : LsM m (.slice a k cap) c size L) {b o i : Nat} (ha : a = some ⟨b, o, none⟩) (hi : i < L.length) (hs : 0 < size) {T : TypeId} {agg : Bool} {sz bytes off : Nat} {v' : Value} (tf : TyF P T agg sz bytes) (hv : getV agg sz (c L[i]).toArray off = some v') {w : World} (him : Im m w) :
  Reads P w T ⟨b, o + i * size + off, none⟩ v' := by
 obtain ⟨b', o', cap', hv', _, hr⟩ := h.row.elem P (i := i) hi hs
 simp only [Value.slice.injEq] at hv'
 rw [ha] at hv'
 obtain ⟨he, _, _⟩ := hv'
 cases he
 exact hr him tf (by rw [cellsAt_flat h.len hi]; exact hv)
theorem LsM.ptr {m : Mem} {a : Option Addr} {k cap : Nat} {L : List α} (h : LsM m (.slice a k cap) c size L) (hi : 0 < L.length) (hs : 0 < size) : ∃ b o, a = some ⟨b, o, none⟩ := by
 obtain ⟨b, o, cap', hv, _, _⟩ := h.row.elem Tryz.prog (i := 0) hi hs
 simp only [Value.slice.injEq] at hv
 exact ⟨b, o, hv.1⟩
abbrev lsE (E : TypeId) (size : Nat) (c : α → List Value) (v : Value) (L : List α) : Ent := rowE v E size L.length (L.flatMap c)
variable {P : Program} {n : Nat} {ops : Array Oper} {Q : Po} {rest : List Oper} {r : Fr} {w : World} {d : Nat} {ty : TypeId} {pos : String} {after : Array Edge} {m0 m : Mem} {F : List Nat} {w0 : World} {Es : List Ent}
theorem wl_lsOne {T E : TypeId} {bytes : Nat} {z : Value} {x : Operand} (cv : List Value) (hT : P.underlying T = some (.slice E)) (tf : TyF P E true size bytes) (hz : TyZ P E z) (hs : 0 < size) (hs1 : size ≤ 16777216) (hl : cv.length = size) (hx : ev r x = .agg cv.toArray) (st : St m0 m F w0 w Es) (hd : Nat.blt d n = true)
  (k : ∀ b w', St m0 m F w0 w' (K.blk b cv.toArray E :: Es) → WL P n ops Q rest (upd d (.slice (some ⟨b, 0, none⟩) 1 1) r) w') :
  WL P n ops Q (⟨some d, .buildSlice T 1 #[(0, x)], ty, pos, after, none⟩ :: rest) r w := by
 refine wl_buildSlice (c' := cv.toArray) [(0, .agg cv.toArray)] hT tf hz (by omega) (by omega) (by simp [hx]) ⟨0, size, by simp, by simp [Value.cells, hl], by simp [size_madeCells], ?_⟩ st hd k
 exact setSeg_all (by simp [size_madeCells, Value.cells, hl])
theorem wl_lsApp (i : Nat) {T E : TypeId} {agg : Bool} {bytes b cap : Nat} {z v : Value} {s y : Operand} {L : List α} {e : α} (st : St m0 m F w0 w (K.blk b (c e).toArray E :: Es)) (hi : Es[i]? = some (lsE E size c v L)) (hT : P.underlying T = some (.slice E)) (tf : TyF P E agg size bytes) (hz : TyZ P E z) (hzs : z.cells.size = size) (hl : (c e).length = size) (hone : ∀ u ∈ c e, u.oneCell' = true)
  (hs : ev r s = v) (hy : ev r y = .slice (some ⟨b, 0, none⟩) 1 cap) (hb : (L.length + 1) * bytes ≤ 140737488355328) (h63 : L.length + 1 ≤ 9223372036854775807) (hd : Nat.blt d n = true)
  (k : ∀ v' w', St m0 m F w0 w' (Es.set i (lsE E size c v' (L ++ [e]))) → v'.oneCell' = true → WL P n ops Q rest (upd d v' r) w') :
  WL P n ops Q (⟨some d, .call ⟨.builtin .append, #[s, y], #[T, T]⟩, ty, pos, after, none⟩ :: rest) r w := by
 refine wl_append (news := c e) (i + 1) st hi hT hT (.inr ⟨_, rfl⟩) tf hz hzs hs hy (st.srcArr (off := 0) 0 rfl (by rw [hl]; omega) (fun j u hj => by simpa using hj) hone) h63 hb hd ?_
 intro v' w' _ st'
 have e1 : L.flatMap c ++ c e = (L ++ [e]).flatMap c := by simp
 have e2 : L.length + 1 = (L ++ [e]).length := by simp
 have st2 := st'.drop 0
 rw [e1, e2] at st2
 have st3 : St m0 m F w0 w' (Es.set i (lsE E size c v' (L ++ [e]))) := st2
 have hlt : i < Es.length := by
  rcases Nat.lt_or_ge i Es.length with h | h
  ·exact h
  ·rw [List.getElem?_eq_none h] at hi; cases hi
 have hrow : (lsE E size c v' (L ++ [e])).holds w' := st3.at (i := i) (by simp [hlt])
 exact k v' w' st3 (row_one hrow)
theorem K.St.keepLs (st : St m0 m [] w0 w Es) {i : Nat} {E : TypeId} {v : Value} {L : List α} (hi : Es[i]? = some (lsE E size c v L)) (hL : ∀ x ∈ L, (c x).length = size) :
  ∃ m', Grow m m' w0.heap.size ∧ LsM m' v c size L ∧ St m0 m' [] w0 w (Es.eraseIdx i) := by
 obtain ⟨m2, hg2, hm2, st2⟩ := st.freezeR hi (by simp)
 exact ⟨m2, hg2, ⟨row_SlM (m := m2) (st.at hi) hm2, hL⟩, st2⟩
theorem wl_buildSlice0 {T E : TypeId} {agg : Bool} {bytes : Nat} (hT : P.underlying T = some (.slice E)) (tf : TyF P E agg size bytes) (st : St m0 m F w0 w Es) (hd : Nat.blt d n = true)
  (k : ∀ v w', St m0 m F w0 w' (rowE v E size 0 [] :: Es) → WL P n ops Q rest (upd d v r) w') :
  WL P n ops Q (⟨some d, .buildSlice T 0 #[], ty, pos, after, none⟩ :: rest) r w := by
 have hst : St m0 m F w0 (w.alloc (.cells #[] E)) (rowE (.slice (some ⟨w.heap.size, 0, none⟩) 0 0) E size 0 [] :: Es) := by
  have st1 := st.new (E := K.blk w.heap.size #[] E) (touch_alloc w _) (heap_alloc_new w _)
  exact st1.rowShut 0 (b := w.heap.size) (k := 0) (cap := 0) (size := size) (xs := []) rfl (Nat.le_refl _) (by simp) (by omega) (by simp)
 refine wl_val (v := .slice (some ⟨w.heap.size, 0, none⟩) 0 0) (w' := w.alloc (.cells #[] E)) ?_ hd (k _ _ hst)
 intro _ _ _ _
 simp [execOp, Instr.buildSlice, run_underlying hT, tf.sz, newRow, Instr.fill]
 have e : (Array.map (fun _ => (default : Value)) (Array.range 0)) = #[] := by apply Array.ext'; simp
 rw [e]
theorem v_eq_nilS {T E U : TypeId} {x y : Operand} {a : Option Addr} {l k : Nat} (hT : P.underlying T = some (.slice E)) (hx : ev r x = .slice a l k) (hy : ev r y = .slice none 0 0) : Val P (.binOp .eql T x y U) ty r w (.bool a.isNone) w := by
 intro _ _ _ _
 have h : (Op.equal T (.slice a l k) (.slice none 0 0)).run P w = .ok a.isNone w := by
  unfold Op.equal
  rw [show Op.maxDepth = 9999 + 1 from rfl, Op.equalIn]
  simp only [Sem.run_bind, run_underlying hT, Result.andThen_ok]
  cases a <;> rfl
 simp [execOp, eqGuard, binOp, hx, hy, h]
end lists
theorem LsM.rd0 {α : Type} {c : α → List Value} {size : Nat} {P : Program} {m : Mem} {a : Option Addr} {k cap : Nat} {L : List α} (h : LsM m (.slice a k cap) c size L) {b o i : Nat} (ha : a = some ⟨b, o, none⟩) (hi : i < L.length) (hs : 0 < size) {T : TypeId} {agg : Bool} {sz bytes : Nat} {v' : Value} (tf : TyF P T agg sz bytes) (hv : getV agg sz (c L[i]).toArray 0 = some v') {w : World} (him : Im m w) :
  Reads P w T ⟨b, o + i * size, none⟩ v' := h.rd ha hi hs tf hv him
theorem K.St.lsRd {α : Type} {c : α → List Value} {size : Nat} {m0 m : Mem} {F : List Nat} {w0 w : World} {Es : List Ent} (st : St m0 m F w0 w Es) (i : Nat) {E : TypeId} {v : Value} {L : List α} (hi : Es[i]? = some (lsE E size c v L)) (hl : ∀ x ∈ L, (c x).length = size) : LsM (heapM w) v c size L :=
 ⟨row_SlM (m := heapM w) (st.at hi) (fun _ _ _ ho => ho), hl⟩
theorem flat_drop {α : Type} {c : α → List Value} {size : Nat} : ∀ {L : List α}, (∀ x ∈ L, (c x).length = size) → ∀ i, (L.drop i).flatMap c = (L.flatMap c).drop (i * size)
 | [], _, i => by simp
 | x :: L, h, 0 => by simp
 | x :: L, h, i + 1 => by
  have h1 := h x (by simp)
  rw [List.drop_succ_cons, flat_drop (L := L) (fun y hy => h y (by simp [hy])) i, List.flatMap_cons, show (i + 1) * size = (c x).length + i * size by rw [h1, Nat.succ_mul]; omega, List.drop_append, List.drop_eq_nil_of_le (show (c x).length ≤ (c x).length + i * size by omega), List.nil_append, Nat.add_sub_cancel_left]
theorem flat_take {α : Type} {c : α → List Value} {size : Nat} : ∀ {L : List α}, (∀ x ∈ L, (c x).length = size) → ∀ i, (L.take i).flatMap c = (L.flatMap c).take (i * size)
 | [], _, i => by simp
 | x :: L, h, 0 => by simp
 | x :: L, h, i + 1 => by
  have h1 := h x (by simp)
  rw [List.take_succ_cons, List.flatMap_cons, flat_take (L := L) (fun y hy => h y (by simp [hy])) i, List.flatMap_cons, show (i + 1) * size = (c x).length + i * size by rw [h1, Nat.succ_mul]; omega, List.take_append, List.take_of_length_le (show (c x).length ≤ (c x).length + i * size by omega), Nat.add_sub_cancel_left]
theorem LsM.sub {α : Type} {c : α → List Value} {size : Nat} {m : Mem} {a : Option Addr} {k cap : Nat} {L : List α} (h : LsM m (.slice a k cap) c size L) (i j : Nat) (hij : i ≤ j) (hj : j ≤ L.length) (hs : 0 < size) :
  LsM m (.slice (sliceOff a cap i size) (j - i) (cap - i)) c size ((L.drop i).take (j - i)) := by
 have hk : k = L.length := by obtain ⟨_, _, _, he, _⟩ := h.row; cases he; rfl
 subst hk
 have hl : ((L.drop i).take (j - i)).length = j - i := by simp; omega
 refine ⟨?_, fun x hx => h.len x (List.mem_of_mem_drop (List.mem_of_mem_take hx))⟩
 have := h.row.sub rfl hij hj hs
 rw [flat_take (fun x hx => h.len x (List.mem_of_mem_drop hx)), flat_drop h.len, hl]
 exact this
theorem K.St.rdp {P : Program} {m0 m : Mem} {F : List Nat} {w0 w : World} {Es : List Ent} {T : TypeId} {agg : Bool} {size bytes b : Nat} {c : Array Value} {t : TypeId} {v : Value} {p : Addr} (st : St m0 m F w0 w Es) (i : Nat) (hi : Es[i]? = some (K.blk b c t)) (hp : p = ⟨b, p.off, Option.none⟩) (tf : TyF P T agg size bytes) (hv : getV agg size c p.off = some v) : Reads P w T p v :=
 hp ▸ st.reads i hi tf hv
section
variable {P : Program} {n : Nat} {ops : Array Oper} {Q : Po} {rest : List Oper} {r : Fr} {w : World} {d : Nat} {ty : TypeId} {pos : String} {after : Array Edge}
theorem wl_valg {op : Op} {v : Value} {j t : Nat} {b want : Bool} (hj : (ops[j]?).bind (·.dst) = some t) (hb : r t = .bool b) (hv : b = want → Val P op ty r w v w) (hd : Nat.blt d n = true) (k : WL P n ops Q rest (upd d (bif b == want then v else undef) r) w) :
  WL P n ops Q (⟨some d, op, ty, pos, after, some (j, want)⟩ :: rest) r w := by
 refine wl_guard hj hb (fun h => ?_) (fun h => ?_) (.inr ⟨d, rfl, hd⟩)
 ·subst h
  refine wl_val (hv rfl) hd ?_
  have : (bif b == b then v else undef) = v := by cases b <;> rfl
  rwa [this] at k
 ·subst h
  have : (bif (!want) == want then v else undef) = undef := by cases want <;> rfl
  rwa [this] at k
theorem gx {x : Operand} {b want : Bool} {v : Value} (e : b = want) (h : ev r x = bif b == want then v else undef) : ev r x = v := by
 subst e
 rw [h]
 cases b <;> rfl
theorem v_pickA {c x y : Operand} {b b2 : Bool} (hc : ev r c = .bool b) (hx : ev r x = bif b == true then .bool b2 else undef) (hy : ev r y = .bool false) : Val P (.pick c x y) ty r w (.bool (b && b2)) w := by
 have h := v_pick (P := P) (w := w) (ty := ty) (x := x) (y := y) hc
 rw [hx, hy] at h
 cases b <;> exact h
theorem v_pickO {c x y : Operand} {b b2 : Bool} (hc : ev r c = .bool b) (hx : ev r x = .bool true) (hy : ev r y = bif b == false then .bool b2 else undef) : Val P (.pick c x y) ty r w (.bool (b || b2)) w := by
 have h := v_pick (P := P) (w := w) (ty := ty) (x := x) (y := y) hc
 rw [hx, hy] at h
 cases b <;> exact h
theorem wl_valD {op : Op} {p q : Bool} (h : Val P op ty r w (.bool p) w) (e : p = q) : Val P op ty r w (.bool q) w := e ▸ h
end
theorem one_cell {v : Value} (h : v.oneCell' = true) : ∀ u ∈ [v], u.oneCell' = true := fun u hu => by rw [List.mem_singleton.1 hu]; exact h
theorem one_app {a b : List Value} (ha : ∀ u ∈ a, u.oneCell' = true) (hb : ∀ u ∈ b, u.oneCell' = true) : ∀ u ∈ a ++ b, u.oneCell' = true := fun u hu => (List.mem_append.1 hu).elim (ha u) (hb u)
theorem SlM.one1 {m : Mem} {v : Value} {size k : Nat} {xs : List Value} (h : SlM m v size k xs) : v.oneCell' = true := by obtain ⟨_, _, _, h, _⟩ := h; rw [h]; rfl
theorem LsM.one1 {α : Type} {c : α → List Value} {size : Nat} {m : Mem} {v : Value} {L : List α} (h : LsM m v c size L) : v.oneCell' = true := SlM.one1 h.row
section
variable {P : Program} {n : Nat} {ops : Array Oper} {Q : Po} {rest : List Oper} {r : Fr} {w : World} {d : Nat} {ty : TypeId} {pos : String} {after : Array Edge} {m0 m : Mem} {F : List Nat} {w0 : World} {Es : List Ent} {size : Nat}
theorem wl_lsTwo {T E : TypeId} {bytes : Nat} {z : Value} {x y : Operand} (cv cu : List Value) (hT : P.underlying T = some (.slice E)) (tf : TyF P E true size bytes) (hz : TyZ P E z) (hs : 0 < size) (hs1 : size ≤ 1000000) (hl : cv.length = size) (hl2 : cu.length = size) (hx : ev r x = .agg cv.toArray) (hy : ev r y = .agg cu.toArray) (st : St m0 m F w0 w Es) (hd : Nat.blt d n = true)
  (k : ∀ b w', St m0 m F w0 w' (K.blk b (cv ++ cu).toArray E :: Es) → WL P n ops Q rest (upd d (.slice (some ⟨b, 0, none⟩) 2 2) r) w') :
  WL P n ops Q (⟨some d, .buildSlice T 2 #[(0, x), (1, y)], ty, pos, after, none⟩ :: rest) r w := by
 have hm : (madeCells z.cells (2 * size)).size = 2 * size := size_madeCells ..
 have hc : ∀ c : Array Value, (setSeg c 0 cv).toList = cv ++ c.toList.drop size := fun c => by simp [setSeg, hl]
 have hc2 : ∀ c : Array Value, (setSeg c size cu).toList = c.toList.take size ++ cu ++ c.toList.drop (size + size) := fun c => by simp [setSeg, hl2]
 refine wl_buildSlice (c' := (cv ++ cu).toArray) [(0, .agg cv.toArray), (1, .agg cu.toArray)] hT tf hz (by omega) (by omega) (by simp [hx, hy]) ⟨0, size, by simp, by simp [Value.cells, hl], by rw [hm]; omega, size, size, by simp, by simp [Value.cells, hl2], ?_, ?_⟩ st hd k
 ·show size + size ≤ (setSeg _ 0 cv).size
  rw [size_setSeg (by rw [hl, hm]; omega), hm]; omega
 ·show setSeg (setSeg _ 0 cv) size cu = _
  apply Array.ext'
  rw [hc2, hc, List.take_left' hl, List.drop_append, hl, List.drop_eq_nil_of_le (by omega), List.drop_drop, List.drop_eq_nil_of_le (by rw [Array.length_toList, hm]; omega)]
  simp
end
section
variable {P : Program} {n : Nat} {ops : Array Oper} {Q : Po} {rest : List Oper} {r : Fr} {w : World} {d : Nat} {ty : TypeId} {pos : String} {after : Array Edge} {m0 m : Mem} {F : List Nat} {w0 : World} {Es : List Ent}
theorem v_sls {T E : TypeId} {agg : Bool} {size bytes : Nat} {x : Operand} {lo hi : Option Operand} {a : Option Addr} {len cap : Nat} (l h : Nat) (hT : P.underlying T = some (.slice E)) (tf : TyF P E agg size bytes)
  (hx : ev r x = .slice a len cap) (hlo : BoundIs r lo 0 l) (hhi : BoundIs r hi len h) (h1 : l ≤ h) (h2 : h ≤ cap) : Val P (.slice T x lo hi none) ty r w (.slice (sliceOff a cap l size) (h - l) (cap - l)) w := v_slice_s hT tf hx hlo hhi h1 h2
theorem wl_byteR {T E bytes : Nat} {x : Operand} (c : UInt8) (hT : P.underlying T = some (.slice E)) (tf : TyF P E false 1 bytes) (hz : TyZ P E (.int .u8 0)) (hx : ev r x = u8 c) (st : St m0 m F w0 w Es) (hd : Nat.blt d n = true)
  (k : ∀ b w', St m0 m F w0 w' (rowE (.slice (some ⟨b, 0, none⟩) 1 1) E 1 [c].length (bs [c]) :: Es) → WL P n ops Q rest (upd d (.slice (some ⟨b, 0, none⟩) 1 1) r) w') :
  WL P n ops Q (⟨some d, .buildSlice T 1 #[(0, x)], ty, pos, after, none⟩ :: rest) r w :=
 wl_byte1 c hT tf hz hx st hd fun b w' st' => k b w' (st'.rowShut 0 (k := 1) (cap := 1) (size := 1) (xs := bs [c]) rfl (by decide) rfl (by decide) rfl)
end
section
variable {P : Program} {n : Nat} {ops : Array Oper} {Q : Po} {rest : List Oper} {r : Fr} {w : World} {d : Nat} {ty : TypeId} {pos : String} {after : Array Edge} {m0 m : Mem} {F : List Nat} {w0 : World} {Es : List Ent}
theorem wl_svOne {T E : TypeId} {bytes : Nat} {v : Value} {x : Operand} (hT : P.underlying T = some (.slice E)) (tf : TyF P E false 1 bytes) (hz : TyZ P E (.slice none 0 0)) (ho : v.oneCell' = true) (hx : ev r x = v) (st : St m0 m F w0 w Es) (hd : Nat.blt d n = true)
  (k : ∀ b w', St m0 m F w0 w' (K.blk b #[v] E :: Es) → WL P n ops Q rest (upd d (.slice (some ⟨b, 0, none⟩) 1 1) r) w') :
  WL P n ops Q (⟨some d, .buildSlice T 1 #[(0, x)], ty, pos, after, none⟩ :: rest) r w := by
 refine wl_buildSlice (c' := #[v]) [(0, v)] hT tf hz (by decide) (by decide) (by simp [hx]) ⟨0, 1, rfl, by rw [cells_one ho]; rfl, by simp [size_madeCells], ?_⟩ st hd k
 rw [cells_one ho]
 exact setSeg_all (by simp [size_madeCells])
end
end Go.Proofs.YtladpaehbolghaaGreat

namespace Go.Proofs.YtladpaehbolghaaGreat
open Go Go.RowKit Go.ChangeShapes Go.WideShapes K
section
variable {H : Type} {enc : TypeId × Value → H} {w : World} {sp : Nat → Bool} {held : Bool} {fuel : Nat} {x : DataW H × List MemPlace} {v : Value}
theorem trod_seg {S f off F size bytes : Nat} {agg : Bool} {cs : List Value} (hf : FdOff Tryz.prog S f off F) (tf : TyF Tryz.prog F agg size bytes) (h : DataW.trod enc Tryz.prog w 0 sp held fuel S cs = some x) :
  ∃ n y, DataW.trod enc Tryz.prog w 0 sp held n F ((cs.drop off).take size) = some y := by
 obtain ⟨fs, fl, hS, hfl, rfl, rfl, _⟩ := hf
 obtain ⟨xs, n, _, _, _, hxl, hh⟩ := DataW.trod_struct hS h
 have hlt : f < fs.size := by
  rcases Nat.lt_or_ge f fs.size with h' | h'
  ·exact h'
  ·rw [Array.getElem?_eq_none h'] at hfl; cases hfl
 have e := hh f fl hfl
 rw [tf.cells, List.getElem?_eq_getElem (by omega)] at e
 exact ⟨n, _, e⟩
theorem trod_len {S size bytes : Nat} {agg : Bool} {fs : Array Field} {cs : List Value} (hS : Tryz.prog.underlying S = some (.struct fs)) (tf : TyF Tryz.prog S agg size bytes) (h : DataW.trod enc Tryz.prog w 0 sp held fuel S cs = some x) : cs.length = size := by
 obtain ⟨xs, n, _, _, hl, _⟩ := DataW.trod_struct hS h
 rw [tf.cells] at hl
 exact hl
theorem trod_bo {cs : List Value} (h : DataW.trod enc Tryz.prog w 0 sp held fuel 4 cs = some x) : ∃ b, cs = [.bool b] := by
 obtain ⟨b, q, _⟩ := DataW.trod_bool Tryz.underlying4 h
 exact ⟨b, q⟩
theorem trod_u8 {cs : List Value} (h : DataW.trod enc Tryz.prog w 0 sp held fuel 5 cs = some x) : ∃ n : UInt8, cs = [u8 n] := by
 obtain ⟨a, q, _, wf⟩ := DataW.trod_int Tryz.underlying5 h
 simp only [Lit.wf, Bool.and_eq_true, decide_eq_true_eq] at wf
 have h1 : 0 ≤ a := wf.1
 have h2 : a ≤ 255 := wf.2
 refine ⟨UInt8.ofNat a.toNat, ?_⟩
 rw [q]
 simp only [u8, List.cons.injEq, Value.int.injEq, true_and, and_true]
 rw [UInt8.toNat_ofNat']
 omega
end
end Go.Proofs.YtladpaehbolghaaGreat

namespace Go.Proofs.YtladpaehbolghaaGreat
open Go Go.RowKit Go.ChangeShapes Go.WideShapes K
theorem bulk_one {H : Type} (d : DataW H) : 1 ≤ Rows.uptoBulk d := by
 cases d with
 | lit l => cases l <;> simp [Rows.uptoBulk]
 | nil => simp [Rows.uptoBulk]
 | ptr d => simp [Rows.uptoBulk]
 | slice elems spare => simp [Rows.uptoBulk]
 | agg parts => simp [Rows.uptoBulk]
 | iface t d => simp [Rows.uptoBulk]
 | map entries => simp [Rows.uptoBulk]
 | held h => simp [Rows.uptoBulk]
theorem bulk_part {H : Type} {d : DataW H} {l : List (DataW H)} (h : d ∈ l) : Rows.uptoBulk d ≤ Rows.uptoBulkAll l := by
 induction l with
 | nil => cases h
 | cons x r ih =>
  simp only [Rows.uptoBulkAll]
  cases List.mem_cons.1 h with
  | inl e => subst e; omega
  | inr e => have := ih e; omega
theorem bulk_len {H : Type} (l : List (DataW H)) : l.length ≤ Rows.uptoBulkAll l := by
 induction l with
 | nil => simp [Rows.uptoBulkAll]
 | cons x r ih => have := bulk_one x; simp only [Rows.uptoBulkAll, List.length_cons]; omega
theorem bulk_of {H : Type} {l : List (DataW H)} (hk : Rows.uptoSmall H l = true) : ∀ d ∈ l, Rows.uptoBulk d ≤ 1048576 := fun d hd => by
 have h : Rows.uptoBulkAll l ≤ 1048576 := of_decide_eq_true hk
 have := bulk_part hd
 omega
section
variable {H : Type} {enc : TypeId × Value → H} {w : World} {sp : Nat → Bool} {held : Bool} {fuel : Nat} {x : DataW H × List MemPlace} {v : Value}
theorem open_bytesB (h : DataW.trod enc Tryz.prog w 0 sp held fuel 23 [v] = some x) : ∃ l : List UInt8, SlM (heapM w) v 1 l.length (bs l) ∧ l.length ≤ Rows.uptoBulk x.1 := by
 obtain ⟨k, X, D, rest, hS, _, hX, hD⟩ := trod_SlMD Tryz.underlying23 (by rw [TF.t5.cells]; decide) h
 rw [TF.t5.cells] at hS
 obtain ⟨l, h1, h2⟩ := flat_one (α := UInt8) k X u8 fun i hi => by
  obtain ⟨_, n, y, hy⟩ := hX i hi
  obtain ⟨b, hb⟩ := trod_u8 hy
  exact ⟨b, hb⟩
 rw [h2] at hS
 subst h1
 refine ⟨l, hS, ?_⟩
 rcases hD with h0 | h0
 ·omega
 ·rw [h0]
  have := bulk_len ((List.range l.length).map D)
  rw [List.length_map, List.length_range] at this
  simp only [Rows.uptoBulk]
  omega
theorem trod_listB {α : Type} {c : α → List Value} {Q : α → Nat → Prop} {T E : TypeId} {agg : Bool} {size bytes : Nat} (hT : Tryz.prog.underlying T = some (.slice E)) (tf : TyF Tryz.prog E agg size bytes) (hs : 0 < size)
  (one : ∀ {n : Nat} {y : DataW H × List MemPlace} {cs : List Value}, DataW.trod enc Tryz.prog w 0 sp held n E cs = some y → ∃ a, cs = c a ∧ Q a (Rows.uptoBulk y.1)) (hQ : ∀ {a : α} {n n' : Nat}, Q a n → n ≤ n' → Q a n')
  (h : DataW.trod enc Tryz.prog w 0 sp held fuel T [v] = some x) : ∃ L : List α, LsM (heapM w) v c size L ∧ (∀ a ∈ L, Q a (Rows.uptoBulk x.1)) ∧ L.length ≤ Rows.uptoBulk x.1 := by
 obtain ⟨k, X, D, rest, hS, _, hX, hD⟩ := trod_SlMD hT (by rw [tf.cells]; exact hs) h
 rw [tf.cells] at hS hX
 have hk : k ≤ Rows.uptoBulk x.1 := by
  rcases hD with h0 | h0
  ·omega
  ·rw [h0]
   have := bulk_len ((List.range k).map D)
   rw [List.length_map, List.length_range] at this
   simp only [Rows.uptoBulk]
   omega
 have hp : ∀ i, i < k → Rows.uptoBulk (D i) ≤ Rows.uptoBulk x.1 := fun i hi => by
  rcases hD with h0 | h0
  ·omega
  ·rw [h0]
   have := bulk_part (d := D i) (l := (List.range k).map D) (List.mem_map.2 ⟨i, List.mem_range.2 hi, rfl⟩)
   simp only [Rows.uptoBulk]
   omega
 have all : ∀ k', k' ≤ k → ∃ L : List α, L.length = k' ∧ (List.range k').flatMap X = L.flatMap c ∧ ∀ a ∈ L, Q a (Rows.uptoBulk x.1) ∧ (c a).length = size := by
  intro k'
  induction k' with
  | zero => intro _; exact ⟨[], rfl, rfl, by simp⟩
  | succ k' ih =>
   intro hk'
   obtain ⟨L, h1, h2, h3⟩ := ih (by omega)
   obtain ⟨hl, n, y, hy⟩ := hX k' (by omega)
   obtain ⟨a, ha, hq⟩ := one hy
   refine ⟨L ++ [a], by simp [h1], ?_, fun b hb => ?_⟩
   ·rw [List.range_succ, List.flatMap_append, h2, List.flatMap_append]
    simp [ha]
   ·rcases List.mem_append.1 hb with hb | hb
    ·exact h3 b hb
    ·rw [List.mem_singleton.1 hb]; exact ⟨hQ hq (hp k' (by omega)), by rw [← ha]; exact hl⟩
 obtain ⟨L, h1, h2, h3⟩ := all k (Nat.le_refl _)
 rw [h2] at hS
 subst h1
 exact ⟨L, ⟨hS, fun a ha => (h3 a ha).2⟩, fun a ha => (h3 a ha).1, hk⟩
theorem trod_segB {S f off F size bytes : Nat} {agg : Bool} {cs : List Value} (hf : FdOff Tryz.prog S f off F) (tf : TyF Tryz.prog F agg size bytes) (h : DataW.trod enc Tryz.prog w 0 sp held fuel S cs = some x) :
  ∃ n y, DataW.trod enc Tryz.prog w 0 sp held n F ((cs.drop off).take size) = some y ∧ Rows.uptoBulk y.1 ≤ Rows.uptoBulk x.1 := by
 obtain ⟨fs, fl, hS, hfl, rfl, rfl, _⟩ := hf
 obtain ⟨xs, n, hx1, hx2, _, hxl, hh⟩ := DataW.trod_struct hS h
 have hlt : f < fs.size := by
  rcases Nat.lt_or_ge f fs.size with h' | h'
  ·exact h'
  ·rw [Array.getElem?_eq_none h'] at hfl; cases hfl
 have e := hh f fl hfl
 rw [tf.cells, List.getElem?_eq_getElem (by omega)] at e
 refine ⟨n, _, e, ?_⟩
 rw [hx2]
 have := bulk_part (d := (xs[f]'(by omega)).1) (l := xs.map (·.1)) (List.mem_map.2 ⟨_, List.getElem_mem (by omega), rfl⟩)
 simp only [Rows.uptoBulk]
 omega
end
end Go.Proofs.YtladpaehbolghaaGreat

namespace Go.Proofs.YtladpaehbolghaaGreat
open Go Go.RowKit K
def New (w0 : World) (v : Value) : Prop := ∀ k, v.ownBlock = some k → w0.heap.size ≤ k
theorem New.nil {w0 : World} : New w0 (.slice none 0 0) := fun k h => by simp [Value.ownBlock] at h
theorem New.of {w0 : World} {b : Nat} {n c : Nat} (h : w0.heap.size ≤ b) : New w0 (.slice (some ⟨b, 0, none⟩) n c) := fun k hk => by
 simp only [Value.ownBlock, Option.some.injEq] at hk
 omega
section
variable {m0 m : Mem} {F : List Nat} {w0 w w' : World} {Es : List Ent}
theorem row_sl {v : Value} {e size n : Nat} {xs : List Value} (h : (rowE v e size n xs).holds w) : ∃ a c, v = .slice a n c := by
 rcases h.2 with ⟨rfl, rfl⟩ | ⟨g, cap, cur, rfl, _⟩ <;> exact ⟨_, _, rfl⟩
end
end Go.Proofs.YtladpaehbolghaaGreat

namespace Go.Proofs.YtladpaehbolghaaGreat
open Go Go.RowKit K
namespace K
def insKV {α β : Type} [DecidableEq α] (k : α) (v : β) : List (α × β) → List (α × β)
 | [] => [(k, v)]
 | x :: r => if x.1 = k then (k, v) :: r else x :: insKV k v r
def getKV {α β : Type} [DecidableEq α] (k : α) : List (α × β) → Option β
 | [] => none
 | x :: r => if x.1 = k then some x.2 else getKV k r
section pure
variable {α β : Type} [DecidableEq α]
theorem insKV_new {k : α} {v : β} : ∀ {L : List (α × β)}, (∀ x ∈ L, x.1 ≠ k) → insKV k v L = L ++ [(k, v)]
 | [], _ => rfl
 | x :: r, h => by
  rw [insKV, if_neg (h x (by simp)), insKV_new fun y hy => h y (by simp [hy])]; rfl
theorem insKV_set {k : α} {v : β} : ∀ {L : List (α × β)} {j : Nat} {u : β}, (L.map (·.1)).Nodup → L[j]? = some (k, u) → insKV k v L = L.set j (k, v)
 | [], _, _, _, h => by simp at h
 | x :: r, 0, u, _, h => by
  simp only [List.getElem?_cons_zero, Option.some.injEq] at h
  subst h
  simp [insKV]
 | x :: r, j + 1, u, hn, h => by
  rw [List.getElem?_cons_succ] at h
  rw [List.map_cons, List.nodup_cons] at hn
  have hne : x.1 ≠ k := fun e => hn.1 (e ▸ List.mem_map.2 ⟨_, List.mem_of_getElem? h, rfl⟩)
  rw [insKV, if_neg hne, insKV_set hn.2 h]; rfl
theorem getKV_none {k : α} : ∀ {L : List (α × β)}, (∀ x ∈ L, x.1 ≠ k) → getKV k L = none
 | [], _ => rfl
 | x :: r, h => by rw [getKV, if_neg (h x (by simp)), getKV_none fun y hy => h y (by simp [hy])]
theorem getKV_at {k : α} : ∀ {L : List (α × β)} {j : Nat} {u : β}, (L.map (·.1)).Nodup → L[j]? = some (k, u) → getKV k L = some u
 | [], _, _, _, h => by simp at h
 | x :: r, 0, u, _, h => by
  simp only [List.getElem?_cons_zero, Option.some.injEq] at h
  subst h
  simp [getKV]
 | x :: r, j + 1, u, hn, h => by
  rw [List.getElem?_cons_succ] at h
  rw [List.map_cons, List.nodup_cons] at hn
  have hne : x.1 ≠ k := fun e => hn.1 (e ▸ List.mem_map.2 ⟨_, List.mem_of_getElem? h, rfl⟩)
  rw [getKV, if_neg hne, getKV_at hn.2 h]
theorem getKV_mem {k : α} {v : β} : ∀ {L : List (α × β)}, getKV k L = some v → (k, v) ∈ L
 | [], h => by cases h
 | x :: r, h => by
  rw [getKV] at h
  split at h
  ·rename_i e; cases h; subst e; exact List.mem_cons_self
  ·exact List.mem_cons_of_mem _ (getKV_mem h)
theorem mem_insKV {k : α} {v : β} {y : α × β} : ∀ {L : List (α × β)}, y ∈ insKV k v L → y = (k, v) ∨ y ∈ L
 | [], h => by simp [insKV] at h; exact .inl h
 | x :: r, h => by
  rw [insKV] at h
  split at h
  ·exact (List.mem_cons.1 h).imp id fun h => List.mem_cons_of_mem _ h
  ·rcases List.mem_cons.1 h with h | h
   ·exact .inr (h ▸ List.mem_cons_self)
   ·exact (mem_insKV h).imp id fun h => List.mem_cons_of_mem _ h
theorem keys_insKV {k : α} {v : β} : ∀ {L : List (α × β)}, (insKV k v L).map (·.1) = L.map (·.1) ∨ ((insKV k v L).map (·.1) = L.map (·.1) ++ [k] ∧ k ∉ L.map (·.1))
 | [] => .inr (by simp [insKV])
 | x :: r => by
  rw [insKV]
  split
  ·rename_i e; left; simp [e]
  ·rename_i e
   rcases keys_insKV (k := k) (v := v) (L := r) with h | ⟨h, hn⟩
   ·left; simp [h]
   ·right
    refine ⟨by simp [h], ?_⟩
    simp only [List.map_cons, List.mem_cons, not_or]
    exact ⟨fun q => e q.symm, hn⟩
theorem nodup_insKV {k : α} {v : β} {L : List (α × β)} (h : (L.map (·.1)).Nodup) : ((insKV k v L).map (·.1)).Nodup := by
 rcases keys_insKV (k := k) (v := v) (L := L) with e | ⟨e, hn⟩
 ·rw [e]; exact h
 ·rw [e]
  exact List.nodup_append.2 ⟨h, by simp, fun a ha b hb => by
   rw [List.mem_singleton.1 hb]
   exact fun q => hn (q ▸ ha)⟩
end pure
structure KeyT (P : Program) (k : TypeId) {α : Type} (kv : α → Value) (ok : α → Prop) : Prop where
 law : Maps.Keyed P k
 lit : ∀ a, ok a → ∃ l, keyOf P k (kv a) = some l
 inj : ∀ a b, kv a = kv b → a = b
section
variable {α β : Type}
structure EsOk (kv : α → Value) (vv : β → Value) (es : Array MapEntry) (clock : Nat) (L : List (α × β)) : Prop where
 list : es.toList.map (fun e => (e.key, e.val)) = L.map fun x => (kv x.1, vv x.2)
 stamped : MapKept.Stamped es clock
 nodup : (L.map (·.1)).Nodup
def mapE (kv : α → Value) (vv : β → Value) (b : Nat) (L : List (α × β)) : Ent where
 foot := [b]
 holds := fun w => ∃ es clock, w.heap[b]? = some (.map es clock) ∧ EsOk kv vv es clock L
 keep := fun h hw => by rw [h b (by simp)]; exact hw
 live := fun h k hk => by obtain ⟨_, _, h, _⟩ := h; simp at hk; subst hk; exact lt_of_get h
def MapM (m : Mem) (kv : α → Value) (vv : β → Value) (b : Nat) (L : List (α × β)) : Prop := ∃ es clock, m b = some (.map es clock) ∧ EsOk kv vv es clock L
theorem MapM.mono {m m' : Mem} {kv : α → Value} {vv : β → Value} {b : Nat} {L : List (α × β)} (h : MapM m kv vv b L) (hm : ∀ k o, m k = some o → m' k = some o) : MapM m' kv vv b L := by
 obtain ⟨es, c, h1, h2⟩ := h
 exact ⟨es, c, hm _ _ h1, h2⟩
variable {P : Program} {w : World} {kv : α → Value} {vv : β → Value} {es : Array MapEntry} {clock b : Nat} {L : List (α × β)} {KT VT T : TypeId} {ok : α → Prop}
theorem EsOk.keys (h : EsOk kv vv es clock L) (K : KeyT P KT kv ok) (hok : ∀ x ∈ L, ok x.1) : ∀ e ∈ es.toList, ∃ l, keyOf P KT e.key = some l := fun e he => by
 have h1 : (e.key, e.val) ∈ L.map fun x => (kv x.1, vv x.2) := h.list ▸ List.mem_map.2 ⟨e, he, rfl⟩
 obtain ⟨x, hx, h2⟩ := List.mem_map.1 h1
 obtain ⟨l, hl⟩ := K.lit x.1 (hok x hx)
 exact ⟨l, by rw [← (Prod.mk.inj h2).1]; exact hl⟩
theorem EsOk.at (h : EsOk kv vv es clock L) (K : KeyT P KT kv ok) {j : Nat} {e : MapEntry} {k : α} (hj : es[j]? = some e) (hk : e.key = kv k) : ∃ u, L[j]? = some (k, u) ∧ e.val = vv u := by
 have h1 : (es.toList.map (fun e => (e.key, e.val)))[j]? = some (e.key, e.val) := by
  rw [List.getElem?_map, Array.getElem?_toList, hj]; rfl
 rw [h.list, List.getElem?_map] at h1
 cases hL : L[j]? with
 | none => rw [hL] at h1; cases h1
 | some x =>
  rw [hL] at h1
  simp only [Option.map_some, Option.some.injEq, Prod.mk.injEq] at h1
  obtain rfl := K.inj _ _ (h1.1.trans hk)
  exact ⟨x.2, rfl, h1.2.symm⟩
theorem EsOk.off (h : EsOk kv vv es clock L) {k : α} (hn : ∀ e ∈ es.toList, e.key ≠ kv k) : ∀ x ∈ L, x.1 ≠ k := fun x hx e => by
 have h1 : (kv x.1, vv x.2) ∈ es.toList.map (fun e => (e.key, e.val)) := h.list ▸ List.mem_map.2 ⟨x, hx, rfl⟩
 obtain ⟨y, hy, h2⟩ := List.mem_map.1 h1
 cases e
 exact hn y hy (Prod.mk.inj h2).1
theorem run_mapPut [DecidableEq α] (h : EsOk kv vv es clock L) (K : KeyT P KT kv ok) (hT : P.underlying T = some (.map KT VT)) (hok : ∀ x ∈ L, ok x.1) {k : α} {v : β} (hk : ok k) (hb : w.heap[b]? = some (.map es clock)) :
  ∃ es' clock', (Instr.mapUpdate T (.map (some b)) (kv k) (vv v)).run P w = .ok () (w.putObj b (.map es' clock')) ∧ EsOk kv vv es' clock' (insKV k v L) := by
 obtain ⟨l, hl⟩ := K.lit k hk
 have hq : ∀ o, (setObj b o).run P w = .ok () (w.putObj b o) := fun o => MapKept.run_setObj_map o hb
 rcases K.law.find w hl es.toList (h.keys K hok) with ⟨h1, h2⟩ | ⟨j, e0, h1, h2, h3⟩
 ·refine ⟨es.push { key := kv k, val := vv v, born := clock }, clock + 1, ?_, ?_, MapKept.stamped_push h.stamped h2, nodup_insKV h.nodup⟩
  ·simp [Instr.mapUpdate, run_underlying hT, MapKept.run_getObj_map hb, K.law.check w false hl, h1, hq, Result.andThen]
  ·rw [insKV_new (h.off h2)]
   simp [h.list]
 ·have hj : es[j]? = some e0 := by rw [← Array.getElem?_toList]; exact h2
  obtain ⟨u, hu, _⟩ := h.at K hj h3
  refine ⟨es.modify j (fun e' => { e' with key := kv k, val := vv v }), clock, ?_, ?_, MapKept.stamped_modify h.stamped _ _ (fun _ _ => rfl) (fun e' _ he' => by rw [hj] at he'; cases he'; exact h3.symm), nodup_insKV h.nodup⟩
  ·simp [Instr.mapUpdate, run_underlying hT, MapKept.run_getObj_map hb, K.law.check w false hl, h1, hj, h3, K.law.stays w hl, hq, Result.andThen]
  ·rw [insKV_set h.nodup hu]
   refine List.ext_getElem? fun i => ?_
   have h4 := congrArg (fun l : List (Value × Value) => l[i]?) h.list
   simp only [List.getElem?_map, Array.getElem?_toList] at h4
   simp only [List.getElem?_map, Array.getElem?_toList, Array.getElem?_modify, List.getElem?_set]
   by_cases hij : j = i
   ·subst hij
    have hlt : j < L.length := (List.getElem?_eq_some_iff.1 hu).1
    simp [hj, hlt]
   ·simp only [hij, if_false]
    exact h4
theorem run_mapGet [DecidableEq α] (h : EsOk kv vv es clock L) (K : KeyT P KT kv ok) (hT : P.underlying T = some (.map KT VT)) {z : Value} (hz : TyZ P VT z) (hok : ∀ x ∈ L, ok x.1) {k : α} (hk : ok k) (hb : w.heap[b]? = some (.map es clock)) (c : Bool) :
  (Instr.lookup T (.map (some b)) (kv k) c).run P w = .ok (if c then .tuple #[((getKV k L).map vv).getD z, .bool (getKV k L).isSome] else ((getKV k L).map vv).getD z) w := by
 obtain ⟨l, hl⟩ := K.lit k hk
 rcases K.law.find w hl es.toList (h.keys K hok) with ⟨h1, h2⟩ | ⟨j, e0, h1, h2, h3⟩
 ·rw [getKV_none (h.off h2)]
  simp [Instr.lookup, run_underlying hT, MapKept.run_getObj_map hb, K.law.check w _ hl, h1, hz.run, Result.andThen]
 ·have hj : es[j]? = some e0 := by rw [← Array.getElem?_toList]; exact h2
  obtain ⟨u, hu, hv⟩ := h.at K hj h3
  rw [getKV_at h.nodup hu]
  simp [Instr.lookup, run_underlying hT, MapKept.run_getObj_map hb, K.law.check w _ hl, h1, hv, Result.andThen]
variable {n : Nat} {ops : Array Oper} {Q : Po} {rest : List Oper} {r : Fr} {d : Nat} {ty : TypeId} {pos : String} {after : Array Edge} {m0 m : Mem} {F : List Nat} {w0 : World} {Es : List Ent}
theorem wl_makeMap (kv : α → Value) (vv : β → Value) (st : St m0 m F w0 w Es) (hd : Nat.blt d n = true)
  (k : ∀ b w', w0.heap.size ≤ b → St m0 m F w0 w' (mapE kv vv b [] :: Es) → WL P n ops Q rest (upd d (.map (some b)) r) w') :
  WL P n ops Q (⟨some d, .makeMap T none, ty, pos, after, none⟩ :: rest) r w := by
 refine wl_val (v := .map (some w.heap.size)) (w' := w.alloc (.map #[] 0)) ?_ hd (k _ _ st.touch.size (st.new (E := mapE kv vv w.heap.size []) (touch_alloc w _) ⟨#[], 0, World.alloc_heap_new w _, rfl, MapKept.stamped_empty 0, by simp⟩))
 intro _ _ _ _
 rfl
theorem wl_mapPut [DecidableEq α] (i : Nat) {x y z : Operand} {kk : α} {v : β} (st : St m0 m F w0 w Es) (hi : Es[i]? = some (mapE kv vv b L)) (K : KeyT P KT kv ok) (hT : P.underlying T = some (.map KT VT)) (hok : ∀ x ∈ L, ok x.1) (hk : ok kk)
  (hx : ev r x = .map (some b)) (hy : ev r y = kv kk) (hz : ev r z = vv v) (k : ∀ w', St m0 m F w0 w' (Es.set i (mapE kv vv b (insKV kk v L))) → WL P n ops Q rest r w') :
  WL P n ops Q (⟨none, .mapUpdate T x y z, ty, pos, after, none⟩ :: rest) r w := by
 obtain ⟨es, c, hb, he⟩ := st.at hi
 obtain ⟨es', c', h1, h2⟩ := run_mapPut he K hT hok (v := v) hk hb
 refine wl_eff (w' := w.putObj b (.map es' c')) ?_ (k _ (st.step i hi (touch_putObj w b _) ⟨es', c', World.putObj_heap_same (lt_of_get hb), h2⟩))
 intro _ _ _ _
 simp [execOp, hx, hy, hz, h1]
end
end K
end Go.Proofs.YtladpaehbolghaaGreat

namespace Go.Proofs.YtladpaehbolghaaGreat
open Go Go.RowKit K
def objE (b : Nat) (o : Obj) : Ent where
 foot := [b]
 holds := fun w => w.heap[b]? = some o
 keep := fun h hw => by rw [h b (by simp)]; exact hw
 live := fun h k hk => by simp at hk; subst hk; exact lt_of_get h
section
variable {m0 m : Mem} {F : List Nat} {w0 w : World} {Es : List Ent}
theorem K.St.freezeO (h : St m0 m F w0 w Es) {i b : Nat} {ob : Obj} (hi : Es[i]? = some (objE b ob)) (hb : b ∉ F) :
  ∃ m', Grow m m' w0.heap.size ∧ m' b = some ob ∧ St m0 m' F w0 w (Es.eraseIdx i) := by
 have hmem := List.mem_of_getElem? hi
 have ho := h.own _ hmem b (by simp [objE])
 have hB : w0.heap.size ≤ b := ho.2.resolve_right hb
 have hg : Grow m (fun k => if k = b then some ob else m k) w0.heap.size := by
  refine ⟨fun k o hk => ?_, fun k o hk => ?_⟩
  ·have : k ≠ b := fun e => by rw [e, ho.1] at hk; cases hk
   simp [this, hk]
  ·by_cases hkb : k = b
   ·exact .inr (hkb ▸ hB)
   ·simp [hkb] at hk; exact .inl hk
 refine ⟨_, hg, by simp, ⟨h.touch, h.grow.trans hg (Nat.le_refl _), ?_, (h.drop i).holds, (h.drop i).sep, ?_⟩⟩
 ·intro k o hk
  by_cases hkb : k = b
  ·subst hkb
   simp at hk
   rw [← hk]
   exact h.at hi
  ·simp [hkb] at hk; exact h.im k o hk
 ·intro E hE k hk
  have hE' := List.mem_of_mem_eraseIdx hE
  refine ⟨?_, (h.own E hE' k hk).2⟩
  have hne : k ≠ b := by
   intro e
   subst e
   have hlt : i < Es.length := by
    rcases Nat.lt_or_ge i Es.length with h' | h'
    ·exact h'
    ·rw [List.getElem?_eq_none h'] at hi; cases hi
   have hget : Es[i] = objE k ob := by rw [List.getElem?_eq_getElem hlt] at hi; exact Option.some.inj hi
   obtain ⟨j, hj, hje⟩ := List.getElem_of_mem hE
   rw [List.getElem_eraseIdx] at hje
   have hpw := List.pairwise_iff_getElem.1 h.sep
   split at hje
   ·rename_i hji
    have hj' : j < Es.length := by omega
    exact hpw j i hj' hlt hji k (by rw [hje]; exact hk) (by rw [hget]; simp [objE])
   ·rename_i hji
    have hj' : j + 1 < Es.length := by rw [List.length_eraseIdx] at hj; split at hj <;> omega
    exact hpw i (j + 1) hlt hj' (by omega) k (by rw [hget]; simp [objE]) (by rw [hje]; exact hk)
  simp [hne, (h.own E hE' k hk).1]
theorem K.St.thaw (h : St m0 m F w0 w Es) {b : Nat} {c : Array Value} {t : TypeId} (hb : m b = some (.cells c t (0, 0))) (h0 : m0 b = Option.none) (hB : w0.heap.size ≤ b) :
  St m0 (fun k => if k = b then Option.none else m k) F w0 w (blk b c t :: Es) := by
 refine ⟨h.touch, ⟨fun k o hk => ?_, fun k o hk => ?_⟩, fun k o hk => ?_, fun E hE => ?_, ?_, fun E hE k hk => ?_⟩
 ·have : k ≠ b := fun e => by rw [e, h0] at hk; cases hk
  simp [this, h.grow.le k o hk]
 ·by_cases e : k = b
  ·simp [e] at hk
  ·simp [e] at hk; exact h.grow.new k o hk
 ·by_cases e : k = b
  ·simp [e] at hk
  ·simp [e] at hk; exact h.im k o hk
 ·rcases List.mem_cons.1 hE with rfl | hE
  ·exact h.im _ _ hb
  ·exact h.holds E hE
 ·refine List.pairwise_cons.2 ⟨fun E hE k hk hk' => ?_, h.sep⟩
  simp [blk] at hk
  subst hk
  have := (h.own E hE k hk').1
  rw [hb] at this
  cases this
 ·rcases List.mem_cons.1 hE with rfl | hE
  ·simp [blk] at hk
   subst hk
   exact ⟨by simp, .inl hB⟩
  ·refine ⟨?_, (h.own E hE k hk).2⟩
   have := (h.own E hE k hk).1
   simp [this]
end
section
variable {P : Program} {n : Nat} {ops : Array Oper} {Q : Po} {rest : List Oper} {r : Fr} {w : World} {d : Nat} {ty : TypeId} {pos : String} {after : Array Edge} {m0 m : Mem} {F : List Nat} {w0 : World} {Es : List Ent}
theorem wl_constB {T E b l c : Nat} {C : Array Value} {x : Operand} (hT : P.underlying T = some (.slice E)) (hE : P.underlying E = some (.int .u8)) (hx : ev r x = .slice (some ⟨b, 0, none⟩) l c) (st : St m0 m F w0 w (blk b C E :: Es)) (hF : b ∉ F) (hd : Nat.blt d n = true)
  (k : ∀ m' w', (∀ k o, m k = some o → m' k = some o) → m' b = some (.cells C E (C.size, C.size + 1)) → St m0 m' F w0 w' Es → WL P n ops Q rest (upd d (.slice (some ⟨b, 0, none⟩) l c) r) w') :
  WL P n ops Q (⟨some d, .convert T T x, ty, pos, after, none⟩ :: rest) r w := by
 have hb : w.heap[b]? = some (.cells C E (0, 0)) := st.at (i := 0) rfl
 have hlt : b < w.heap.size := lt_of_get hb
 have hsh : w.shape? b = some (E, C.size) := by unfold World.shape?; rw [hb]
 have hrun : (convert T T (.slice (some ⟨b, 0, none⟩) l c)).run P w = .ok (.slice (some ⟨b, 0, none⟩) l c) (w.freeze ⟨b, C.size, none⟩ 1) := by
  simp [convert, run_underlying hT, run_underlying hE, markStringish, hsh]
 have hnb : (w.freeze ⟨b, C.size, none⟩ 1).heap[b]? = some (.cells C E (C.size, C.size + 1)) := by
  unfold World.freeze
  rw [if_neg (by decide)]
  show (w.heap.modify b _)[b]? = _
  rw [Array.getElem?_modify, if_pos rfl, hb]
  rfl
 have ht : Tch w (w.freeze ⟨b, C.size, none⟩ 1) [b] [b] := by
  refine ⟨?_, ?_, ?_, ?_, fun k hk hkb => ?_, fun _ h => .inl h⟩
  ·unfold World.freeze; rw [if_neg (by decide)]
  ·unfold World.freeze; rw [if_neg (by decide)]
  ·unfold World.freeze; rw [if_neg (by decide)]
  ·unfold World.freeze
   rw [if_neg (by decide)]
   show w.heap.size ≤ (w.heap.modify b _).size
   simp
  ·unfold World.freeze
   rw [if_neg (by decide)]
   show (w.heap.modify b _)[k]? = _
   rw [Array.getElem?_modify, if_neg (fun e => hkb (by simp [e]))]
 have st1 := st.step (E' := objE b (.cells C E (C.size, C.size + 1))) 0 rfl ht hnb
 obtain ⟨m', hg, hm, st2⟩ := K.St.freezeO st1 (i := 0) rfl hF
 refine wl_val (v := .slice (some ⟨b, 0, none⟩) l c) (w' := w.freeze ⟨b, C.size, none⟩ 1) ?_ hd (k m' _ hg.le hm st2)
 intro _ _ _ _
 simp only [execOp, hx, Sem.run_bind, hrun, Result.andThen_ok, Sem.run_pure]
end
end Go.Proofs.YtladpaehbolghaaGreat

namespace Go.Proofs.YtladpaehbolghaaGreat
open Go Go.RowKit K
namespace K
section
variable {α β : Type}
def iterE (kv : α → Value) (vv : β → Value) (es : Array MapEntry) (clock b r : Nat) (L : List (α × β)) : Ent where
 foot := [r]
 holds := fun w => ∃ since seen c0, w.heap[r]? = some (.mapIter (some b) since seen c0) ∧ (∀ x ∈ es.toList, x.born < since) ∧ since ≤ c0 ∧ since ≤ clock ∧ (leftOf es seen).toList.map (fun e => (e.key, e.val)) = L.map fun x => (kv x.1, vv x.2)
 keep := fun h hw => by rw [h r (by simp)]; exact hw
 live := fun h k hk => by obtain ⟨_, _, _, h, _⟩ := h; simp at hk; subst hk; exact lt_of_get h
variable {P : Program} {w : World} {kv : α → Value} {vv : β → Value} {es : Array MapEntry} {clock b rb : Nat} {L M : List (α × β)} {KT VT T : TypeId}
variable {n : Nat} {ops : Array Oper} {Q : Po} {rest : List Oper} {r : Fr} {d : Nat} {ty : TypeId} {pos : String} {after : Array Edge} {m0 m : Mem} {F : List Nat} {w0 : World} {Es : List Ent}
theorem wl_range {x : Operand} (st : St m0 m F w0 w Es) (hbw : w.heap[b]? = some (.map es clock)) (he : EsOk kv vv es clock L) (hT : P.underlying T = some (.map KT VT)) (hx : ev r x = .map (some b)) (hd : Nat.blt d n = true)
  (k : ∀ g w', w0.heap.size ≤ g → St m0 m F w0 w' (iterE kv vv es clock b g L :: Es) → WL P n ops Q rest (upd d (.pointer (some ⟨g, 0, none⟩)) r) w') :
  WL P n ops Q (⟨some d, .range T x, ty, pos, after, none⟩ :: rest) r w := by
 refine wl_val (v := .pointer (some ⟨w.heap.size, 0, none⟩)) (w' := w.alloc (.mapIter (some b) clock #[] clock)) ?_ hd (k _ _ st.touch.size (st.new (E := iterE kv vv es clock b w.heap.size L) (touch_alloc w _) ⟨clock, #[], clock, World.alloc_heap_new w _, he.stamped.1, Nat.le_refl _, Nat.le_refl _, ?_⟩))
 ·intro _ _ _ _
  simp [execOp, hx, run_range_map w T KT VT b es clock hT hbw]
 ·rw [← he.list]; congr 1; unfold leftOf; rw [Array.toList_filter]; exact List.filter_eq_self.2 fun x _ => by simp
theorem left_push {es : Array MapEntry} {seen : Array Nat} {e : MapEntry} (hn : (es.toList.map (·.born)).Nodup) {l1 l2 : List MapEntry} (h : (leftOf es seen).toList = l1 ++ e :: l2) : (leftOf es (seen.push e.born)).toList = l1 ++ l2 := by
 have h1 : (leftOf es (seen.push e.born)).toList = (leftOf es seen).toList.filter (fun x => !(x.born == e.born)) := by
  unfold leftOf
  rw [Array.toList_filter, Array.toList_filter, List.filter_filter]
  refine List.filter_congr fun x _ => ?_
  rw [contains_push]
  cases seen.contains x.born <;> cases (x.born == e.born) <;> rfl
 have hs : ((leftOf es seen).toList.map (·.born)).Nodup := by
  have : (leftOf es seen).toList.Sublist es.toList := by unfold leftOf; rw [Array.toList_filter]; exact List.filter_sublist
  exact hn.sublist (this.map _)
 rw [h] at hs
 rw [List.map_append, List.map_cons, List.nodup_append] at hs
 obtain ⟨_, hs2, hs3⟩ := hs
 rw [List.nodup_cons] at hs2
 rw [h1, h, List.filter_append, List.filter_cons]
 have a1 : l1.filter (fun x => !(x.born == e.born)) = l1 := List.filter_eq_self.2 fun x hx => by
  have := hs3 x.born (List.mem_map.2 ⟨x, hx, rfl⟩) e.born (by simp)
  simp [this]
 have a2 : l2.filter (fun x => !(x.born == e.born)) = l2 := List.filter_eq_self.2 fun x hx => by
  have : x.born ≠ e.born := fun q => hs2.1 (q ▸ List.mem_map.2 ⟨x, hx, rfl⟩)
  simp [this]
 rw [a1, a2]
 simp
theorem next_or {ty : TypeId} (i : Nat) (st : St m0 m F w0 w Es) (hi : Es[i]? = some (iterE kv vv es clock b rb M)) (hbw : w.heap[b]? = some (.map es clock)) (he : EsOk kv vv es clock L) :
  (M = [] ∧ (Instr.next (.pointer (some ⟨rb, 0, none⟩)) false ty).run P w = .ok (.tuple #[.bool false]) w) ∨
  ∃ p1 y p2 w', M = p1 ++ y :: p2 ∧ St m0 m F w0 w' (Es.set i (iterE kv vv es clock b rb (p1 ++ p2))) ∧ (Instr.entry (.pointer (some ⟨rb, 0, none⟩))).run P w' = .ok (.tuple #[kv y.1, vv y.2]) w' ∧ (Instr.next (.pointer (some ⟨rb, 0, none⟩)) false ty).run P w = .ok (.tuple #[.bool true, kv y.1, vv y.2]) w' ∧ w'.heap[b]? = some (.map es clock) := by
 obtain ⟨since, seen, c0, hr, hold, hsc, hsk, hl⟩ := st.at hi
 have hst := he.stamped
 rcases run_next_at (P := P) w ty rb b since c0 seen es clock hr hbw hold hsc with ⟨h0, hrun⟩ | ⟨e, hel, w1, hw1, hrun⟩
 ·refine .inl ⟨?_, hrun⟩
  have : (leftOf es seen).toList = [] := List.eq_nil_of_length_eq_zero (by simpa using h0)
  rw [this] at hl
  exact List.map_eq_nil_iff.1 hl.symm
 ·obtain ⟨l1, l2, hsp⟩ := List.append_of_mem hel
  have hl' := hl
  rw [hsp, List.map_append, List.map_cons] at hl'
  obtain ⟨p1, p', hM, e1, e2⟩ := List.map_eq_append_iff.1 hl'.symm
  obtain ⟨y, p2, hp', e3, e4⟩ := List.map_eq_cons_iff.1 e2
  subst hp'
  obtain ⟨q1, q2⟩ := Prod.mk.inj e3
  have hem : e ∈ es.toList := (mem_left hel).1
  have hlt : rb < w1.heap.size := by rcases hw1 with rfl | rfl <;> exact lt_of_get hr
  have t1 : Tch w w1 [] [] := by rcases hw1 with rfl | rfl; exact Tch.refl _ _; exact touch_drew w
  have hset : (ChangeMaps.setBlock w1 rb (.mapIter (some b) since (seen.push e.born) clock)).heap[rb]? = some (.mapIter (some b) since (seen.push e.born) clock) := World.putObj_heap_same hlt
  have st1 := st.pure t1
  have st2 := st1.step (E' := iterE kv vv es clock b rb (p1 ++ p2)) i hi (touch_putObj w1 rb (.mapIter (some b) since (seen.push e.born) clock)) ⟨since, seen.push e.born, clock, hset, hold, hsk, hsk, by rw [left_push hst.2.1 hsp, List.map_append, List.map_append, e1, e4]⟩
  have hne : b ∉ (iterE kv vv es clock b rb M).foot := fun h => by rw [List.mem_singleton.1 h, hr] at hbw; cases hbw
  have hb2 : (ChangeMaps.setBlock w1 rb (.mapIter (some b) since (seen.push e.born) clock)).heap[b]? = some (.map es clock) := by
   have h1 := t1.block b (lt_of_get hbw) (by simp)
   exact ((touch_putObj w1 rb (.mapIter (some b) since (seen.push e.born) clock)).block b (lt_of_get (h1.trans hbw)) hne).trans (h1.trans hbw)
  have hent := run_entry_at (P := P) _ rb b since seen es clock e hset hb2 hem hst.2.1
  rw [← q1, ← q2] at hent hrun
  exact .inr ⟨p1, y, p2, _, hM, st2, hent, hrun, hb2⟩
theorem v_next {x : Operand} {v : Value} {w' : World} (h : (Instr.next (.pointer (some ⟨rb, 0, none⟩)) false ty).run P w = .ok v w') (hx : ev r x = .pointer (some ⟨rb, 0, none⟩)) : Val P (.next x false) ty r w v w' := by
 intro _ _ _ _
 simp [execOp, hx, h]
theorem v_entry {x : Operand} {v : Value} (h : (Instr.entry (.pointer (some ⟨rb, 0, none⟩))).run P w = .ok v w) (hx : ev r x = .pointer (some ⟨rb, 0, none⟩)) : Val P (.entry x) ty r w v w := by
 intro _ _ _ _
 simp [execOp, hx, h]
end
end K
end Go.Proofs.YtladpaehbolghaaGreat

namespace Go.Proofs.YtladpaehbolghaaGreat
open Go Go.RowKit K
namespace K
def delKV {α β : Type} [DecidableEq α] (k : α) (L : List (α × β)) : List (α × β) := L.filter fun x => decide (x.1 ≠ k)
section pure
variable {α β : Type} [DecidableEq α]
theorem nodup_delKV {k : α} {L : List (α × β)} (h : (L.map (·.1)).Nodup) : ((delKV k L).map (·.1)).Nodup := h.sublist (List.filter_sublist.map _)
theorem delKV_off {k : α} {L : List (α × β)} (h : ∀ x ∈ L, x.1 ≠ k) : delKV k L = L := List.filter_eq_self.2 fun x hx => by simpa using h x hx
theorem delKV_at {k : α} : ∀ {L : List (α × β)} {j : Nat} {u : β}, (L.map (·.1)).Nodup → L[j]? = some (k, u) → delKV k L = L.eraseIdx j
 | [], _, _, _, h => by simp at h
 | x :: r, 0, u, hn, h => by
  simp only [List.getElem?_cons_zero, Option.some.injEq] at h
  subst h
  rw [List.map_cons, List.nodup_cons] at hn
  unfold delKV
  rw [List.filter_cons, if_neg (by simp)]
  exact delKV_off fun y hy e => hn.1 (List.mem_map.2 ⟨y, hy, e⟩)
 | x :: r, j + 1, u, hn, h => by
  rw [List.getElem?_cons_succ] at h
  rw [List.map_cons, List.nodup_cons] at hn
  have hne : x.1 ≠ k := fun e => hn.1 (e ▸ List.mem_map.2 ⟨_, List.mem_of_getElem? h, rfl⟩)
  have ih := delKV_at hn.2 h
  unfold delKV at ih ⊢
  rw [List.filter_cons, if_pos (by simpa using hne), ih]
  rfl
theorem mem_getKV {k : α} {v : β} {L : List (α × β)} (hn : (L.map (·.1)).Nodup) : (k, v) ∈ L ↔ getKV k L = some v := by
 constructor
 ·intro h
  obtain ⟨j, hj, e⟩ := List.getElem_of_mem h
  exact getKV_at hn (j := j) (by rw [List.getElem?_eq_getElem hj, e])
 ·exact getKV_mem
end pure
abbrev strV (s : List UInt8) : Value := .string (strB s)
theorem str_keyT {P : Program} {k : TypeId} (hT : P.underlying k = some .string) : KeyT P k strV fun s => s.length ≤ 9223372036854775807 where
 law := Maps.string_keyed hT
 inj := fun a b h => by
  simp only [Value.string.injEq, strB, ByteArray.mk.injEq] at h
  simpa using congrArg Array.toList h
 lit := fun s hs => ⟨_, by
  unfold keyOf
  rw [hT]
  show mapKey P k (.string (strB s)) = _
  unfold mapKey
  rw [hT]
  show (if (strB s).size ≤ maxLen then _ else _) = _
  rw [if_pos (by show s.toArray.size ≤ maxLen; unfold maxLen; simpa using hs)]⟩
section
variable {α β : Type} {P : Program} {w : World} {kv : α → Value} {vv : β → Value} {es : Array MapEntry} {clock b : Nat} {L : List (α × β)} {KT VT T : TypeId} {ok : α → Prop}
variable {n : Nat} {ops : Array Oper} {Q : Po} {rest : List Oper} {r : Fr} {d : Nat} {ty : TypeId} {pos : String} {after : Array Edge} {m0 m : Mem} {F : List Nat} {w0 : World} {Es : List Ent}
theorem run_mapDel [DecidableEq α] (h : EsOk kv vv es clock L) (K : KeyT P KT kv ok) (hT : P.underlying T = some (.map KT VT)) (hok : ∀ x ∈ L, ok x.1) {k : α} (hk : ok k) (hb : w.heap[b]? = some (.map es clock)) :
  ∃ es', (Builtin.delete_ #[T, KT] ty #[.map (some b), kv k]).run P w = .ok (.tuple #[]) (w.putObj b (.map es' clock)) ∧ EsOk kv vv es' clock (delKV k L) := by
 obtain ⟨l, hl⟩ := K.lit k hk
 have hq : ∀ o, (setObj b o).run P w = .ok () (w.putObj b o) := fun o => MapKept.run_setObj_map o hb
 rcases K.law.find w hl es.toList (h.keys K hok) with ⟨h1, h2⟩ | ⟨j, e0, h1, h2, h3⟩
 ·refine ⟨es, ?_, by rw [delKV_off (h.off h2)]; exact h⟩
  simp [Builtin.delete_, run_underlying hT, MapKept.run_getObj_map hb, K.law.check w _ hl, h1, hq, Result.andThen]
 ·have hj : es[j]? = some e0 := by rw [← Array.getElem?_toList]; exact h2
  obtain ⟨u, hu, _⟩ := h.at K hj h3
  have hjs : j < es.size := (Array.getElem?_eq_some_iff.1 hj).1
  refine ⟨es.eraseIdxIfInBounds j, ?_, ?_, MapKept.stamped_erase h.stamped j, nodup_delKV h.nodup⟩
  ·simp [Builtin.delete_, run_underlying hT, MapKept.run_getObj_map hb, K.law.check w _ hl, h1, hq, Result.andThen]
  ·have hsub : (es.eraseIdxIfInBounds j).toList = es.toList.eraseIdx j := by
    unfold Array.eraseIdxIfInBounds
    rw [dif_pos hjs]
    simp
   have em : ∀ {A B : Type} (f : A → B) (l : List A) (j : Nat), (l.eraseIdx j).map f = (l.map f).eraseIdx j := fun f l j => by
    rw [List.eraseIdx_eq_take_drop_succ, List.eraseIdx_eq_take_drop_succ, List.map_append, List.map_take, List.map_drop]
   rw [hsub, delKV_at h.nodup hu, em, em, h.list]
theorem wl_val0 {op : Op} {v : Value} {w' : World} (h : Val P op ty r w v w') (k : WL P n ops Q rest r w') : WL P n ops Q (⟨none, op, ty, pos, after, none⟩ :: rest) r w := by
 intro ds a ha
 refine wpList_plain rfl fun K hK => ?_
 unfold Oper.wp
 rw [ha.eval, h none pos after none, Oper.upon_value]
 exact hK _ _ (k ds _ ha)
theorem wl_mapDel [DecidableEq α] (i : Nat) {x y : Operand} {kk : α} (st : St m0 m F w0 w Es) (hi : Es[i]? = some (mapE kv vv b L)) (K : KeyT P KT kv ok) (hT : P.underlying T = some (.map KT VT)) (hok : ∀ x ∈ L, ok x.1) (hk : ok kk)
  (hx : ev r x = .map (some b)) (hy : ev r y = kv kk) (k : ∀ w', St m0 m F w0 w' (Es.set i (mapE kv vv b (delKV kk L))) → WL P n ops Q rest r w') :
  WL P n ops Q (⟨none, .call ⟨.builtin .delete, #[x, y], #[T, KT]⟩, ty, pos, after, none⟩ :: rest) r w := by
 obtain ⟨es, c, hb, he⟩ := st.at hi
 obtain ⟨es', h1, h2⟩ := run_mapDel (ty := ty) he K hT hok hk hb
 refine wl_val0 (v := .tuple #[]) (w' := w.putObj b (.map es' c)) ?_ (k _ (st.step i hi (touch_putObj w b _) ⟨es', c, World.putObj_heap_same (lt_of_get hb), h2⟩))
 intro _ _ _ _
 simp [execOp, resolve, invoke, builtin, hx, hy, h1, Result.andThen]
theorem v_mapGetO [DecidableEq α] (i : Nat) {x y : Operand} {kk : α} {z : Value} (st : St m0 m F w0 w Es) (hi : Es[i]? = some (mapE kv vv b L)) (K : KeyT P KT kv ok) (hT : P.underlying T = some (.map KT VT)) (hz : TyZ P VT z) (hok : ∀ x ∈ L, ok x.1) (hk : ok kk) (hx : ev r x = .map (some b)) (hy : ev r y = kv kk) (c : Bool) :
  Val P (.lookup T x y c) ty r w (if c then .tuple #[((getKV kk L).map vv).getD z, .bool (getKV kk L).isSome] else ((getKV kk L).map vv).getD z) w := by
 obtain ⟨es, cl, hb, he⟩ := st.at hi
 intro _ _ _ _
 simp [execOp, hx, hy, run_mapGet he K hT hz hok hk hb c]
theorem v_mapGetH [DecidableEq α] {x y : Operand} {kk : α} {z : Value} (hb : w.heap[b]? = some (.map es clock)) (he : EsOk kv vv es clock L) (K : KeyT P KT kv ok) (hT : P.underlying T = some (.map KT VT)) (hz : TyZ P VT z) (hok : ∀ x ∈ L, ok x.1) (hk : ok kk) (hx : ev r x = .map (some b)) (hy : ev r y = kv kk) (c : Bool) :
  Val P (.lookup T x y c) ty r w (if c then .tuple #[((getKV kk L).map vv).getD z, .bool (getKV kk L).isSome] else ((getKV kk L).map vv).getD z) w := by
 intro _ _ _ _
 simp [execOp, hx, hy, run_mapGet he K hT hz hok hk hb c]
theorem St.mapFix (st : St m0 m F w0 w Es) (i : Nat) (hi : Es[i]? = some (mapE kv vv b L)) : ∃ es clock, EsOk kv vv es clock L ∧ St m0 m F w0 w (Es.set i (objE b (.map es clock))) := by
 obtain ⟨es, c, hb, he⟩ := st.at hi
 exact ⟨es, c, he, st.step i hi ⟨rfl, rfl, rfl, Nat.le_refl _, fun _ _ _ => rfl, fun _ h => .inl h⟩ hb⟩
theorem St.mapLoose (st : St m0 m F w0 w Es) (i : Nat) (hi : Es[i]? = some (objE b (.map es clock))) (he : EsOk kv vv es clock L) : St m0 m F w0 w (Es.set i (mapE kv vv b L)) :=
 st.step i hi ⟨rfl, rfl, rfl, Nat.le_refl _, fun _ _ _ => rfl, fun _ h => .inl h⟩ ⟨es, clock, st.at hi, he⟩
theorem EsOk.size (h : EsOk kv vv es clock L) : es.size = L.length := by
 have := congrArg List.length h.list
 simpa using this
theorem v_mapLen (i : Nat) {x : Operand} (st : St m0 m F w0 w Es) (hi : Es[i]? = some (mapE kv vv b L)) (hT : P.underlying T = some (.map KT VT)) (hx : ev r x = .map (some b)) :
  Val P (.call ⟨.builtin .len, #[x], #[T]⟩) ty r w (.int .i64 L.length) w := by
 obtain ⟨es, cl, hb, he⟩ := st.at hi
 intro _ _ _ _
 simp [execOp, resolve, invoke, builtin, hx, Builtin.len_, run_underlying hT, MapKept.run_getObj_map hb, goInt, he.size, Result.andThen]
theorem mapE_copy {b' : Nat} {o : Obj} (st : St m0 m F w0 w Es) {i : Nat} (hi : Es[i]? = some (mapE kv vv b L)) (hb : w.heap[b]? = some o) : St m0 m F w0 (w.alloc o) (mapE kv vv w.heap.size L :: Es) := by
 obtain ⟨es, cl, hb2, he⟩ := st.at hi
 rw [hb2] at hb
 cases hb
 exact st.new (E := mapE kv vv w.heap.size L) (touch_alloc w _) ⟨es, cl, World.alloc_heap_new w _, he⟩
end
section
variable {P : Program} {r : Fr} {w : World} {ty : TypeId} {T U : TypeId} {x y : Operand}
theorem v_or8 {a : UInt8} (b : UInt8) {n : Int} (hx : ev r x = u8 a) (hy : ev r y = .int .u8 n) (hn : n = b.toNat) : Val P (.binOp .or T x y U) ty r w (u8 (a ||| b)) w := by
 subst hn
 have h := v_or (P := P) (w := w) (ty := ty) (T := T) (U := U) hx hy
 have ha := a.toNat_lt
 have hb := b.toNat_lt
 have e : IntKind.u8.wrap ((BitVec.ofInt IntKind.u8.bits (a.toNat : Int) ||| BitVec.ofInt IntKind.u8.bits (b.toNat : Int)).toNat) = ((a ||| b).toNat : Int) := by
  rw [show IntKind.u8.bits = 8 from rfl, BitVec.ofInt_natCast, BitVec.ofInt_natCast, BitVec.toNat_or, BitVec.toNat_ofNat, BitVec.toNat_ofNat, Nat.mod_eq_of_lt (by omega), Nat.mod_eq_of_lt (by omega), wrap_u8, UInt8.toNat_ofNat', Nat.mod_eq_of_lt (Nat.or_lt_two_pow (n := 8) ha hb), UInt8.toNat_or]
 rw [e] at h
 exact h
theorem v_and8 {a : UInt8} (n : Nat) (hn : n < 256) (hx : ev r x = u8 a) (hy : ev r y = .int .u8 n) : Val P (.binOp .and T x y U) ty r w (.int .u8 (a.toNat &&& n : Nat)) w := by
 have h := v_and (P := P) (w := w) (ty := ty) (T := T) (U := U) hx hy
 have ha := a.toNat_lt
 have e : IntKind.u8.wrap ((BitVec.ofInt IntKind.u8.bits (a.toNat : Int) &&& BitVec.ofInt IntKind.u8.bits (n : Int)).toNat) = ((a.toNat &&& n : Nat) : Int) := by
  rw [show IntKind.u8.bits = 8 from rfl, BitVec.ofInt_natCast, BitVec.ofInt_natCast, BitVec.toNat_and, BitVec.toNat_ofNat, BitVec.toNat_ofNat, Nat.mod_eq_of_lt (by omega), Nat.mod_eq_of_lt (by omega), wrap_u8, UInt8.toNat_ofNat', Nat.mod_eq_of_lt]
  exact Nat.lt_of_le_of_lt Nat.and_le_right hn
 rw [e] at h
 exact h
end
section
variable {P : Program} {n : Nat} {ops : Array Oper} {Q : Po} {rest : List Oper} {r : Fr} {w : World} {d : Nat} {ty : TypeId} {pos : String} {after : Array Edge} {m0 m : Mem} {F : List Nat} {w0 : World} {Es : List Ent}
theorem wl_s2b {S T E : TypeId} {x : Operand} {l : List UInt8} (hS : P.underlying S = some .string) (hT : P.underlying T = some (.slice E)) (hE : P.underlying E = some (.int .u8)) (hx : ev r x = .string (strB l)) (st : St m0 m F w0 w Es) (hd : Nat.blt d n = true)
  (k : ∀ v' m' w', Grow m m' w.heap.size → SlM m' v' 1 l.length (bs l) → v'.oneCell' = true → St m0 m' F w0 w' Es → WL P n ops Q rest (upd d v' r) w') :
  WL P n ops Q (⟨some d, .convert S T x, ty, pos, after, none⟩ :: rest) r w := by
 have hrun := Lib.run_convert_string_bytes (P := P) w S T E (strB l) hS hT hE
 have hnone : m w.heap.size = none := by
  cases hm : m w.heap.size with
  | none => rfl
  | some o => exact absurd (lt_of_get (st.im _ _ hm)) (Nat.lt_irrefl _)
 obtain ⟨o, ho⟩ : ∃ o, o = Obj.cells (Lib.bytesCells w E (strB l)) E ((Lib.bytesCells w E (strB l)).size, (Lib.bytesCells w E (strB l)).size + 1) := ⟨_, rfl⟩
 have hnew := Lib.bytesWorld_at_new w E (strB l)
 rw [← ho] at hnew
 have hg : Grow m (fun j => if j = w.heap.size then some o else m j) w.heap.size := by
  refine ⟨fun j u hj => ?_, fun j u hj => ?_⟩
  ·by_cases h : j = w.heap.size
   ·rw [h, hnone] at hj; cases hj
   ·simp [h, hj]
  ·by_cases h : j = w.heap.size
   ·exact .inr (by omega)
   ·simp [h] at hj; exact .inl hj
 have t : Tch w (Lib.bytesWorld w E (strB l)) [] [] :=
  ⟨rfl, rfl, rfl, by rw [Lib.bytesWorld_size]; omega, fun j hj _ => Lib.bytesWorld_at_old w E (strB l) j hj, by simp⟩
 have hi : Im (fun j => if j = w.heap.size then some o else m j) (Lib.bytesWorld w E (strB l)) := by
  intro j u hj
  by_cases h : j = w.heap.size
  ·simp [h] at hj; subst hj; rw [h]; exact hnew
  ·simp [h] at hj
   rw [Lib.bytesWorld_at_old w E (strB l) j (lt_of_get (st.im _ _ hj))]
   exact st.im _ _ hj
 refine wl_val (v := .slice (some ⟨w.heap.size, 0, none⟩) (strB l).size (grownCap w (strB l).size 0 E)) (w' := Lib.bytesWorld w E (strB l)) ?_ hd (k _ _ _ hg ?_ rfl (st.grown hg t hi))
 ·intro _ _ _ _
  simp only [execOp, hx, Sem.run_bind, hrun, Result.andThen_ok, Sem.run_pure]
 ·have hsz : (strB l).size = l.length := rfl
  have hge := grownCap_ge w (strB l).size 0 E
  rw [hsz] at hge ⊢
  refine SlM.ofBlock (pre := []) (post := List.replicate (grownCap w (strB l).size 0 E - (strB l).size) (.int .u8 0)) (by rw [if_pos rfl, ho]) ?_ rfl hge
  simp [Lib.bytesCells, strB, bs, u8]
end
end K
end Go.Proofs.YtladpaehbolghaaGreat

namespace Go.Proofs.YtladpaehbolghaaGreat
open Go Go.RowKit K
namespace K
abbrev thrown (v : Value) : List PanicEntry := [{ v := v, recovered := false }]
def RetP (P : Program) (f : FuncId) (args : Array Value) (w : World) (pv : Value) (R : Value → World → Prop) (X : World → Prop) : Prop :=
 (∀ args w, (callFunc f args).run P w = .ok (.enter f args) w) ∧ Calls P f args w fun e w' => (∃ v, e = .returned v ∧ R v w') ∨ (e = .panicked (thrown pv) ∧ X w')
theorem RetP.mono {P : Program} {f : FuncId} {args : Array Value} {w : World} {pv : Value} {R R' : Value → World → Prop} {X X' : World → Prop} (h : RetP P f args w pv R X) (hr : ∀ v w', R v w' → R' v w') (hx : ∀ w', X w' → X' w') : RetP P f args w pv R' X' :=
 ⟨h.1, Calls.mono h.2 fun _ _ h => h.imp (fun ⟨v, e, q⟩ => ⟨v, e, hr _ _ q⟩) (fun ⟨e, q⟩ => ⟨e, hx _ q⟩)⟩
def bodyP (P : Program) (rvs : List ResultVar) (pv : Value) (R : Value → World → Prop) (X : World → Prop) : Po
 | .normal, r, w | .ret, r, w => ∃ vs, ResL P r w rvs vs ∧ R (pack vs) w
 | .panic ch, _, w => ch = thrown pv ∧ X w
 | _, _, _ => False
theorem toP {P : Program} {rvs : List ResultVar} {pv : Value} {R : Value → World → Prop} {X : World → Prop} {r : Fr} {w : World} (h : bodyQ P rvs R .ret r w) : bodyP P rvs pv R X .ret r w := h
theorem toPn {P : Program} {rvs : List ResultVar} {pv : Value} {R : Value → World → Prop} {X : World → Prop} {r : Fr} {w : World} (h : bodyQ P rvs R .normal r w) : bodyP P rvs pv R X .normal r w := h
theorem ret_ofP {P : Program} {f : FuncId} {fn : Func} {c : Code} {args : List Value} {w : World} {pv : Value} {R : Value → World → Prop} {X : World → Prop} {n : Nat} {rvs : List ResultVar}
  (hgo : ∀ args w, (callFunc f args).run P w = .ok (.enter f args) w) (hf : P.funcs[f]? = some fn) (hb : fn.body = some c) (hn : fn.ntmps = n) (hres : fn.results = rvs.toArray)
  (hsz : Nat.ble args.length n = true) (h : WC P n (bodyP P rvs pv R X) c (frOf 0 args) w) : RetP P f args.toArray w pv R X :=
 ⟨hgo, calls_ofE hf hb hn hres hsz (h.mono fun e r w hq => by
  cases e with
  | normal => obtain ⟨vs, hv, hR⟩ := hq; exact ⟨vs, hv, .inl ⟨_, rfl, hR⟩⟩
  | ret => obtain ⟨vs, hv, hR⟩ := hq; exact ⟨vs, hv, .inl ⟨_, rfl, hR⟩⟩
  | panic ch => obtain ⟨rfl, hX⟩ := hq; exact .inr ⟨rfl, hX⟩
  | _ => exact hq.elim)⟩
section
variable {P : Program} {n : Nat} {ops : Array Oper} {Q : Po} {r : Fr} {w : World} {rest : List Oper} {d : Nat} {ty : TypeId} {pos : String} {after : Array Edge}
theorem wl_callP {f : FuncId} {ags : Array Operand} {tys : Array TypeId} {args : List Value} {pv : Value} {R : Value → World → Prop} {X : World → Prop} (ha : ags.toList.map (ev r) = args)
  (hc : RetP P f args.toArray w pv R X) (hd : Nat.blt d n = true) (x : ∀ w', X w' → Q (.panic (thrown pv)) r w') (k : ∀ v w', R v w' → WL P n ops Q rest (upd d v r) w') :
  WL P n ops Q (⟨some d, .call ⟨.value (.func f), ags, tys⟩, ty, pos, after, none⟩ :: rest) r w := by
 intro ds a h
 refine wpList_plain rfl fun K hK => ?_
 unfold Oper.wp
 rw [h.eval]
 have hargs : ags.map (ev r) = args.toArray := by
  apply Array.toList_inj.mp
  rw [Array.toList_map, ha]
 have he : (execOp (ev r) ⟨some d, .call ⟨.value (.func f), ags, tys⟩, ty, pos, after, none⟩).run P w = .ok (.enter f args.toArray) w := by
  simp [execOp, resolve, ev, Deferred.ofValue, invoke, hargs, hc.1]
 rw [he, Oper.upon_enter]
 refine Calls.mono hc.2 ?_
 rintro e w' (⟨v, rfl, hR⟩ | ⟨rfl, hX⟩)
 ·exact hK _ _ (k v w' hR ds _ (h.put hd v))
 ·exact ⟨r, h, x w' hX⟩
theorem wl_callvP {x : Operand} {f : FuncId} {first captured : Array Value} {ags : Array Operand} {tys : Array TypeId} {args : List Value} {pv : Value} {R : Value → World → Prop} {X : World → Prop}
  (hx : ev r x = .func (.func f) first captured) (ha : first.toList ++ ags.toList.map (ev r) ++ captured.toList = args)
  (hc : RetP P f args.toArray w pv R X) (hd : Nat.blt d n = true) (xx : ∀ w', X w' → Q (.panic (thrown pv)) r w') (k : ∀ v w', R v w' → WL P n ops Q rest (upd d v r) w') :
  WL P n ops Q (⟨some d, .call ⟨.value x, ags, tys⟩, ty, pos, after, none⟩ :: rest) r w := by
 intro ds a h
 refine wpList_plain rfl fun K hK => ?_
 unfold Oper.wp
 rw [h.eval]
 have hargs : first ++ ags.map (ev r) ++ captured = args.toArray := by
  rw [← ha]
  apply Array.toList_inj.mp
  simp
 have he : (execOp (ev r) ⟨some d, .call ⟨.value x, ags, tys⟩, ty, pos, after, none⟩).run P w = .ok (.enter f args.toArray) w := by
  simp [execOp, resolve, hx, Deferred.ofValue, invoke, hargs, hc.1]
 rw [he, Oper.upon_enter]
 refine Calls.mono hc.2 ?_
 rintro e w' (⟨v, rfl, hR⟩ | ⟨rfl, hX⟩)
 ·exact hK _ _ (k v w' hR ds _ (h.put hd v))
 ·exact ⟨r, h, xx w' hX⟩
theorem wl_panic {x : Operand} {T : TypeId} {v : Value} (hx : ev r x = .iface T v) (h : Q (.panic (thrown (.iface T v))) r w) : WL P n ops Q (⟨none, .panic x, ty, pos, after, none⟩ :: rest) r w := by
 intro ds a ha
 refine wpList_plain rfl fun K hK => ?_
 unfold Oper.wp
 rw [ha.eval]
 have he : (execOp (ev r) ⟨none, .panic x, ty, pos, after, none⟩).run P w = .halt (.panic (.iface T v)) w := by
  simp [execOp, Instr.panic, hx, goPanic]
 rw [he, Oper.upon_panic]
 exact ⟨r, ha, h⟩
theorem v_mkiface {x : Operand} {T : TypeId} {v : Value} {D : TypeDesc} (hT : P.underlying T = some D) (hD : (match D with | .interface _ => False | _ => True)) (hx : ev r x = v) : Val P (.makeInterface T x) ty r w (.iface T v) w := by
 intro _ _ _ _
 cases D <;> first | exact hD.elim | simp [execOp, Instr.makeInterface, run_underlying hT, hx, Result.andThen]
end
def WD (ds : List Deferred) (P : Program) (n : Nat) (Q : List Deferred → Po) (c : Code) (r : Fr) (w : World) : Prop :=
 ∀ a, Has n ds a r → c.wp P (fun e a w => ∃ ds' r', Has n ds' a r' ∧ Q ds' e r' w) a w
section
variable {P : Program} {n : Nat} {Q : List Deferred → Po} {r : Fr} {w : World} {ds : List Deferred}
theorem wd_of_wc {c : Code} (h : WC P n (Q ds) c r w) : WD ds P n Q c r w := fun a ha => Code.wp_mono (fun _ _ _ ⟨r', h1, h2⟩ => ⟨ds, r', h1, h2⟩) (h ds a ha)
theorem wd_seqc {x y : Code} (h : WC P n (thenQ (fun r w => WD ds P n Q y r w) (Q ds)) x r w) : WD ds P n Q (x.seq y) r w := by
 intro a ha
 refine wp_seq (Code.wp_mono ?_ (h ds a ha))
 rintro e a' w' ⟨r', h1, h2⟩
 cases e with
 | normal => exact h2 a' h1
 | _ => exact ⟨ds, r', h1, h2⟩
theorem wd_defer {id d g x ty1 ty2 : Nat} {pos1 pos2 : String} {a1 a2 : Array Edge} {tys : Array TypeId} (hd : Nat.blt d n = true)
  (h : Q ({ target := .fn (.func g) #[r x], args := #[] } :: ds) .normal (upd d (.func (.func g) #[] #[r x]) r) w) :
  WD ds P n Q (.region id #[⟨some d, .makeFunc (.func g) #[] #[.tmp x], ty1, pos1, a1, none⟩, ⟨none, .defer ⟨.value (.tmp d), #[], tys⟩, ty2, pos2, a2, none⟩] false) r w := by
 intro a ha
 have hp := ha.put hd (.func (.func g) #[] #[r x])
 refine wp_region_lit (l := [_, _]) (wpList_plain rfl fun K hK => ?_)
 have e1 : (execOp a.eval ⟨some d, .makeFunc (.func g) #[] #[.tmp x], ty1, pos1, a1, none⟩).run P w = .ok (.value (.func (.func g) #[] #[r x])) w := by
  rw [ha.eval]; exact v_mkfunc (r := r) (w := w) (ty := ty1) (l1 := []) (l2 := [r x]) rfl rfl (some d) pos1 a1 none
 unfold Oper.wp
 rw [e1, Oper.upon_value]
 refine hK _ _ (wpList_plain rfl fun K2 hK2 => ?_)
 have e2 : (execOp (a.put (some d) (.func (.func g) #[] #[r x])).eval ⟨none, .defer ⟨.value (.tmp d), #[], tys⟩, ty2, pos2, a2, none⟩).run P w = .ok (.defer { target := .fn (.func g) #[r x], args := #[] }) w := by
  rw [hp.eval]
  simp [execOp, resolve, ev, upd, Deferred.ofValue]
 unfold Oper.wp
 rw [e2, Oper.upon_defer]
 exact hK2 _ _ ⟨_, _, ⟨hp.size, hp.val, by show _ :: (a.put _ _).defers = _; rw [hp.defers]⟩, h⟩
end
theorem wd_seqd {P : Program} {n : Nat} {Q : List Deferred → Po} {r : Fr} {w : World} {ds : List Deferred} {x y : Code} (h : WD ds P n (fun ds e r w => match e with | .normal => WD ds P n Q y r w | e => Q ds e r w) x r w) : WD ds P n Q (x.seq y) r w := by
 intro a ha
 refine wp_seq (Code.wp_mono ?_ (h a ha))
 rintro e a' w' ⟨ds', r', h1, h2⟩
 cases e with
 | normal => exact h2 a' h1
 | _ => exact ⟨ds', r', h1, h2⟩
theorem wpS_recover {P : Program} {Q : Exit → Act → List Frame → World → Prop} {a : Act} {cs cs' : List Frame} {w : World} {id d ty : Nat} {pos : String} {after : Array Edge} {v : Value} (hcs : recoverD cs = some (v, cs')) (h : Q .normal (a.put (some d) v) cs' w) :
  (Code.region id #[⟨some d, .call ⟨.builtin .recover, #[], #[]⟩, ty, pos, after, none⟩] false).wpS P Q a cs w := by
 apply wpS_region
 simp [wpOpsS, Region.wanted, execOp, resolve, invoke, builtin, hcs]
 exact h
theorem wpS_idle {P : Program} {Q : Exit → Act → List Frame → World → Prop} {a : Act} {cs : List Frame} {w : World} {id d ty : Nat} {pos : String} {after : Array Edge} (hcs : recoverD cs = none) (h : Q .normal (a.put (some d) .nilIface) cs w) :
  (Code.region id #[⟨some d, .call ⟨.builtin .recover, #[], #[]⟩, ty, pos, after, none⟩] false).wpS P Q a cs w := by
 apply wpS_region
 simp [wpOpsS, Region.wanted, execOp, resolve, invoke, builtin, hcs]
 exact h
theorem v_eqIH {P : Program} {r : Fr} {w : World} {ty t u U : TypeId} {x y : Operand} {v : Value} (h : P.underlying t = some (.interface (P.methodsAt t))) (hx : ev r x = .iface u v) (hy : ev r y = .nilIface) : Val P (.binOp .eql t x y U) ty r w (.bool false) w := by
 intro _ _ _ _
 have e1 : ∀ (x y : Operand), eqGuard .eql t x y (.iface u v) .nilIface = pure () := fun _ _ => rfl
 have e2 := fun w => run_eql_held_nil (P := P) w t u v h
 simp [execOp, hx, hy, e1, e2, Result.andThen]
theorem v_eqIN {P : Program} {r : Fr} {w : World} {ty t U : TypeId} {x : Operand} (h : P.underlying t = some (.interface (P.methodsAt t))) (hx : ev r x = .nilIface) : Val P (.binOp .eql t x (.const .nilIface) U) ty r w (.bool true) w := by
 intro _ _ _ _
 have e1 : ∀ (x : Operand), eqGuard .eql t x (.const .nilIface) .nilIface .nilIface = pure () := fun x => eqGuard_nil_constR _ _ _ _
 have hc : ev r (.const .nilIface) = .nilIface := rfl
 have e2 := fun w => run_eql_nil_nil (P := P) w t h
 simp [execOp, hx, hc, e1, e2, Result.andThen]
theorem v_tassert {P : Program} {r : Fr} {w : World} {ty t u : TypeId} {x : Operand} {v : Value} {D : TypeDesc} (hT : P.underlying u = some D) (hD : (match D with | .interface _ => False | _ => True)) (hx : ev r x = .iface u v) : Val P (.typeAssert x t u true) ty r w (.tuple #[v, .bool true]) w := by
 intro _ _ _ _
 cases D <;> first | exact hD.elim | simp [execOp, Instr.typeAssert, run_underlying hT, hx, Result.andThen]
theorem calls_ofD {P : Program} {f : FuncId} {fn : Func} {c : Code} {args : List Value} {w : World} {R : Ending → World → Prop} {n : Nat}
  (hf : P.funcs[f]? = some fn) (hb : fn.body = some c) (hn : fn.ntmps = n) (hsz : Nat.ble args.length n = true)
  (h : WD [] P n (fun ds e r w => match e with
   | .normal | .ret => ∀ a, Has n ds a r → Leaves P fn a.tmps R ds .returning w
   | .panic ch => ∀ a, Has n ds a r → Leaves P fn a.tmps R ds (.panicking ch) w
   | _ => False) c (frOf 0 args) w) : Calls P f args.toArray w R := by
 refine calls_of_wp_defers hf hb ?_
 rw [hn]
 refine Code.wp_mono ?_ (h _ (has_args hsz))
 rintro e a w' ⟨ds, r', ha, hq⟩
 cases e with
 | normal => show Leaves _ _ _ _ a.defers _ _; rw [ha.defers]; exact hq a ha
 | ret => show Leaves _ _ _ _ a.defers _ _; rw [ha.defers]; exact hq a ha
 | panic ch => show Leaves _ _ _ _ a.defers _ _; rw [ha.defers]; exact hq a ha
 | _ => exact hq.elim
end K
end Go.Proofs.YtladpaehbolghaaGreat

namespace Go.Proofs.YtladpaehbolghaaGreat
open Go Go.RowKit K
namespace GC
abbrev By := List UInt8
def numB (n : Nat) : By := if n < 128 then [UInt8.ofNat n] else UInt8.ofNat (n % 128 + 128) :: numB (n / 128)
termination_by n
decreasing_by omega
def txtB (t : By) : By := numB t.length ++ t
def numR : Nat → By → Option (Nat × By)
 | _, [] => none
 | i, c :: r => if (i = 9 ∧ 1 < c.toNat) ∨ (0 < i ∧ c.toNat = 0) then none else if c.toNat < 128 then some (c.toNat, r) else match numR (i + 1) r with
  | none => none
  | some (n, r') => some (c.toNat % 128 + 128 * n, r')
def cntR (most : Nat) (b : By) : Option (Nat × By) := match numR 0 b with
 | none => none
 | some (n, r) => if most < n then none else some (n, r)
def takeR (n : Nat) (b : By) : Option (By × By) := if b.length < n then none else some (b.take n, b.drop n)
def txtR (b : By) : Option (By × By) := match cntR 1048576 b with
 | none => none
 | some (n, r) => takeR n r
theorem numB_small {n : Nat} (h : n < 128) : numB n = [UInt8.ofNat n] := by rw [numB, if_pos h]
theorem numB_big {n : Nat} (h : ¬ n < 128) : numB n = UInt8.ofNat (n % 128 + 128) :: numB (n / 128) := by conv => lhs; rw [numB, if_neg h]
theorem numB_len {n : Nat} : ∀ {k : Nat}, n < 128 ^ (k + 1) → (numB n).length ≤ k + 1 := by
 intro k
 induction k generalizing n with
 | zero => intro h; rw [numB_small (by simpa using h)]; simp
 | succ k ih =>
  intro h
  by_cases hs : n < 128
  ·rw [numB_small hs]; simp
  ·rw [numB_big hs, List.length_cons]
   have := ih (n := n / 128) (by rw [Nat.div_lt_iff_lt_mul (by decide)]; rw [Nat.pow_succ] at h; omega)
   omega
theorem numB_len10 {n : Nat} (h : n < 18446744073709551616) : (numB n).length ≤ 10 := numB_len (k := 9) (by rw [show (128 : Nat) ^ (9 + 1) = 1180591620717411303424 from rfl]; omega)
theorem numB_pos {n : Nat} : 1 ≤ (numB n).length := by
 by_cases hs : n < 128
 ·rw [numB_small hs]; simp
 ·rw [numB_big hs]; simp
theorem numR_cons {i : Nat} {c : UInt8} {r : By} : numR i (c :: r) = if (i = 9 ∧ 1 < c.toNat) ∨ (0 < i ∧ c.toNat = 0) then none else if c.toNat < 128 then some (c.toNat, r) else match numR (i + 1) r with
  | none => none
  | some (n, r') => some (c.toNat % 128 + 128 * n, r') := rfl
theorem numR_lt : ∀ {b : By} {i n : Nat} {r : By}, i ≤ 9 → numR i b = some (n, r) → n < 2 ^ (64 - 7 * i) ∧ (0 < i → 0 < n) ∧ r.length < b.length
 | [], _, _, _, _, h => by cases h
 | c :: b, i, n, r, hi, h => by
  rw [numR_cons] at h
  split at h
  ·cases h
  ·rename_i h1
   split at h
   ·rename_i h2
    simp only [Option.some.injEq, Prod.mk.injEq] at h
    obtain ⟨rfl, rfl⟩ := h
    refine ⟨?_, fun hp => by omega, by simp⟩
    by_cases h9 : i = 9
    ·subst h9; have : ¬ 1 < c.toNat := fun q => h1 (.inl ⟨rfl, q⟩); show _ < 2; omega
    ·have : 2 ^ 8 ≤ 2 ^ (64 - 7 * i) := Nat.pow_le_pow_right (by decide) (by omega)
     omega
   ·rename_i h2
    have h9 : i ≤ 8 := by
     rcases Nat.lt_or_ge i 9 with q | q
     ·omega
     ·have h9 : i = 9 := by omega
      exact (h1 (.inl ⟨h9, by omega⟩)).elim
    cases hn : numR (i + 1) b with
    | none => rw [hn] at h; cases h
    | some q =>
     obtain ⟨m, r'⟩ := q
     rw [hn] at h
     simp only [Option.some.injEq, Prod.mk.injEq] at h
     obtain ⟨rfl, rfl⟩ := h
     obtain ⟨h3, h4, h5⟩ := numR_lt (by omega) hn
     have e : 2 ^ (64 - 7 * i) = 128 * 2 ^ (64 - 7 * (i + 1)) := by rw [show 64 - 7 * i = 7 + (64 - 7 * (i + 1)) by omega, Nat.pow_add]
     have := h4 (by omega)
     refine ⟨by rw [e]; omega, fun _ => by omega, by simp; omega⟩
theorem u8_nat {n : Nat} (h : n < 256) : (UInt8.ofNat n).toNat = n := by rw [UInt8.toNat_ofNat']; omega
theorem numR_numB {rest : By} : ∀ {k i n : Nat}, k = 9 - i → i ≤ 9 → n < 2 ^ (64 - 7 * i) → (0 < i → 0 < n) → numR i (numB n ++ rest) = some (n, rest) := by
 intro k
 induction k with
 | zero =>
  intro i n hk hi hn h0
  have h9 : i = 9 := by omega
  subst h9
  have hn : n < 2 := hn
  have := h0 (by omega)
  rw [numB_small (by omega), List.singleton_append, numR_cons, u8_nat (by omega), if_neg (by omega), if_pos (by omega)]
 | succ k ih =>
  intro i n hk hi hn h0
  by_cases hs : n < 128
  ·rw [numB_small hs, List.singleton_append, numR_cons, u8_nat (by omega), if_neg (by omega), if_pos hs]
  ·rw [numB_big hs, List.cons_append, numR_cons, u8_nat (by omega), if_neg (by omega), if_neg (by omega)]
   have e : 2 ^ (64 - 7 * i) = 128 * 2 ^ (64 - 7 * (i + 1)) := by rw [show 64 - 7 * i = 7 + (64 - 7 * (i + 1)) by omega, Nat.pow_add]
   rw [ih (i := i + 1) (n := n / 128) (by omega) (by omega) (by rw [e] at hn; omega) (fun _ => by omega)]
   simp only [Option.some.injEq, Prod.mk.injEq, and_true]
   omega
theorem numB_numR : ∀ {b : By} {i n : Nat} {r : By}, numR i b = some (n, r) → b = numB n ++ r
 | [], _, _, _, h => by cases h
 | c :: b, i, n, r, h => by
  rw [numR_cons] at h
  split at h
  ·cases h
  ·rename_i h1
   split at h
   ·rename_i h2
    simp only [Option.some.injEq, Prod.mk.injEq] at h
    obtain ⟨rfl, rfl⟩ := h
    rw [numB_small h2, UInt8.ofNat_toNat]; rfl
   ·rename_i h2
    cases hn : numR (i + 1) b with
    | none => rw [hn] at h; cases h
    | some q =>
     obtain ⟨m, r'⟩ := q
     rw [hn] at h
     simp only [Option.some.injEq, Prod.mk.injEq] at h
     obtain ⟨rfl, rfl⟩ := h
     have hm : 0 < m := by
      cases b with
      | nil => cases hn
      | cons d b =>
       rw [numR_cons] at hn
       split at hn
       ·cases hn
       ·rename_i h3
        split at hn
        ·simp only [Option.some.injEq, Prod.mk.injEq] at hn; omega
        ·cases hq : numR (i + 1 + 1) b with
         | none => rw [hq] at hn; cases hn
         | some q =>
          rw [hq] at hn
          simp only [Option.some.injEq, Prod.mk.injEq] at hn
          have := numR_pos hq
          omega
     have hc := c.toNat_lt
     rw [numB_big (by omega), numB_numR hn]
     have e1 : (c.toNat % 128 + 128 * m) % 128 + 128 = c.toNat := by omega
     have e2 : (c.toNat % 128 + 128 * m) / 128 = m := by omega
     rw [e1, e2, UInt8.ofNat_toNat]; rfl
where
 numR_pos : ∀ {b : By} {i n : Nat} {r : By}, numR (i + 1) b = some (n, r) → 0 < n
 | [], _, _, _, h => by cases h
 | c :: b, i, n, r, h => by
  rw [numR_cons] at h
  split at h
  ·cases h
  ·rename_i h1
   split at h
   ·simp only [Option.some.injEq, Prod.mk.injEq] at h
    omega
   ·cases hn : numR (i + 1 + 1) b with
    | none => rw [hn] at h; cases h
    | some q =>
     rw [hn] at h
     simp only [Option.some.injEq, Prod.mk.injEq] at h
     have := numR_pos hn
     omega
theorem cntR_numB {most n : Nat} {rest : By} (h : n ≤ most) (hn : n < 18446744073709551616) : cntR most (numB n ++ rest) = some (n, rest) := by
 unfold cntR
 rw [numR_numB (k := 9) rfl (by omega) hn (by omega)]
 exact if_neg (by omega)
theorem cntR_eq {most n : Nat} {b r : By} (h : cntR most b = some (n, r)) : b = numB n ++ r ∧ n ≤ most := by
 unfold cntR at h
 cases hn : numR 0 b with
 | none => rw [hn] at h; cases h
 | some q =>
  obtain ⟨m, r'⟩ := q
  rw [hn] at h
  simp only at h
  split at h
  ·cases h
  ·simp only [Option.some.injEq, Prod.mk.injEq] at h
   obtain ⟨rfl, rfl⟩ := h
   exact ⟨numB_numR hn, by omega⟩
theorem txtR_txtB {t rest : By} (h : t.length ≤ 1048576) : txtR (txtB t ++ rest) = some (t, rest) := by
 unfold txtR txtB
 rw [List.append_assoc, cntR_numB h (by omega)]
 show takeR _ _ = _
 unfold takeR
 rw [if_neg (by simp)]
 simp
theorem txtR_eq {t b r : By} (h : txtR b = some (t, r)) : b = txtB t ++ r ∧ t.length ≤ 1048576 := by
 unfold txtR at h
 cases hn : cntR 1048576 b with
 | none => rw [hn] at h; cases h
 | some q =>
  obtain ⟨m, r'⟩ := q
  rw [hn] at h
  obtain ⟨h1, h2⟩ := cntR_eq hn
  simp only [takeR] at h
  split at h
  ·cases h
  ·rename_i h3
   simp only [Option.some.injEq, Prod.mk.injEq] at h
   obtain ⟨rfl, rfl⟩ := h
   have hl : (r'.take m).length = m := by rw [List.length_take]; omega
   unfold txtB
   rw [hl, List.append_assoc, List.take_append_drop]
   exact ⟨h1, h2⟩
end GC
end Go.Proofs.YtladpaehbolghaaGreat

namespace Go.Proofs.YtladpaehbolghaaGreat
open Go Go.RowKit K SH
section
variable {P : Program} {n : Nat} {ops : Array Oper} {Q : Po} {rest : List Oper} {r : Fr} {w : World} {d : Nat} {ty : TypeId} {pos : String} {after : Array Edge} {m0 m : Mem} {F : List Nat} {w0 : World} {Es : List Ent}
theorem wl_pcs2 {x y : Operand} {v1 v2 : Value} {l1 l2 : List UInt8} (st : St m0 m [] w0 w Es) (hx : ev r x = v1) (hy : ev r y = v2) (h1 : SlM m v1 1 l1.length (bs l1)) (h2 : SlM m v2 1 l2.length (bs l2)) (hd : Nat.blt d n = true)
  (kk : ∀ m' v' w', (∀ k o, m k = some o → m' k = some o) → St m0 m' [] w0 w' Es → PcsM m' v' [(l1, v1), (l2, v2)] → WL Tryz.prog n ops Q rest (upd d v' r) w') :
  WL Tryz.prog n ops Q (⟨some d, .buildSlice 41 2 #[(0, x), (1, y)], ty, pos, after, none⟩ :: rest) r w := by
 have o1 : v1.oneCell' = true := by obtain ⟨_, a, c, rfl, _⟩ := h1; rfl
 have o2 : v2.oneCell' = true := by obtain ⟨_, a, c, rfl, _⟩ := h2; rfl
 refine wl_buildSlice (c' := #[v1, v2]) [(0, v1), (1, v2)] Tryz.underlying41 TF.t23 TF.z23 (by decide) (by decide) (by simp [hx, hy]) (fill_one [] [.slice none 0 0] [.slice none 0 0] (by rw [show (Value.slice none 0 0).cells = Array.replicate (0 + 1) (Value.slice none 0 0) from rfl, madeCells_rep]; rfl) rfl (by rw [cells_one o1]; rfl) ?_) st hd ?_
 ·rw [cells_one o1]
  refine fill_one [v1] [.slice none 0 0] [] rfl rfl (by rw [cells_one o2]; rfl) ?_
  rw [cells_one o2]
  rfl
 ·intro b w' st'
  obtain ⟨m1, hg1, hm1, st1⟩ := st'.freeze (i := 0) rfl (by simp)
  refine kk m1 _ w' hg1.le st1 ⟨SlM.of hm1 (by simp) (Nat.le_refl _) (fun j u hj => by simpa using hj), ?_⟩
  intro z hz
  simp only [List.mem_cons, List.not_mem_nil, or_false] at hz
  rcases hz with rfl | rfl
  ·exact h1.mono hg1.le
  ·exact h2.mono hg1.le
end
section
variable {m : Mem} {wI : World}
theorem c_join {pv : Value} {L : List (List UInt8 × Value)} (him : Im m wI) (hp : PcsM m pv L) (hb : (joinB L).length ≤ 1099511627776) (hLl : L.length ≤ 1099511627776) :
  Ret Tryz.prog 69 #[pv] wI fun v w' => Out m wI w' fun m' => SlM m' v 1 (joinB L).length (bs (joinB L)) := by
 have st := St.start him
 have hp0 := hp
 obtain ⟨⟨_, pa, pc, rfl, _⟩, _⟩ := hp
 refine ret_of Tryz.call69 Tryz.func69 rfl Tryz.ntmps69 Tryz.results69 rfl ?_
 refine wc_seq ?_
 refine wc_region ?_
 refine wl_val (v_assign' (by conv => (lhs; whnf))) rfl ?_
 refine wl_nil ?_
 refine then_go ?_
 refine wc_seq ?_
 refine wc_region ?_
 refine wl_val (v_assign' (by conv => (lhs; whnf))) rfl ?_
 refine wl_nil ?_
 refine then_go ?_
 refine wc_seq ?_
 refine wc_seq ?_
 refine wc_region ?_
 refine wl_val (v_assign' (by conv => (lhs; whnf))) rfl ?_
 refine wl_nil ?_
 refine then_go ?_
 refine wc_block ?_
 have st := nilRow st 5 1
 change St _ _ _ _ _ [rowE _ _ 1 (joinB (L.take 0)).length (bs (joinB (L.take 0)))] at st
 refine wc_loop (S := Nat) (fun q r w' => ∃ i v, q + i = L.length ∧ r 0 = .slice pa L.length pc ∧ r 3 = v ∧ r 4 = .int .i64 i ∧ St m m [] wI w' [rowE v 5 1 (joinB (L.take i)).length (bs (joinB (L.take i)))]) id L.length ⟨0, _, by omega, rfl, rfl, rfl, st⟩ ?_
 rintro q r w2 ⟨i, v, hqi, h0, h3, h4, st⟩
 refine wc_o 0 h0 (wc_o 3 h3 (wc_o 4 h4 ?_))
 refine wc_seq ?_
 refine wc_seq ?_
 refine wc_region ?_
 refine wl_val (v_move' (by conv => (lhs; whnf))) rfl ?_
 refine wl_val (v_move' (by conv => (lhs; whnf))) rfl ?_
 refine wl_val (v_len_s Tryz.underlying41 rfl) rfl ?_
 refine wl_val (v_lss rfl rfl) rfl ?_
 refine wl_nil ?_
 refine then_go ?_
 refine wc_if rfl (fun h8 => ?_) (fun h8 => ?_)
 ·refine wc_skip ?_
  refine then_go ?_
  refine wc_seq ?_
  refine wc_block ?_
  have hi : i < L.length := by omega
  have hjl2 := joinB_le (L := L) (i + 1)
  obtain ⟨lb, lo, lcap, hlv, hel, hrd⟩ := hp0.elem hi
  simp only [Value.slice.injEq] at hlv
  obtain ⟨hpa, _, _⟩ := hlv
  rw [hpa]
  rw [joinB_take hi, List.length_append] at hjl2
  refine wc_region ?_
  refine wl_val (v_move' (by conv => (lhs; whnf))) rfl ?_
  refine wl_val (v_move' (by conv => (lhs; whnf))) rfl ?_
  refine wl_val (v_move' (by conv => (lhs; whnf))) rfl ?_
  refine wl_val (v_ias i Tryz.underlying41 TF.t23 rfl rfl (by first | rfl | omega) (by first | omega | (dsimp only at *; omega))) rfl ?_
  refine wl_val (v_load rfl (hrd st.im)) rfl ?_
  refine wl_appB (l2 := L[i].1) st Tryz.underlying23 Tryz.underlying23 (.inr ⟨_, rfl⟩) TF.t5 TF.z5 rfl rfl (hel.src st.im (one_bs _)) (by omega) (by omega) rfl ?_
  intro v16 w st hv16
  refine wl_val (v_assign' (by conv => (lhs; whnf))) rfl ?_
  refine wl_nil ?_
  refine block_go (then_go ?_)
  refine wc_region ?_
  refine wl_val (v_move' (by conv => (lhs; whnf))) rfl ?_
  refine wl_val (v_add' rfl rfl rfl (by first | omega | (dsimp only at *; omega)) (by first | omega | (dsimp only at *; omega))) rfl ?_
  refine wl_val (v_assign' (by conv => (lhs; whnf))) rfl ?_
  refine wl_nil ?_
  refine then_go ?_
  refine ⟨q - 1, by simp; omega, i + 1, v16, by omega, rfl, rfl, rfl, ?_⟩
  rw [joinB_take hi]
  exact st
 ·refine wc_exit (then_exit (then_exit (block_hit ?_)))
  refine then_go ?_
  refine wc_seq ?_
  refine wc_region ?_
  refine wl_val (v_move' (by conv => (lhs; whnf))) rfl ?_
  refine wl_val (v_assign' (by conv => (lhs; whnf))) rfl ?_
  refine wl_nil ?_
  refine then_go ?_
  refine wc_ret ?_
  have hiL : i = L.length := by omega
  subst hiL
  rw [List.take_length] at st
  exact ret1 rfl st.bytesOut
theorem c_tagsof {bv : Value} {b : List UInt8} (him : Im m wI) (hb : SlM m bv 1 b.length (bs b)) (hl : b.length ≤ 1099511627776) :
  Ret Tryz.prog 93 #[bv] wI fun v w' => Tch wI w' [] [] ∧ v = arr (sum b) := by
 have st := St.start him
 refine ret_of Tryz.call93 Tryz.func93 rfl Tryz.ntmps93 Tryz.results93 rfl ?_
 refine wc_seq ?_
 refine wc_region ?_
 refine wl_alloc TF.z141 st rfl ?_
 intro b2 w st
 refine wl_nil ?_
 refine then_go ?_
 refine wc_seq ?_
 refine wc_region ?_
 refine wl_val (v_move' (by conv => (lhs; whnf))) rfl ?_
 refine wl_call rfl (c_sum st.im hb hl) rfl ?_
 rintro v4 w ⟨t, rfl⟩
 have st := st.pure t
 refine wl_storeW (cs := (bs (sum b)).toArray) 0 st rfl TF.t141 rfl rfl (by simp [bs, length_sum]) rfl (by simpa using one_bs _) ?_
 intro w st
 refine wl_nil ?_
 refine then_go ?_
 refine wc_ret ?_
 exact ret1c rfl (st.reads 0 rfl TF.t141 (getV_all (by simp [bs, length_sum]))) ⟨(st.keepOnly (l := []) (List.nil_sublist _)).touch, rfl⟩
end
end Go.Proofs.YtladpaehbolghaaGreat

namespace Go.Proofs.YtladpaehbolghaaGreat
open Go Go.RowKit K SH
def num8 (n : UInt64) : List UInt8 := (List.range 8).map fun i => UInt8.ofNat (n.toNat / 2 ^ (56 - 8 * i))
theorem length_num8 (n : UInt64) : (num8 n).length = 8 := by simp [num8]
section
variable {P : Program} {n : Nat} {ops : Array Oper} {Q : Po} {rest : List Oper} {r : Fr} {w : World} {d : Nat} {ty : TypeId} {pos : String} {after : Array Edge} {m0 m : Mem} {F : List Nat} {w0 : World} {Es : List Ent}
variable {T U : TypeId} {x y : Operand}
theorem v_quo64 {p q : UInt64} (hx : ev r x = u64 p) (hy : ev r y = u64 q) (h0 : 0 < q.toNat) : Val P (.binOp .quo T x y U) ty r w (u64 (p / q)) w := by
 have h := v_quo (P := P) (w := w) (ty := ty) (T := T) (U := U) hx hy (by omega)
 have e : IntKind.u64.wrap ((p.toNat : Int).tdiv q.toNat) = ((p / q).toNat : Int) := by
  rw [Int.tdiv_eq_ediv_of_nonneg (by omega), ← Int.natCast_ediv, wrap_u64_small, UInt64.toNat_div]
  exact Nat.lt_of_le_of_lt (Nat.div_le_self _ _) p.toNat_lt
 rw [e] at h
 exact h
end
section
variable {m : Mem} {wI : World}
structure Rt where
 epoch : UInt64
 prev : List UInt8
 tree : List UInt8
 next : List UInt8
deriving DecidableEq
def Rt.ok (t : Rt) : Prop := t.prev.length = 32 ∧ t.tree.length = 32 ∧ t.next.length = 32
end
end Go.Proofs.YtladpaehbolghaaGreat

namespace Go.Proofs.YtladpaehbolghaaGreat
namespace DK
abbrev By := List UInt8
def splice (S : By) (o : Nat) (l : By) : By := S.take o ++ l ++ S.drop (o + l.length)
theorem length_splice {S l : By} {o : Nat} (h : o + l.length ≤ S.length) : (splice S o l).length = S.length := by
 simp [splice]; omega
def sec (S : By) (i : Nat) : By := (S.drop (64 * i)).take 64
structure DS where
 S : By
 wt : List (Nat × By)
 fuse : Int
 down : Bool
structure DS.ok (d : DS) (n : Nat) : Prop where
 pos : 1 ≤ n
 len : d.S.length = 64 * n
 le : n ≤ 16384
 wt : ∀ x ∈ d.wt, x.1 < n ∧ x.2.length = 64
def dump (d : DS) : By := d.wt.foldl (fun S x => splice S (64 * x.1) x.2) d.S
def burn (d : DS) : DS := { d with down := decide (d.fuse = 0), fuse := if 0 < d.fuse then d.fuse - 1 else d.fuse }
def writeD (d : DS) (n : Nat) (i : Int) (l : By) : DS × Int :=
 if d.down then (d, 14) else if i < 0 ∨ i ≥ n then (d, 2) else if l.length ≠ 64 then (d, 1) else
  let d' := burn { d with wt := d.wt ++ [(i.toNat, l)] }
  (d', if d'.down then 14 else 0)
def syncD (d : DS) : DS × Int :=
 if d.down then (d, 14) else if d.fuse = 0 then (burn d, 14) else ({ burn d with S := dump d, wt := [] }, 0)
def newD (n : Nat) : DS := ⟨List.replicate (64 * n) 0, [], -1, false⟩
theorem splice_nil (S : By) (o : Nat) : splice S o [] = S := by simp [splice]
end DK
end Go.Proofs.YtladpaehbolghaaGreat
