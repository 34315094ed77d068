/-
  Several texts as one: Si Sj Sk Ta Y Z Zb Zc Zd Ze Uz Bk Tb La Dp Ja Ba Zf Jb Jc Jd Je Jf Jg Jh Da.
-/
import Derived.RangeFuncRecord
import Derived.RangeFuncCalls
import Derived.OwnWalkIn
import Derived.LoopIn
import Derived.Scope
import Derived.RangeFuncLeaves
import Derived.OrdersIn
import Derived.OpenShut
import Derived.WideShapes
import Derived.ChangeShapes
import Derived.Test.YtnaoafogdplnaaaRows
import Derived.Test.YtnaoafogdplnaaaJOwn1

namespace Go.Proofs.Ytnaoafogdplnaaa
open Go Go.RowKit K SH
namespace SH
def hashC (v : V8) (bk : List UInt8) (hv : Int) (n : UInt64) : Array Value := (ws v.l ++ bs bk ++ [.int .i64 hv, u64 n]).toArray
theorem getV_state (v : V8) (bk : List UInt8) (hv : Int) (n : UInt64) : getV true 8 (hashC v bk hv n) 0 = some (arr32 v.l) :=
 getV_seg (a := []) (b := ws v.l) (c := bs bk ++ [.int .i64 hv, u64 n]) (by simp) rfl rfl
end SH
section
variable {m m0 : Mem} {F : List Nat} {w0 w wI : World} {Es : List Ent}
theorem c_spreadS {b : Nat} {v : V8} {bk : List UInt8} {hv : Int} {n : UInt64} {t : TypeId} (st : St m0 m F w0 w Es) (i : Nat) (hi : Es[i]? = some (K.blk b (hashC v bk hv n) t)) (hl : bk.length = 64) :
  Ret Try.prog 85 #[.pointer (some ⟨b, 8, none⟩)] w fun v w' => Tch w w' [] [] ∧ v = arr32 (sched bk) := by
 obtain ⟨ml, himl, _, hbl, _⟩ := st.lend (i := i) hi
 exact c_spread himl hbl (pre := ws v.l) (post := [.int .i64 hv, u64 n]) rfl rfl hl
theorem c_mix {b : Nat} {v : V8} {bk : List UInt8} {hv : Int} {n : UInt64} (him : Im m wI) (hE : (K.blk b (hashC v bk hv n) 107).holds wI) (hm : m b = none) (hl : bk.length = 64) :
  Ret Try.prog 79 #[.pointer (some ⟨b, 0, none⟩)] wI fun _ w' => Tch wI w' [b] [b] ∧ (K.blk b (hashC (comp v bk) bk 0 n) 107).holds w' := by
 have st := St.startE him hE (by simpa [K.blk] using hm)
 refine ret_of Try.call79 Try.func79 rfl Try.ntmps79 Try.results79 rfl ?_
 refine wc_seq ?_
 refine wc_draw TF.mixed ?_
 have st := st.pure (touch_drew _)
 show FL _ _ ?ops0 ?post0 [] [] [] _ _
 have fin : ∀ (r : Fr) (w : World) (b2 b3 b4 : Nat), r 0 = .pointer (some ⟨b, 0, none⟩) → r 2 = .pointer (some ⟨b2, 0, none⟩) → r 3 = .pointer (some ⟨b3, 0, none⟩) → r 4 = .pointer (some ⟨b4, 0, none⟩) → r 15 = arr32 (sched bk) → r 16 = arr32 kk → r 17 = .pointer (some ⟨b, 0, none⟩) → r 18 = .pointer (some ⟨b, 0, none⟩) → r 19 = .pointer (some ⟨b, 0, none⟩) → r 20 = arr32 v.l →
  St m m [b] wI w [K.blk b4 (Array.replicate 8 (u32 0)) 102, K.blk b3 (Array.replicate 64 (u32 0)) 108, K.blk b2 (Array.replicate 64 (u32 0)) 108, K.blk b (hashC v bk hv n) 107] → FL Try.prog 115 ?ops0 ?post0 [11, 10, 9, 4, 3, 8, 7, 6, 5, 2, 1, 0] [7, 6, 5, 1, 0] [8] r w := by
  clear st
  rintro r w b2 b3 b4 h0 h2 h3 h4 h15 h16 h17 h18 h19 h20 st
  refine fl_o 0 h0 (fl_o 2 h2 (fl_o 3 h3 (fl_o 4 h4 (fl_o 15 h15 (fl_o 16 h16 (fl_o 17 h17 (fl_o 18 h18 (fl_o 19 h19 (fl_o 20 h20 ?_)))))))))
  refine fl_eff1 12 [7, 6, 5] [8] (by kernel_rfl) ⟨obl_ld rfl rfl rfl (v_load rfl (by first | exact st.reads 0 rfl TF.t102 (getV_state ..) | exact st.reads 1 rfl TF.t102 (getV_state ..) | exact st.reads 2 rfl TF.t102 (getV_state ..) | exact st.reads 3 rfl TF.t102 (getV_state ..))), trivial⟩ rfl ?_
  refine wl_storeW (cs := (ws (sched bk)).toArray) 2 st rfl TF.t108 rfl rfl (by simp [ws, length_sched]) rfl (by simpa using one_ws _) ?_
  intro w st
  refine wl_nil ⟨rfl, ?_⟩
  refine fl_eff1 13 [7, 6, 5] [8] (by kernel_rfl) ⟨obl_ld rfl rfl rfl (v_load rfl (by first | exact st.reads 0 rfl TF.t102 (getV_state ..) | exact st.reads 1 rfl TF.t102 (getV_state ..) | exact st.reads 2 rfl TF.t102 (getV_state ..) | exact st.reads 3 rfl TF.t102 (getV_state ..))), trivial⟩ rfl ?_
  refine wl_storeW (cs := (ws kk).toArray) 1 st rfl TF.t108 rfl rfl rfl rfl (by simpa using one_ws _) ?_
  intro w st
  refine wl_nil ⟨rfl, ?_⟩
  refine fl_eff1 14 [] [] (by kernel_rfl) ⟨obl_ld rfl rfl rfl (v_load rfl (by first | exact st.reads 0 rfl TF.t102 (getV_state ..) | exact st.reads 1 rfl TF.t102 (getV_state ..) | exact st.reads 2 rfl TF.t102 (getV_state ..) | exact st.reads 3 rfl TF.t102 (getV_state ..))), trivial⟩ rfl ?_
  refine wl_storeW (cs := (ws v.l).toArray) 0 st rfl TF.t102 rfl rfl rfl rfl (by simpa using one_ws _) ?_
  intro w st
  refine wl_nil ⟨rfl, ?_⟩
  refine fl_nil (by kernel_rfl) trivial ?_
  refine then_go ?_
  refine wc_seq ?_
  refine wc_seq ?_
  refine wc_region ?_
  refine wl_val (v_move' (by conv => (lhs; whnf))) rfl ?_
  refine wl_nil ?_
  refine then_go ?_
  refine wc_block ?_
  refine wc_loop (S := Nat) (fun q r w' => ∃ j, q + j = 64 ∧ r 0 = .pointer (some ⟨b, 0, none⟩) ∧ r 2 = .pointer (some ⟨b2, 0, none⟩) ∧ r 3 = .pointer (some ⟨b3, 0, none⟩) ∧ r 4 = .pointer (some ⟨b4, 0, none⟩) ∧ r 21 = .int .i64 j ∧
   St m m [b] wI w' [K.blk b4 (ws (rnds j v (sched bk)).l).toArray 102, K.blk b3 (ws kk).toArray 108, K.blk b2 (ws (sched bk)).toArray 108, K.blk b (hashC v bk hv n) 107]) id 64 ⟨0, rfl, rfl, rfl, rfl, rfl, rfl, st⟩ ?_
  rintro q r w2 ⟨j, hqj, h0, h2, h3, h4, h21, st⟩
  refine wc_o 0 h0 (wc_o 2 h2 (wc_o 3 h3 (wc_o 4 h4 (wc_o 21 h21 ?_))))
  refine wc_seq ?_
  refine wc_region ?_
  refine wl_val (v_lss rfl rfl) rfl ?_
  refine wl_nil ?_
  refine then_go ?_
  refine wc_seq ?_
  refine wc_if rfl (fun h22 => ?_) (fun h22 => ?_)
  ·refine wc_skip ?_
   refine then_go ?_
   refine wc_seq ?_
   refine wc_block ?_
   refine wc_seq ?_
   refine wc_region ?_
   refine wl_val (v_move' (by conv => (lhs; whnf))) rfl ?_
   refine wl_val (v_assign' (by conv => (lhs; whnf))) rfl ?_
   refine wl_nil ?_
   refine then_go ?_
   refine wc_seq ?_
   have hj : j < 64 := by omega
   obtain ⟨u, hu⟩ : ∃ u, u = rnds j v (sched bk) := ⟨_, rfl⟩
   obtain ⟨kj, hkj⟩ : ∃ x, x = kk.getD j 0 := ⟨_, rfl⟩
   obtain ⟨wj, hwj⟩ : ∃ x, x = (sched bk).getD j 0 := ⟨_, rfl⟩
   rw [← hu] at st
   refine wc_draw TF.mixed ?_
   have st := st.pure (touch_drew _)
   refine fl_val 0 rfl (fun _ => (v_iaa 0 Try.underlying102 TF.t101 rfl rfl (by first | rfl | omega) (by first | omega | (dsimp only at *; omega)))) rfl (by kernel_rfl) ?_
   refine fl_ld 1 rfl (v_load rfl (st.reads (v := u32 u.a) 0 rfl TF.t101 rfl)) (by kernel_rfl) ?_
   refine fl_val 2 rfl (fun _ => (v_iaa 4 Try.underlying102 TF.t101 rfl rfl (by first | rfl | omega) (by first | omega | (dsimp only at *; omega)))) rfl (by kernel_rfl) ?_
   refine fl_ld 3 rfl (v_load rfl (st.reads (v := u32 u.e) 0 rfl TF.t101 rfl)) (by kernel_rfl) ?_
   refine fl_eff1 4 [2] [3] (by kernel_rfl) ⟨obl_ld rfl rfl rfl (v_load rfl (st.reads (v := u32 u.e) 0 rfl TF.t101 rfl)), obl_ld rfl rfl rfl (v_load rfl (st.reads (v := u32 u.a) 0 rfl TF.t101 rfl)), trivial⟩ rfl ?_
   refine wl_val (v_assign' (by conv => (lhs; whnf))) rfl ?_
   refine wl_nil ⟨rfl, ?_⟩
   refine fl_eff1 5 [] [] (by kernel_rfl) ⟨obl_ld rfl rfl rfl (v_load rfl (st.reads (v := u32 u.e) 0 rfl TF.t101 rfl)), trivial⟩ rfl ?_
   refine wl_val (v_assign' (by conv => (lhs; whnf))) rfl ?_
   refine wl_nil ⟨rfl, ?_⟩
   refine fl_nil (by kernel_rfl) trivial ?_
   refine then_go ?_
   refine wc_seq ?_
   refine wc_draw TF.mixed ?_
   have st := st.pure (touch_drew _)
   refine fl_val 0 rfl (fun _ => (v_iaa 7 Try.underlying102 TF.t101 rfl rfl (by first | rfl | omega) (by first | omega | (dsimp only at *; omega)))) rfl (by kernel_rfl) ?_
   refine fl_ld 1 rfl (v_load rfl (st.reads (v := u32 u.h) 0 rfl TF.t101 rfl)) (by kernel_rfl) ?_
   refine fl_val 2 rfl (fun _ => (v_move' (by conv => (lhs; whnf)))) rfl (by kernel_rfl) ?_
   refine fl_val 4 rfl (fun _ => (v_move' (by conv => (lhs; whnf)))) rfl (by kernel_rfl) ?_
   refine fl_val 7 rfl (fun _ => (v_move' (by conv => (lhs; whnf)))) rfl (by kernel_rfl) ?_
   refine fl_val 11 rfl (fun _ => (v_move' (by conv => (lhs; whnf)))) rfl (by kernel_rfl) ?_
   refine fl_val 12 rfl (fun _ => (v_iaa 5 Try.underlying102 TF.t101 rfl rfl (by first | rfl | omega) (by first | omega | (dsimp only at *; omega)))) rfl (by kernel_rfl) ?_
   refine fl_ld 13 rfl (v_load rfl (st.reads (v := u32 u.f) 0 rfl TF.t101 rfl)) (by kernel_rfl) ?_
   refine fl_val 14 rfl (fun _ => (v_and32 rfl rfl)) rfl (by kernel_rfl) ?_
   refine fl_val 15 rfl (fun _ => (v_move' (by conv => (lhs; whnf)))) rfl (by kernel_rfl) ?_
   refine fl_val 16 rfl (fun _ => (v_not32 Try.underlying101 rfl)) rfl (by kernel_rfl) ?_
   refine fl_val 17 rfl (fun _ => (v_iaa 6 Try.underlying102 TF.t101 rfl rfl (by first | rfl | omega) (by first | omega | (dsimp only at *; omega)))) rfl (by kernel_rfl) ?_
   refine fl_ld 18 rfl (v_load rfl (st.reads (v := u32 u.g) 0 rfl TF.t101 rfl)) (by kernel_rfl) ?_
   refine fl_val 19 rfl (fun _ => (v_and32 rfl rfl)) rfl (by kernel_rfl) ?_
   refine fl_val 20 rfl (fun _ => (v_xor32 rfl rfl)) rfl (by kernel_rfl) ?_
   refine fl_val 22 rfl (fun _ => (v_move' (by conv => (lhs; whnf)))) rfl (by kernel_rfl) ?_
   refine fl_val 23 rfl (fun _ => (v_iaa j Try.underlying108 TF.t101 rfl rfl (by first | rfl | omega) (by first | omega | (dsimp only at *; omega)))) rfl (by kernel_rfl) ?_
   refine fl_ld 24 rfl (v_load rfl (st.reads (v := u32 kj) 1 rfl TF.t101 (by rw [hkj]; exact getV_wse (j := j) (by omega) (by rw [length_kk]; omega)))) (by kernel_rfl) ?_
   refine fl_val 26 rfl (fun _ => (v_move' (by conv => (lhs; whnf)))) rfl (by kernel_rfl) ?_
   refine fl_val 27 rfl (fun _ => (v_iaa j Try.underlying108 TF.t101 rfl rfl (by first | rfl | omega) (by first | omega | (dsimp only at *; omega)))) rfl (by kernel_rfl) ?_
   refine fl_ld 28 rfl (v_load rfl (st.reads (v := u32 wj) 2 rfl TF.t101 (by rw [hwj]; exact getV_wse (j := j) (by omega) (by rw [length_sched]; omega)))) (by kernel_rfl) ?_
   refine fl_eff1 3 [27, 26, 23, 22, 20, 19, 17, 16, 15, 14, 12, 11, 7, 4, 0] [28, 24, 18, 13, 1] (by kernel_rfl) ⟨obl_ld rfl rfl rfl (v_load rfl (st.reads (v := u32 wj) 2 rfl TF.t101 (by rw [hwj]; exact getV_wse (j := j) (by omega) (by rw [length_sched]; omega)))), obl_ld rfl rfl rfl (v_load rfl (st.reads (v := u32 kj) 1 rfl TF.t101 (by rw [hkj]; exact getV_wse (j := j) (by omega) (by rw [length_kk]; omega)))), obl_ld rfl rfl rfl (v_load rfl (st.reads (v := u32 u.g) 0 rfl TF.t101 rfl)), obl_ld rfl rfl rfl (v_load rfl (st.reads (v := u32 u.f) 0 rfl TF.t101 rfl)), obl_ld rfl rfl rfl (v_load rfl (st.reads (v := u32 u.h) 0 rfl TF.t101 rfl)), trivial⟩ rfl ?_
   refine wl_call rfl (c_rotl 6 (by decide) (by decide) (by decide)) rfl ?_
   rintro v31 w ⟨rfl, rfl⟩
   refine wl_nil ⟨rfl, ?_⟩
   refine fl_eff1 5 [27, 26, 23, 22, 20, 19, 17, 16, 15, 14, 12, 11, 7, 0] [28, 24, 18, 13, 1] (by kernel_rfl) ⟨obl_ld rfl rfl rfl (v_load rfl (st.reads (v := u32 wj) 2 rfl TF.t101 (by rw [hwj]; exact getV_wse (j := j) (by omega) (by rw [length_sched]; omega)))), obl_ld rfl rfl rfl (v_load rfl (st.reads (v := u32 kj) 1 rfl TF.t101 (by rw [hkj]; exact getV_wse (j := j) (by omega) (by rw [length_kk]; omega)))), obl_ld rfl rfl rfl (v_load rfl (st.reads (v := u32 u.g) 0 rfl TF.t101 rfl)), obl_ld rfl rfl rfl (v_load rfl (st.reads (v := u32 u.f) 0 rfl TF.t101 rfl)), obl_ld rfl rfl rfl (v_load rfl (st.reads (v := u32 u.h) 0 rfl TF.t101 rfl)), trivial⟩ rfl ?_
   refine wl_call rfl (c_rotl 11 (by decide) (by decide) (by decide)) rfl ?_
   rintro v33 w ⟨rfl, rfl⟩
   refine wl_nil ⟨rfl, ?_⟩
   refine fl_val 6 rfl (fun _ => (v_xor32 rfl rfl)) rfl (by kernel_rfl) ?_
   refine fl_eff1 8 [6, 27, 26, 23, 22, 20, 19, 17, 16, 15, 14, 12, 11, 0] [28, 24, 18, 13, 1] (by kernel_rfl) ⟨obl_ld rfl rfl rfl (v_load rfl (st.reads (v := u32 wj) 2 rfl TF.t101 (by rw [hwj]; exact getV_wse (j := j) (by omega) (by rw [length_sched]; omega)))), obl_ld rfl rfl rfl (v_load rfl (st.reads (v := u32 kj) 1 rfl TF.t101 (by rw [hkj]; exact getV_wse (j := j) (by omega) (by rw [length_kk]; omega)))), obl_ld rfl rfl rfl (v_load rfl (st.reads (v := u32 u.g) 0 rfl TF.t101 rfl)), obl_ld rfl rfl rfl (v_load rfl (st.reads (v := u32 u.f) 0 rfl TF.t101 rfl)), obl_ld rfl rfl rfl (v_load rfl (st.reads (v := u32 u.h) 0 rfl TF.t101 rfl)), trivial⟩ rfl ?_
   refine wl_call rfl (c_rotl 25 (by decide) (by decide) (by decide)) rfl ?_
   rintro v36 w ⟨rfl, rfl⟩
   refine wl_nil ⟨rfl, ?_⟩
   refine fl_val 9 rfl (fun _ => (v_xor32 rfl rfl)) rfl (by kernel_rfl) ?_
   refine fl_val 10 rfl (fun _ => (v_add32 rfl rfl)) rfl (by kernel_rfl) ?_
   refine fl_val 21 rfl (fun _ => (v_add32 rfl rfl)) rfl (by kernel_rfl) ?_
   refine fl_val 25 rfl (fun _ => (v_add32 rfl rfl)) rfl (by kernel_rfl) ?_
   refine fl_val 29 rfl (fun _ => (v_add32 rfl rfl)) rfl (by kernel_rfl) ?_
   refine fl_eff1 30 [] [] (by kernel_rfl) ⟨obl_ld rfl rfl rfl (v_load rfl (st.reads (v := u32 wj) 2 rfl TF.t101 (by rw [hwj]; exact getV_wse (j := j) (by omega) (by rw [length_sched]; omega)))), obl_ld rfl rfl rfl (v_load rfl (st.reads (v := u32 kj) 1 rfl TF.t101 (by rw [hkj]; exact getV_wse (j := j) (by omega) (by rw [length_kk]; omega)))), obl_ld rfl rfl rfl (v_load rfl (st.reads (v := u32 u.g) 0 rfl TF.t101 rfl)), obl_ld rfl rfl rfl (v_load rfl (st.reads (v := u32 u.f) 0 rfl TF.t101 rfl)), obl_ld rfl rfl rfl (v_load rfl (st.reads (v := u32 u.h) 0 rfl TF.t101 rfl)), trivial⟩ rfl ?_
   refine wl_val (v_assign' (by conv => (lhs; whnf))) rfl ?_
   refine wl_nil ⟨rfl, ?_⟩
   refine fl_nil (by kernel_rfl) trivial ?_
   refine then_go ?_
   refine wc_seq ?_
   refine wc_draw TF.mixed ?_
   have st := st.pure (touch_drew _)
   refine fl_val 0 rfl (fun _ => (v_move' (by conv => (lhs; whnf)))) rfl (by kernel_rfl) ?_
   refine fl_val 2 rfl (fun _ => (v_move' (by conv => (lhs; whnf)))) rfl (by kernel_rfl) ?_
   refine fl_val 5 rfl (fun _ => (v_move' (by conv => (lhs; whnf)))) rfl (by kernel_rfl) ?_
   refine fl_val 8 rfl (fun _ => (v_move' (by conv => (lhs; whnf)))) rfl (by kernel_rfl) ?_
   refine fl_val 9 rfl (fun _ => (v_iaa 1 Try.underlying102 TF.t101 rfl rfl (by first | rfl | omega) (by first | omega | (dsimp only at *; omega)))) rfl (by kernel_rfl) ?_
   refine fl_ld 10 rfl (v_load rfl (st.reads (v := u32 u.b) 0 rfl TF.t101 rfl)) (by kernel_rfl) ?_
   refine fl_val 11 rfl (fun _ => (v_and32 rfl rfl)) rfl (by kernel_rfl) ?_
   refine fl_val 12 rfl (fun _ => (v_move' (by conv => (lhs; whnf)))) rfl (by kernel_rfl) ?_
   refine fl_val 13 rfl (fun _ => (v_iaa 2 Try.underlying102 TF.t101 rfl rfl (by first | rfl | omega) (by first | omega | (dsimp only at *; omega)))) rfl (by kernel_rfl) ?_
   refine fl_ld 14 rfl (v_load rfl (st.reads (v := u32 u.c) 0 rfl TF.t101 rfl)) (by kernel_rfl) ?_
   refine fl_val 15 rfl (fun _ => (v_and32 rfl rfl)) rfl (by kernel_rfl) ?_
   refine fl_val 16 rfl (fun _ => (v_xor32 rfl rfl)) rfl (by kernel_rfl) ?_
   refine fl_val 17 rfl (fun _ => (v_iaa 1 Try.underlying102 TF.t101 rfl rfl (by first | rfl | omega) (by first | omega | (dsimp only at *; omega)))) rfl (by kernel_rfl) ?_
   refine fl_ld 18 rfl (v_load rfl (st.reads (v := u32 u.b) 0 rfl TF.t101 rfl)) (by kernel_rfl) ?_
   refine fl_val 19 rfl (fun _ => (v_iaa 2 Try.underlying102 TF.t101 rfl rfl (by first | rfl | omega) (by first | omega | (dsimp only at *; omega)))) rfl (by kernel_rfl) ?_
   refine fl_ld 20 rfl (v_load rfl (st.reads (v := u32 u.c) 0 rfl TF.t101 rfl)) (by kernel_rfl) ?_
   refine fl_val 21 rfl (fun _ => (v_and32 rfl rfl)) rfl (by kernel_rfl) ?_
   refine fl_val 22 rfl (fun _ => (v_xor32 rfl rfl)) rfl (by kernel_rfl) ?_
   refine fl_eff1 1 [22, 21, 19, 17, 16, 15, 13, 12, 11, 9, 8, 5, 2] [20, 18, 14, 10] (by kernel_rfl) ⟨obl_ld rfl rfl rfl (v_load rfl (st.reads (v := u32 u.c) 0 rfl TF.t101 rfl)), obl_ld rfl rfl rfl (v_load rfl (st.reads (v := u32 u.b) 0 rfl TF.t101 rfl)), obl_ld rfl rfl rfl (v_load rfl (st.reads (v := u32 u.c) 0 rfl TF.t101 rfl)), obl_ld rfl rfl rfl (v_load rfl (st.reads (v := u32 u.b) 0 rfl TF.t101 rfl)), trivial⟩ rfl ?_
   refine wl_call rfl (c_rotl 2 (by decide) (by decide) (by decide)) rfl ?_
   rintro v59 w ⟨rfl, rfl⟩
   refine wl_nil ⟨rfl, ?_⟩
   refine fl_eff1 3 [22, 21, 19, 17, 16, 15, 13, 12, 11, 9, 8, 5] [20, 18, 14, 10] (by kernel_rfl) ⟨obl_ld rfl rfl rfl (v_load rfl (st.reads (v := u32 u.c) 0 rfl TF.t101 rfl)), obl_ld rfl rfl rfl (v_load rfl (st.reads (v := u32 u.b) 0 rfl TF.t101 rfl)), obl_ld rfl rfl rfl (v_load rfl (st.reads (v := u32 u.c) 0 rfl TF.t101 rfl)), obl_ld rfl rfl rfl (v_load rfl (st.reads (v := u32 u.b) 0 rfl TF.t101 rfl)), trivial⟩ rfl ?_
   refine wl_call rfl (c_rotl 13 (by decide) (by decide) (by decide)) rfl ?_
   rintro v61 w ⟨rfl, rfl⟩
   refine wl_nil ⟨rfl, ?_⟩
   refine fl_val 4 rfl (fun _ => (v_xor32 rfl rfl)) rfl (by kernel_rfl) ?_
   refine fl_eff1 6 [4, 22, 21, 19, 17, 16, 15, 13, 12, 11, 9, 8] [20, 18, 14, 10] (by kernel_rfl) ⟨obl_ld rfl rfl rfl (v_load rfl (st.reads (v := u32 u.c) 0 rfl TF.t101 rfl)), obl_ld rfl rfl rfl (v_load rfl (st.reads (v := u32 u.b) 0 rfl TF.t101 rfl)), obl_ld rfl rfl rfl (v_load rfl (st.reads (v := u32 u.c) 0 rfl TF.t101 rfl)), obl_ld rfl rfl rfl (v_load rfl (st.reads (v := u32 u.b) 0 rfl TF.t101 rfl)), trivial⟩ rfl ?_
   refine wl_call rfl (c_rotl 22 (by decide) (by decide) (by decide)) rfl ?_
   rintro v64 w ⟨rfl, rfl⟩
   refine wl_nil ⟨rfl, ?_⟩
   refine fl_val 7 rfl (fun _ => (v_xor32 rfl rfl)) rfl (by kernel_rfl) ?_
   refine fl_val 23 rfl (fun _ => (v_add32 rfl rfl)) rfl (by kernel_rfl) ?_
   refine fl_eff1 24 [] [] (by kernel_rfl) ⟨obl_ld rfl rfl rfl (v_load rfl (st.reads (v := u32 u.c) 0 rfl TF.t101 rfl)), obl_ld rfl rfl rfl (v_load rfl (st.reads (v := u32 u.b) 0 rfl TF.t101 rfl)), obl_ld rfl rfl rfl (v_load rfl (st.reads (v := u32 u.c) 0 rfl TF.t101 rfl)), obl_ld rfl rfl rfl (v_load rfl (st.reads (v := u32 u.b) 0 rfl TF.t101 rfl)), trivial⟩ rfl ?_
   refine wl_val (v_assign' (by conv => (lhs; whnf))) rfl ?_
   refine wl_nil ⟨rfl, ?_⟩
   refine fl_nil (by kernel_rfl) trivial ?_
   refine then_go ?_
   refine wc_seq ?_
   refine wc_draw TF.mixed ?_
   have st := st.pure (touch_drew _)
   refine fl_val 0 rfl (fun _ => (v_sla 1 8 Try.underlying102 TF.t101 rfl ⟨_, _, rfl, rfl⟩ rfl (by omega) (by omega) (by omega))) rfl (by kernel_rfl) ?_
   refine fl_val 1 rfl (fun _ => (v_sla 0 7 Try.underlying102 TF.t101 rfl rfl ⟨_, _, rfl, rfl⟩ (by omega) (by omega) (by omega))) rfl (by kernel_rfl) ?_
   refine fl_eff1 2 [] [] (by kernel_rfl) trivial rfl ?_
   refine wl_copy (size := 1) (b := b4) (off := 0 + 1 * 1) (len := 8 - 1) (cap := 8 - 1) (j := 7) (news := ws [u.a, u.b, u.c, u.d, u.e, u.f, u.g]) 0 st rfl Try.underlying114 TF.t101 rfl rfl (st.srcArr (off := 0) 0 rfl rfl (fun j x hj => by rw [Nat.zero_add]; match j, hj with | 0, hj => exact hj | 1, hj => exact hj | 2, hj => exact hj | 3, hj => exact hj | 4, hj => exact hj | 5, hj => exact hj | 6, hj => exact hj | j + 7, hj => exact absurd hj (by simp [ws])) (one_ws _)) (by simp [ws, V8.l]) rfl ?_
   intro w st
   refine wl_nil ⟨rfl, ?_⟩
   refine fl_nil (by kernel_rfl) trivial ?_
   have e : setSeg (ws u.l).toArray (0 + 1 * 1) ((ws [u.a, u.b, u.c, u.d, u.e, u.f, u.g]).take (min 7 (8 - 1) * 1)) = (ws [u.a, u.a, u.b, u.c, u.d, u.e, u.f, u.g]).toArray := rfl
   change St _ _ _ _ _ [K.blk b4 (setSeg (ws u.l).toArray (0 + 1 * 1) ((ws [u.a, u.b, u.c, u.d, u.e, u.f, u.g]).take (min 7 (8 - 1) * 1))) _, _, _, _] at st
   rw [e] at st
   refine then_go ?_
   refine wc_region ?_
   refine wl_val (v_move' (by conv => (lhs; whnf))) rfl ?_
   refine wl_val (v_move' (by conv => (lhs; whnf))) rfl ?_
   refine wl_val (v_add32 rfl rfl) rfl ?_
   refine wl_val (v_iaa 4 Try.underlying102 TF.t101 rfl rfl (by first | rfl | omega) (by first | omega | (dsimp only at *; omega))) rfl ?_
   refine wl_val (v_load rfl (st.reads (v := u32 u.d) 0 rfl TF.t101 rfl)) rfl ?_
   refine wl_val (v_move' (by conv => (lhs; whnf))) rfl ?_
   refine wl_val (v_add32 rfl rfl) rfl ?_
   refine wl_val (v_iaa 0 Try.underlying102 TF.t101 rfl rfl (by first | rfl | omega) (by first | omega | (dsimp only at *; omega))) rfl ?_
   refine wl_store1 (v := u32 (t1 u kj wj + t2 u)) 0 st rfl TF.t101 rfl rfl rfl (by simp [ws]) ?_
   intro w st
   refine wl_val (v_iaa 4 Try.underlying102 TF.t101 rfl rfl (by first | rfl | omega) (by first | omega | (dsimp only at *; omega))) rfl ?_
   refine wl_store1 (v := u32 (u.d + t1 u kj wj)) 0 st rfl TF.t101 rfl rfl rfl (by simp [ws]) ?_
   intro w st
   refine wl_nil ?_
   have e : (((ws [u.a, u.a, u.b, u.c, u.d, u.e, u.f, u.g]).toArray.setIfInBounds (0 + 0 * 1) (u32 (t1 u kj wj + t2 u))).setIfInBounds (0 + 4 * 1) (u32 (u.d + t1 u kj wj))) = (ws (rnd u kj wj).l).toArray := rfl
   change St _ _ _ _ _ [K.blk b4 (((ws [u.a, u.a, u.b, u.c, u.d, u.e, u.f, u.g]).toArray.setIfInBounds (0 + 0 * 1) (u32 (t1 u kj wj + t2 u))).setIfInBounds (0 + 4 * 1) (u32 (u.d + t1 u kj wj))) _, _, _, _] at st
   rw [e, show rnd u kj wj = rnds (j + 1) v (sched bk) by rw [hu, hkj, hwj]; rfl] at st
   refine block_go (then_go ?_)
   refine wc_region ?_
   refine wl_val (v_add' rfl rfl rfl (by first | omega | (dsimp only at *; omega)) (by first | omega | (dsimp only at *; omega))) rfl ?_
   refine wl_val (v_move' (by conv => (lhs; whnf))) rfl ?_
   refine wl_nil ?_
   refine then_go ?_
   exact ⟨q - 1, by simp; omega, j + 1, by omega, rfl, rfl, rfl, rfl, rfl, st⟩
  ·refine wc_exit (then_exit (then_exit (block_hit ?_)))
   refine then_go ?_
   refine wc_seq ?_
   refine wc_seq ?_
   have hj64 : j = 64 := by omega
   subst hj64
   obtain ⟨u, hu⟩ : ∃ u, u = rnds 64 v (sched bk) := ⟨_, rfl⟩
   rw [← hu] at st
   have e0 : hashC v bk hv n = (ws (addI v u 0) ++ (bs bk ++ [.int .i64 hv, u64 n])).toArray := by simp [hashC, addI_zero]
   rw [e0] at st
   refine wc_region ?_
   refine wl_val (v_load rfl (st.reads 0 rfl TF.t102 (getV_all (c := (ws u.l).toArray) rfl))) rfl ?_
   refine wl_val (v_move' (by conv => (lhs; whnf))) rfl ?_
   refine wl_nil ?_
   refine then_go ?_
   refine wc_block ?_
   refine wc_loop (S := Nat) (fun q r w' => ∃ i, q + i = 8 ∧ r 0 = .pointer (some ⟨b, 0, none⟩) ∧ r 95 = arr32 u.l ∧ r 96 = .int .i64 i ∧
    St m m [b] wI w' [K.blk b4 (ws u.l).toArray 102, K.blk b3 (ws kk).toArray 108, K.blk b2 (ws (sched bk)).toArray 108, K.blk b (ws (addI v u i) ++ (bs bk ++ [.int .i64 hv, u64 n])).toArray 107]) id 8 ⟨0, rfl, rfl, rfl, rfl, st⟩ ?_
   rintro q2 r w3 ⟨i, hqi, h0, h95, h96, st⟩
   refine wc_o 0 h0 (wc_o 95 h95 (wc_o 96 h96 ?_))
   refine wc_seq ?_
   refine wc_region ?_
   refine wl_val (v_lss rfl rfl) rfl ?_
   refine wl_nil ?_
   refine then_go ?_
   refine wc_seq ?_
   refine wc_if rfl (fun h97 => ?_) (fun h97 => ?_)
   ·refine wc_skip ?_
    refine then_go ?_
    refine wc_seq ?_
    refine wc_block ?_
    refine wc_seq ?_
    have hi : i < 8 := by omega
    refine wc_region ?_
    refine wl_val (v_move' (by conv => (lhs; whnf))) rfl ?_
    refine wl_val (v_index_a (v := u32 (u.l.getD i 0)) Try.underlying102 TF.t101 rfl rfl (by omega) (by omega) (getV_wse (j := i) (by simp) (by rw [length_l]; omega))) rfl ?_
    refine wl_val (v_assign' (by conv => (lhs; whnf))) rfl ?_
    refine wl_val (v_assign' (by conv => (lhs; whnf))) rfl ?_
    refine wl_nil ?_
    refine then_go ?_
    refine wc_draw TF.mixed ?_
    have st := st.pure (touch_drew _)
    refine fl_val 0 rfl (fun _ => (v_move' (by conv => (lhs; whnf)))) rfl (by kernel_rfl) ?_
    refine fl_val 1 rfl (fun _ => (v_move' (by conv => (lhs; whnf)))) rfl (by kernel_rfl) ?_
    refine fl_val 2 rfl (fun _ => (v_nil rfl)) rfl (by kernel_rfl) ?_
    refine fl_val 3 rfl (fun _ => (v_fa TF.f107_0 rfl)) rfl (by kernel_rfl) ?_
    refine fl_val 4 rfl (fun _ => (v_iaa i Try.underlying102 TF.t101 rfl rfl (by first | rfl | omega) (by first | omega | (dsimp only at *; omega)))) rfl (by kernel_rfl) ?_
    refine fl_ld 5 rfl (v_load rfl (st.reads (v := u32 (v.l.getD i 0)) 3 rfl TF.t101 (by rw [← addI_at v u i hi]; exact getV_ws (j := i) (by omega) (by rw [length_addI]; omega)))) (by kernel_rfl) ?_
    refine fl_val 6 rfl (fun _ => (v_move' (by conv => (lhs; whnf)))) rfl (by kernel_rfl) ?_
    refine fl_val 7 rfl (fun _ => (v_add32 rfl rfl)) rfl (by kernel_rfl) ?_
    refine fl_val 8 rfl (fun _ => (v_nil rfl)) rfl (by kernel_rfl) ?_
    refine fl_val 9 rfl (fun _ => (v_fa TF.f107_0 rfl)) rfl (by kernel_rfl) ?_
    refine fl_val 10 rfl (fun _ => (v_iaa i Try.underlying102 TF.t101 rfl rfl (by first | rfl | omega) (by first | omega | (dsimp only at *; omega)))) rfl (by kernel_rfl) ?_
    refine fl_eff1 11 [9, 8] [] (by kernel_rfl) ⟨obl_ld rfl rfl rfl (v_load rfl (st.reads (v := u32 (v.l.getD i 0)) 3 rfl TF.t101 (by rw [← addI_at v u i hi]; exact getV_ws (j := i) (by omega) (by rw [length_addI]; omega)))), trivial⟩ rfl ?_
    refine wl_store1 (v := u32 (v.l.getD i 0 + u.l.getD i 0)) 3 st rfl TF.t101 rfl rfl rfl (by simp [ws, length_addI]; omega) ?_
    intro w st
    refine wl_nil ⟨rfl, ?_⟩
    refine fl_nil (by kernel_rfl) trivial ?_
    refine block_go (then_go ?_)
    refine wc_region ?_
    refine wl_val (v_add' rfl rfl rfl (by first | omega | (dsimp only at *; omega)) (by first | omega | (dsimp only at *; omega))) rfl ?_
    refine wl_val (v_move' (by conv => (lhs; whnf))) rfl ?_
    refine wl_nil ?_
    refine then_go ?_
    refine ⟨q2 - 1, by simp; omega, i + 1, by omega, rfl, rfl, rfl, ?_⟩
    have e := set_ws (L := addI v u i) (X := bs bk ++ [.int .i64 hv, u64 n]) (o := 0 + 0 + i * 1) (i := i) (y := v.l.getD i 0 + u.l.getD i 0) (by omega) (by rw [length_addI]; omega)
    rw [addI_succ] at e
    rw [← e]
    exact st
   ·refine wc_exit (then_exit (then_exit (block_hit ?_)))
    refine then_go ?_
    have hi8 : i = 8 := by omega
    subst hi8
    rw [addI_all, hu] at st
    refine wc_region ?_
    refine wl_val (v_move' (by conv => (lhs; whnf))) rfl ?_
    refine wl_val (v_nil rfl) rfl ?_
    refine wl_val (v_fa TF.f107_2 rfl) rfl ?_
    refine wl_store1 (v := .int .i64 0) 3 st rfl TF.t3 rfl rfl rfl (by simp [ws, bs, hl, length_l]) ?_
    intro w st
    refine wl_nil ?_
    have e : (ws (v.add (rnds 64 v (sched bk))).l ++ (bs bk ++ [.int .i64 hv, u64 n])).toArray.setIfInBounds (0 + 72) (.int .i64 0) = hashC (comp v bk) bk 0 n := by
     have := set_app (A := ws (v.add (rnds 64 v (sched bk))).l ++ bs bk) (B := [u64 n]) (x := .int .i64 0) (y := .int .i64 hv) (n := 0 + 72) (by simp [ws, bs, hl, length_l])
     rw [← List.append_assoc]
     rw [show [Value.int .i64 hv, u64 n] = Value.int .i64 hv :: [u64 n] from rfl, this]
     rfl
    have hfin := st.at (i := 3) rfl
    rw [e] at hfin
    exact end0 ⟨st.touch, hfin⟩
 refine fl_val 0 rfl (fun _ => (v_move' (by conv => (lhs; whnf)))) rfl (by kernel_rfl) ?_
 refine fl_val 1 rfl (fun _ => (v_nil rfl)) rfl (by kernel_rfl) ?_
 refine fl_val 2 rfl (fun _ => (v_fa TF.f107_1 rfl)) rfl (by kernel_rfl) ?_
 refine fl_val 5 rfl (fun _ => (v_move' (by conv => (lhs; whnf)))) rfl (by kernel_rfl) ?_
 refine fl_val 6 rfl (fun _ => (v_nil rfl)) rfl (by kernel_rfl) ?_
 refine fl_val 7 rfl (fun _ => (v_fa TF.f107_0 rfl)) rfl (by kernel_rfl) ?_
 refine fl_ld 8 rfl (v_load rfl (by first | exact st.reads 0 rfl TF.t102 (getV_state ..) | exact st.reads 1 rfl TF.t102 (getV_state ..) | exact st.reads 2 rfl TF.t102 (getV_state ..) | exact st.reads 3 rfl TF.t102 (getV_state ..))) (by kernel_rfl) ?_
 refine fl_effs [3, 9, 10, 11] (by kernel_rfl) ⟨obl_ld rfl rfl rfl (v_load rfl (by first | exact st.reads 0 rfl TF.t102 (getV_state ..) | exact st.reads 1 rfl TF.t102 (getV_state ..) | exact st.reads 2 rfl TF.t102 (getV_state ..) | exact st.reads 3 rfl TF.t102 (getV_state ..))), trivial⟩ (all4 ?_ ?_ ?_ ?_)
 ·refine stepE 3 (pure' := [7, 6, 5, 1, 0]) (lds' := [8]) rfl (by kernel_rfl) (by kernel_rfl) ?_
  refine wl_call rfl (by first | exact c_spreadS st 0 rfl hl | exact c_spreadS st 1 rfl hl | exact c_spreadS st 2 rfl hl | exact c_spreadS st 3 rfl hl) rfl ?_
  rintro v15 w ⟨t, rfl⟩
  have st := st.pure t
  refine wl_nil ⟨rfl, ?_⟩
  refine fl_effs [4, 9, 10, 11] (by kernel_rfl) ⟨obl_ld rfl rfl rfl (v_load rfl (by first | exact st.reads 0 rfl TF.t102 (getV_state ..) | exact st.reads 1 rfl TF.t102 (getV_state ..) | exact st.reads 2 rfl TF.t102 (getV_state ..) | exact st.reads 3 rfl TF.t102 (getV_state ..))), trivial⟩ (all4 ?_ ?_ ?_ ?_)
  ·refine stepE 4 (pure' := [7, 6, 5, 1, 0]) (lds' := [8]) rfl (by kernel_rfl) (by kernel_rfl) ?_
   refine wl_call rfl (c_factors st.im) rfl ?_
   rintro v16 w ⟨t, rfl⟩
   have st := st.pure t
   refine wl_nil ⟨rfl, ?_⟩
   refine fl_effs [9, 10, 11] (by kernel_rfl) ⟨obl_ld rfl rfl rfl (v_load rfl (by first | exact st.reads 0 rfl TF.t102 (getV_state ..) | exact st.reads 1 rfl TF.t102 (getV_state ..) | exact st.reads 2 rfl TF.t102 (getV_state ..) | exact st.reads 3 rfl TF.t102 (getV_state ..))), trivial⟩ (all3 ?_ ?_ ?_)
   ·refine stepE 9 (pure' := [7, 6, 5, 1, 0]) (lds' := [8]) rfl (by kernel_rfl) (by kernel_rfl) ?_
    refine wl_alloc TF.z108 st rfl ?_
    intro b2 w st
    refine wl_nil ⟨rfl, ?_⟩
    refine fl_effs [10, 11] (by kernel_rfl) ⟨obl_ld rfl rfl rfl (v_load rfl (by first | exact st.reads 0 rfl TF.t102 (getV_state ..) | exact st.reads 1 rfl TF.t102 (getV_state ..) | exact st.reads 2 rfl TF.t102 (getV_state ..) | exact st.reads 3 rfl TF.t102 (getV_state ..))), trivial⟩ (all2 ?_ ?_)
    ·refine stepE 10 (pure' := [7, 6, 5, 1, 0]) (lds' := [8]) rfl (by kernel_rfl) (by kernel_rfl) ?_
     refine wl_alloc TF.z108 st rfl ?_
     intro b3 w st
     refine wl_nil ⟨rfl, ?_⟩
     refine fl_eff1 11 [7, 6, 5, 1, 0] [8] (by kernel_rfl) ⟨obl_ld rfl rfl rfl (v_load rfl (by first | exact st.reads 0 rfl TF.t102 (getV_state ..) | exact st.reads 1 rfl TF.t102 (getV_state ..) | exact st.reads 2 rfl TF.t102 (getV_state ..) | exact st.reads 3 rfl TF.t102 (getV_state ..))), trivial⟩ rfl ?_
     refine wl_alloc TF.z102 st rfl ?_
     intro b4 w st
     refine wl_nil ⟨rfl, ?_⟩
     refine FL.permB [11, 10, 9, 4, 3, 8, 7, 6, 5, 2, 1, 0] [7, 6, 5, 1, 0] [8] (by kernel_rfl) ?_
     exact fin _ _ _ _ _ rfl rfl rfl rfl rfl rfl rfl rfl rfl rfl (by first | exact st | exact st.perm p3_2 | exact st.perm p3_3 | exact st.perm p3_4 | exact st.perm p3_5 | exact st.perm p3_6)
    ·refine stepE 11 (pure' := [7, 6, 5, 1, 0]) (lds' := [8]) rfl (by kernel_rfl) (by kernel_rfl) ?_
     refine wl_alloc TF.z102 st rfl ?_
     intro b4 w st
     refine wl_nil ⟨rfl, ?_⟩
     refine fl_eff1 10 [7, 6, 5, 1, 0] [8] (by kernel_rfl) ⟨obl_ld rfl rfl rfl (v_load rfl (by first | exact st.reads 0 rfl TF.t102 (getV_state ..) | exact st.reads 1 rfl TF.t102 (getV_state ..) | exact st.reads 2 rfl TF.t102 (getV_state ..) | exact st.reads 3 rfl TF.t102 (getV_state ..))), trivial⟩ rfl ?_
     refine wl_alloc TF.z108 st rfl ?_
     intro b3 w st
     refine wl_nil ⟨rfl, ?_⟩
     refine FL.permB [11, 10, 9, 4, 3, 8, 7, 6, 5, 2, 1, 0] [7, 6, 5, 1, 0] [8] (by kernel_rfl) ?_
     exact fin _ _ _ _ _ rfl rfl rfl rfl rfl rfl rfl rfl rfl rfl (by first | exact st | exact st.perm p3_2 | exact st.perm p3_3 | exact st.perm p3_4 | exact st.perm p3_5 | exact st.perm p3_6)
   ·refine stepE 10 (pure' := [7, 6, 5, 1, 0]) (lds' := [8]) rfl (by kernel_rfl) (by kernel_rfl) ?_
    refine wl_alloc TF.z108 st rfl ?_
    intro b3 w st
    refine wl_nil ⟨rfl, ?_⟩
    refine fl_effs [9, 11] (by kernel_rfl) ⟨obl_ld rfl rfl rfl (v_load rfl (by first | exact st.reads 0 rfl TF.t102 (getV_state ..) | exact st.reads 1 rfl TF.t102 (getV_state ..) | exact st.reads 2 rfl TF.t102 (getV_state ..) | exact st.reads 3 rfl TF.t102 (getV_state ..))), trivial⟩ (all2 ?_ ?_)
    ·refine stepE 9 (pure' := [7, 6, 5, 1, 0]) (lds' := [8]) rfl (by kernel_rfl) (by kernel_rfl) ?_
     refine wl_alloc TF.z108 st rfl ?_
     intro b2 w st
     refine wl_nil ⟨rfl, ?_⟩
     refine fl_eff1 11 [7, 6, 5, 1, 0] [8] (by kernel_rfl) ⟨obl_ld rfl rfl rfl (v_load rfl (by first | exact st.reads 0 rfl TF.t102 (getV_state ..) | exact st.reads 1 rfl TF.t102 (getV_state ..) | exact st.reads 2 rfl TF.t102 (getV_state ..) | exact st.reads 3 rfl TF.t102 (getV_state ..))), trivial⟩ rfl ?_
     refine wl_alloc TF.z102 st rfl ?_
     intro b4 w st
     refine wl_nil ⟨rfl, ?_⟩
     refine FL.permB [11, 10, 9, 4, 3, 8, 7, 6, 5, 2, 1, 0] [7, 6, 5, 1, 0] [8] (by kernel_rfl) ?_
     exact fin _ _ _ _ _ rfl rfl rfl rfl rfl rfl rfl rfl rfl rfl (by first | exact st | exact st.perm p3_2 | exact st.perm p3_3 | exact st.perm p3_4 | exact st.perm p3_5 | exact st.perm p3_6)
    ·refine stepE 11 (pure' := [7, 6, 5, 1, 0]) (lds' := [8]) rfl (by kernel_rfl) (by kernel_rfl) ?_
     refine wl_alloc TF.z102 st rfl ?_
     intro b4 w st
     refine wl_nil ⟨rfl, ?_⟩
     refine fl_eff1 9 [7, 6, 5, 1, 0] [8] (by kernel_rfl) ⟨obl_ld rfl rfl rfl (v_load rfl (by first | exact st.reads 0 rfl TF.t102 (getV_state ..) | exact st.reads 1 rfl TF.t102 (getV_state ..) | exact st.reads 2 rfl TF.t102 (getV_state ..) | exact st.reads 3 rfl TF.t102 (getV_state ..))), trivial⟩ rfl ?_
     refine wl_alloc TF.z108 st rfl ?_
     intro b2 w st
     refine wl_nil ⟨rfl, ?_⟩
     refine FL.permB [11, 10, 9, 4, 3, 8, 7, 6, 5, 2, 1, 0] [7, 6, 5, 1, 0] [8] (by kernel_rfl) ?_
     exact fin _ _ _ _ _ rfl rfl rfl rfl rfl rfl rfl rfl rfl rfl (by first | exact st | exact st.perm p3_2 | exact st.perm p3_3 | exact st.perm p3_4 | exact st.perm p3_5 | exact st.perm p3_6)
   ·refine stepE 11 (pure' := [7, 6, 5, 1, 0]) (lds' := [8]) rfl (by kernel_rfl) (by kernel_rfl) ?_
    refine wl_alloc TF.z102 st rfl ?_
    intro b4 w st
    refine wl_nil ⟨rfl, ?_⟩
    refine fl_effs [9, 10] (by kernel_rfl) ⟨obl_ld rfl rfl rfl (v_load rfl (by first | exact st.reads 0 rfl TF.t102 (getV_state ..) | exact st.reads 1 rfl TF.t102 (getV_state ..) | exact st.reads 2 rfl TF.t102 (getV_state ..) | exact st.reads 3 rfl TF.t102 (getV_state ..))), trivial⟩ (all2 ?_ ?_)
    ·refine stepE 9 (pure' := [7, 6, 5, 1, 0]) (lds' := [8]) rfl (by kernel_rfl) (by kernel_rfl) ?_
     refine wl_alloc TF.z108 st rfl ?_
     intro b2 w st
     refine wl_nil ⟨rfl, ?_⟩
     refine fl_eff1 10 [7, 6, 5, 1, 0] [8] (by kernel_rfl) ⟨obl_ld rfl rfl rfl (v_load rfl (by first | exact st.reads 0 rfl TF.t102 (getV_state ..) | exact st.reads 1 rfl TF.t102 (getV_state ..) | exact st.reads 2 rfl TF.t102 (getV_state ..) | exact st.reads 3 rfl TF.t102 (getV_state ..))), trivial⟩ rfl ?_
     refine wl_alloc TF.z108 st rfl ?_
     intro b3 w st
     refine wl_nil ⟨rfl, ?_⟩
     refine FL.permB [11, 10, 9, 4, 3, 8, 7, 6, 5, 2, 1, 0] [7, 6, 5, 1, 0] [8] (by kernel_rfl) ?_
     exact fin _ _ _ _ _ rfl rfl rfl rfl rfl rfl rfl rfl rfl rfl (by first | exact st | exact st.perm p3_2 | exact st.perm p3_3 | exact st.perm p3_4 | exact st.perm p3_5 | exact st.perm p3_6)
    ·refine stepE 10 (pure' := [7, 6, 5, 1, 0]) (lds' := [8]) rfl (by kernel_rfl) (by kernel_rfl) ?_
     refine wl_alloc TF.z108 st rfl ?_
     intro b3 w st
     refine wl_nil ⟨rfl, ?_⟩
     refine fl_eff1 9 [7, 6, 5, 1, 0] [8] (by kernel_rfl) ⟨obl_ld rfl rfl rfl (v_load rfl (by first | exact st.reads 0 rfl TF.t102 (getV_state ..) | exact st.reads 1 rfl TF.t102 (getV_state ..) | exact st.reads 2 rfl TF.t102 (getV_state ..) | exact st.reads 3 rfl TF.t102 (getV_state ..))), trivial⟩ rfl ?_
     refine wl_alloc TF.z108 st rfl ?_
     intro b2 w st
     refine wl_nil ⟨rfl, ?_⟩
     refine FL.permB [11, 10, 9, 4, 3, 8, 7, 6, 5, 2, 1, 0] [7, 6, 5, 1, 0] [8] (by kernel_rfl) ?_
     exact fin _ _ _ _ _ rfl rfl rfl rfl rfl rfl rfl rfl rfl rfl (by first | exact st | exact st.perm p3_2 | exact st.perm p3_3 | exact st.perm p3_4 | exact st.perm p3_5 | exact st.perm p3_6)
  ·refine stepE 9 (pure' := [7, 6, 5, 1, 0]) (lds' := [8]) rfl (by kernel_rfl) (by kernel_rfl) ?_
   refine wl_alloc TF.z108 st rfl ?_
   intro b2 w st
   refine wl_nil ⟨rfl, ?_⟩
   refine fl_effs [4, 10, 11] (by kernel_rfl) ⟨obl_ld rfl rfl rfl (v_load rfl (by first | exact st.reads 0 rfl TF.t102 (getV_state ..) | exact st.reads 1 rfl TF.t102 (getV_state ..) | exact st.reads 2 rfl TF.t102 (getV_state ..) | exact st.reads 3 rfl TF.t102 (getV_state ..))), trivial⟩ (all3 ?_ ?_ ?_)
   ·refine stepE 4 (pure' := [7, 6, 5, 1, 0]) (lds' := [8]) rfl (by kernel_rfl) (by kernel_rfl) ?_
    refine wl_call rfl (c_factors st.im) rfl ?_
    rintro v16 w ⟨t, rfl⟩
    have st := st.pure t
    refine wl_nil ⟨rfl, ?_⟩
    refine fl_effs [10, 11] (by kernel_rfl) ⟨obl_ld rfl rfl rfl (v_load rfl (by first | exact st.reads 0 rfl TF.t102 (getV_state ..) | exact st.reads 1 rfl TF.t102 (getV_state ..) | exact st.reads 2 rfl TF.t102 (getV_state ..) | exact st.reads 3 rfl TF.t102 (getV_state ..))), trivial⟩ (all2 ?_ ?_)
    ·refine stepE 10 (pure' := [7, 6, 5, 1, 0]) (lds' := [8]) rfl (by kernel_rfl) (by kernel_rfl) ?_
     refine wl_alloc TF.z108 st rfl ?_
     intro b3 w st
     refine wl_nil ⟨rfl, ?_⟩
     refine fl_eff1 11 [7, 6, 5, 1, 0] [8] (by kernel_rfl) ⟨obl_ld rfl rfl rfl (v_load rfl (by first | exact st.reads 0 rfl TF.t102 (getV_state ..) | exact st.reads 1 rfl TF.t102 (getV_state ..) | exact st.reads 2 rfl TF.t102 (getV_state ..) | exact st.reads 3 rfl TF.t102 (getV_state ..))), trivial⟩ rfl ?_
     refine wl_alloc TF.z102 st rfl ?_
     intro b4 w st
     refine wl_nil ⟨rfl, ?_⟩
     refine FL.permB [11, 10, 9, 4, 3, 8, 7, 6, 5, 2, 1, 0] [7, 6, 5, 1, 0] [8] (by kernel_rfl) ?_
     exact fin _ _ _ _ _ rfl rfl rfl rfl rfl rfl rfl rfl rfl rfl (by first | exact st | exact st.perm p3_2 | exact st.perm p3_3 | exact st.perm p3_4 | exact st.perm p3_5 | exact st.perm p3_6)
    ·refine stepE 11 (pure' := [7, 6, 5, 1, 0]) (lds' := [8]) rfl (by kernel_rfl) (by kernel_rfl) ?_
     refine wl_alloc TF.z102 st rfl ?_
     intro b4 w st
     refine wl_nil ⟨rfl, ?_⟩
     refine fl_eff1 10 [7, 6, 5, 1, 0] [8] (by kernel_rfl) ⟨obl_ld rfl rfl rfl (v_load rfl (by first | exact st.reads 0 rfl TF.t102 (getV_state ..) | exact st.reads 1 rfl TF.t102 (getV_state ..) | exact st.reads 2 rfl TF.t102 (getV_state ..) | exact st.reads 3 rfl TF.t102 (getV_state ..))), trivial⟩ rfl ?_
     refine wl_alloc TF.z108 st rfl ?_
     intro b3 w st
     refine wl_nil ⟨rfl, ?_⟩
     refine FL.permB [11, 10, 9, 4, 3, 8, 7, 6, 5, 2, 1, 0] [7, 6, 5, 1, 0] [8] (by kernel_rfl) ?_
     exact fin _ _ _ _ _ rfl rfl rfl rfl rfl rfl rfl rfl rfl rfl (by first | exact st | exact st.perm p3_2 | exact st.perm p3_3 | exact st.perm p3_4 | exact st.perm p3_5 | exact st.perm p3_6)
   ·refine stepE 10 (pure' := [7, 6, 5, 1, 0]) (lds' := [8]) rfl (by kernel_rfl) (by kernel_rfl) ?_
    refine wl_alloc TF.z108 st rfl ?_
    intro b3 w st
    refine wl_nil ⟨rfl, ?_⟩
    refine fl_effs [4, 11] (by kernel_rfl) ⟨obl_ld rfl rfl rfl (v_load rfl (by first | exact st.reads 0 rfl TF.t102 (getV_state ..) | exact st.reads 1 rfl TF.t102 (getV_state ..) | exact st.reads 2 rfl TF.t102 (getV_state ..) | exact st.reads 3 rfl TF.t102 (getV_state ..))), trivial⟩ (all2 ?_ ?_)
    ·refine stepE 4 (pure' := [7, 6, 5, 1, 0]) (lds' := [8]) rfl (by kernel_rfl) (by kernel_rfl) ?_
     refine wl_call rfl (c_factors st.im) rfl ?_
     rintro v16 w ⟨t, rfl⟩
     have st := st.pure t
     refine wl_nil ⟨rfl, ?_⟩
     refine fl_eff1 11 [7, 6, 5, 1, 0] [8] (by kernel_rfl) ⟨obl_ld rfl rfl rfl (v_load rfl (by first | exact st.reads 0 rfl TF.t102 (getV_state ..) | exact st.reads 1 rfl TF.t102 (getV_state ..) | exact st.reads 2 rfl TF.t102 (getV_state ..) | exact st.reads 3 rfl TF.t102 (getV_state ..))), trivial⟩ rfl ?_
     refine wl_alloc TF.z102 st rfl ?_
     intro b4 w st
     refine wl_nil ⟨rfl, ?_⟩
     refine FL.permB [11, 10, 9, 4, 3, 8, 7, 6, 5, 2, 1, 0] [7, 6, 5, 1, 0] [8] (by kernel_rfl) ?_
     exact fin _ _ _ _ _ rfl rfl rfl rfl rfl rfl rfl rfl rfl rfl (by first | exact st | exact st.perm p3_2 | exact st.perm p3_3 | exact st.perm p3_4 | exact st.perm p3_5 | exact st.perm p3_6)
    ·refine stepE 11 (pure' := [7, 6, 5, 1, 0]) (lds' := [8]) rfl (by kernel_rfl) (by kernel_rfl) ?_
     refine wl_alloc TF.z102 st rfl ?_
     intro b4 w st
     refine wl_nil ⟨rfl, ?_⟩
     refine fl_eff1 4 [7, 6, 5, 1, 0] [8] (by kernel_rfl) ⟨obl_ld rfl rfl rfl (v_load rfl (by first | exact st.reads 0 rfl TF.t102 (getV_state ..) | exact st.reads 1 rfl TF.t102 (getV_state ..) | exact st.reads 2 rfl TF.t102 (getV_state ..) | exact st.reads 3 rfl TF.t102 (getV_state ..))), trivial⟩ rfl ?_
     refine wl_call rfl (c_factors st.im) rfl ?_
     rintro v16 w ⟨t, rfl⟩
     have st := st.pure t
     refine wl_nil ⟨rfl, ?_⟩
     refine FL.permB [11, 10, 9, 4, 3, 8, 7, 6, 5, 2, 1, 0] [7, 6, 5, 1, 0] [8] (by kernel_rfl) ?_
     exact fin _ _ _ _ _ rfl rfl rfl rfl rfl rfl rfl rfl rfl rfl (by first | exact st | exact st.perm p3_2 | exact st.perm p3_3 | exact st.perm p3_4 | exact st.perm p3_5 | exact st.perm p3_6)
   ·refine stepE 11 (pure' := [7, 6, 5, 1, 0]) (lds' := [8]) rfl (by kernel_rfl) (by kernel_rfl) ?_
    refine wl_alloc TF.z102 st rfl ?_
    intro b4 w st
    refine wl_nil ⟨rfl, ?_⟩
    refine fl_effs [4, 10] (by kernel_rfl) ⟨obl_ld rfl rfl rfl (v_load rfl (by first | exact st.reads 0 rfl TF.t102 (getV_state ..) | exact st.reads 1 rfl TF.t102 (getV_state ..) | exact st.reads 2 rfl TF.t102 (getV_state ..) | exact st.reads 3 rfl TF.t102 (getV_state ..))), trivial⟩ (all2 ?_ ?_)
    ·refine stepE 4 (pure' := [7, 6, 5, 1, 0]) (lds' := [8]) rfl (by kernel_rfl) (by kernel_rfl) ?_
     refine wl_call rfl (c_factors st.im) rfl ?_
     rintro v16 w ⟨t, rfl⟩
     have st := st.pure t
     refine wl_nil ⟨rfl, ?_⟩
     refine fl_eff1 10 [7, 6, 5, 1, 0] [8] (by kernel_rfl) ⟨obl_ld rfl rfl rfl (v_load rfl (by first | exact st.reads 0 rfl TF.t102 (getV_state ..) | exact st.reads 1 rfl TF.t102 (getV_state ..) | exact st.reads 2 rfl TF.t102 (getV_state ..) | exact st.reads 3 rfl TF.t102 (getV_state ..))), trivial⟩ rfl ?_
     refine wl_alloc TF.z108 st rfl ?_
     intro b3 w st
     refine wl_nil ⟨rfl, ?_⟩
     refine FL.permB [11, 10, 9, 4, 3, 8, 7, 6, 5, 2, 1, 0] [7, 6, 5, 1, 0] [8] (by kernel_rfl) ?_
     exact fin _ _ _ _ _ rfl rfl rfl rfl rfl rfl rfl rfl rfl rfl (by first | exact st | exact st.perm p3_2 | exact st.perm p3_3 | exact st.perm p3_4 | exact st.perm p3_5 | exact st.perm p3_6)
    ·refine stepE 10 (pure' := [7, 6, 5, 1, 0]) (lds' := [8]) rfl (by kernel_rfl) (by kernel_rfl) ?_
     refine wl_alloc TF.z108 st rfl ?_
     intro b3 w st
     refine wl_nil ⟨rfl, ?_⟩
     refine fl_eff1 4 [7, 6, 5, 1, 0] [8] (by kernel_rfl) ⟨obl_ld rfl rfl rfl (v_load rfl (by first | exact st.reads 0 rfl TF.t102 (getV_state ..) | exact st.reads 1 rfl TF.t102 (getV_state ..) | exact st.reads 2 rfl TF.t102 (getV_state ..) | exact st.reads 3 rfl TF.t102 (getV_state ..))), trivial⟩ rfl ?_
     refine wl_call rfl (c_factors st.im) rfl ?_
     rintro v16 w ⟨t, rfl⟩
     have st := st.pure t
     refine wl_nil ⟨rfl, ?_⟩
     refine FL.permB [11, 10, 9, 4, 3, 8, 7, 6, 5, 2, 1, 0] [7, 6, 5, 1, 0] [8] (by kernel_rfl) ?_
     exact fin _ _ _ _ _ rfl rfl rfl rfl rfl rfl rfl rfl rfl rfl (by first | exact st | exact st.perm p3_2 | exact st.perm p3_3 | exact st.perm p3_4 | exact st.perm p3_5 | exact st.perm p3_6)
  ·refine stepE 10 (pure' := [7, 6, 5, 1, 0]) (lds' := [8]) rfl (by kernel_rfl) (by kernel_rfl) ?_
   refine wl_alloc TF.z108 st rfl ?_
   intro b3 w st
   refine wl_nil ⟨rfl, ?_⟩
   refine fl_effs [4, 9, 11] (by kernel_rfl) ⟨obl_ld rfl rfl rfl (v_load rfl (by first | exact st.reads 0 rfl TF.t102 (getV_state ..) | exact st.reads 1 rfl TF.t102 (getV_state ..) | exact st.reads 2 rfl TF.t102 (getV_state ..) | exact st.reads 3 rfl TF.t102 (getV_state ..))), trivial⟩ (all3 ?_ ?_ ?_)
   ·refine stepE 4 (pure' := [7, 6, 5, 1, 0]) (lds' := [8]) rfl (by kernel_rfl) (by kernel_rfl) ?_
    refine wl_call rfl (c_factors st.im) rfl ?_
    rintro v16 w ⟨t, rfl⟩
    have st := st.pure t
    refine wl_nil ⟨rfl, ?_⟩
    refine fl_effs [9, 11] (by kernel_rfl) ⟨obl_ld rfl rfl rfl (v_load rfl (by first | exact st.reads 0 rfl TF.t102 (getV_state ..) | exact st.reads 1 rfl TF.t102 (getV_state ..) | exact st.reads 2 rfl TF.t102 (getV_state ..) | exact st.reads 3 rfl TF.t102 (getV_state ..))), trivial⟩ (all2 ?_ ?_)
    ·refine stepE 9 (pure' := [7, 6, 5, 1, 0]) (lds' := [8]) rfl (by kernel_rfl) (by kernel_rfl) ?_
     refine wl_alloc TF.z108 st rfl ?_
     intro b2 w st
     refine wl_nil ⟨rfl, ?_⟩
     refine fl_eff1 11 [7, 6, 5, 1, 0] [8] (by kernel_rfl) ⟨obl_ld rfl rfl rfl (v_load rfl (by first | exact st.reads 0 rfl TF.t102 (getV_state ..) | exact st.reads 1 rfl TF.t102 (getV_state ..) | exact st.reads 2 rfl TF.t102 (getV_state ..) | exact st.reads 3 rfl TF.t102 (getV_state ..))), trivial⟩ rfl ?_
     refine wl_alloc TF.z102 st rfl ?_
     intro b4 w st
     refine wl_nil ⟨rfl, ?_⟩
     refine FL.permB [11, 10, 9, 4, 3, 8, 7, 6, 5, 2, 1, 0] [7, 6, 5, 1, 0] [8] (by kernel_rfl) ?_
     exact fin _ _ _ _ _ rfl rfl rfl rfl rfl rfl rfl rfl rfl rfl (by first | exact st | exact st.perm p3_2 | exact st.perm p3_3 | exact st.perm p3_4 | exact st.perm p3_5 | exact st.perm p3_6)
    ·refine stepE 11 (pure' := [7, 6, 5, 1, 0]) (lds' := [8]) rfl (by kernel_rfl) (by kernel_rfl) ?_
     refine wl_alloc TF.z102 st rfl ?_
     intro b4 w st
     refine wl_nil ⟨rfl, ?_⟩
     refine fl_eff1 9 [7, 6, 5, 1, 0] [8] (by kernel_rfl) ⟨obl_ld rfl rfl rfl (v_load rfl (by first | exact st.reads 0 rfl TF.t102 (getV_state ..) | exact st.reads 1 rfl TF.t102 (getV_state ..) | exact st.reads 2 rfl TF.t102 (getV_state ..) | exact st.reads 3 rfl TF.t102 (getV_state ..))), trivial⟩ rfl ?_
     refine wl_alloc TF.z108 st rfl ?_
     intro b2 w st
     refine wl_nil ⟨rfl, ?_⟩
     refine FL.permB [11, 10, 9, 4, 3, 8, 7, 6, 5, 2, 1, 0] [7, 6, 5, 1, 0] [8] (by kernel_rfl) ?_
     exact fin _ _ _ _ _ rfl rfl rfl rfl rfl rfl rfl rfl rfl rfl (by first | exact st | exact st.perm p3_2 | exact st.perm p3_3 | exact st.perm p3_4 | exact st.perm p3_5 | exact st.perm p3_6)
   ·refine stepE 9 (pure' := [7, 6, 5, 1, 0]) (lds' := [8]) rfl (by kernel_rfl) (by kernel_rfl) ?_
    refine wl_alloc TF.z108 st rfl ?_
    intro b2 w st
    refine wl_nil ⟨rfl, ?_⟩
    refine fl_effs [4, 11] (by kernel_rfl) ⟨obl_ld rfl rfl rfl (v_load rfl (by first | exact st.reads 0 rfl TF.t102 (getV_state ..) | exact st.reads 1 rfl TF.t102 (getV_state ..) | exact st.reads 2 rfl TF.t102 (getV_state ..) | exact st.reads 3 rfl TF.t102 (getV_state ..))), trivial⟩ (all2 ?_ ?_)
    ·refine stepE 4 (pure' := [7, 6, 5, 1, 0]) (lds' := [8]) rfl (by kernel_rfl) (by kernel_rfl) ?_
     refine wl_call rfl (c_factors st.im) rfl ?_
     rintro v16 w ⟨t, rfl⟩
     have st := st.pure t
     refine wl_nil ⟨rfl, ?_⟩
     refine fl_eff1 11 [7, 6, 5, 1, 0] [8] (by kernel_rfl) ⟨obl_ld rfl rfl rfl (v_load rfl (by first | exact st.reads 0 rfl TF.t102 (getV_state ..) | exact st.reads 1 rfl TF.t102 (getV_state ..) | exact st.reads 2 rfl TF.t102 (getV_state ..) | exact st.reads 3 rfl TF.t102 (getV_state ..))), trivial⟩ rfl ?_
     refine wl_alloc TF.z102 st rfl ?_
     intro b4 w st
     refine wl_nil ⟨rfl, ?_⟩
     refine FL.permB [11, 10, 9, 4, 3, 8, 7, 6, 5, 2, 1, 0] [7, 6, 5, 1, 0] [8] (by kernel_rfl) ?_
     exact fin _ _ _ _ _ rfl rfl rfl rfl rfl rfl rfl rfl rfl rfl (by first | exact st | exact st.perm p3_2 | exact st.perm p3_3 | exact st.perm p3_4 | exact st.perm p3_5 | exact st.perm p3_6)
    ·refine stepE 11 (pure' := [7, 6, 5, 1, 0]) (lds' := [8]) rfl (by kernel_rfl) (by kernel_rfl) ?_
     refine wl_alloc TF.z102 st rfl ?_
     intro b4 w st
     refine wl_nil ⟨rfl, ?_⟩
     refine fl_eff1 4 [7, 6, 5, 1, 0] [8] (by kernel_rfl) ⟨obl_ld rfl rfl rfl (v_load rfl (by first | exact st.reads 0 rfl TF.t102 (getV_state ..) | exact st.reads 1 rfl TF.t102 (getV_state ..) | exact st.reads 2 rfl TF.t102 (getV_state ..) | exact st.reads 3 rfl TF.t102 (getV_state ..))), trivial⟩ rfl ?_
     refine wl_call rfl (c_factors st.im) rfl ?_
     rintro v16 w ⟨t, rfl⟩
     have st := st.pure t
     refine wl_nil ⟨rfl, ?_⟩
     refine FL.permB [11, 10, 9, 4, 3, 8, 7, 6, 5, 2, 1, 0] [7, 6, 5, 1, 0] [8] (by kernel_rfl) ?_
     exact fin _ _ _ _ _ rfl rfl rfl rfl rfl rfl rfl rfl rfl rfl (by first | exact st | exact st.perm p3_2 | exact st.perm p3_3 | exact st.perm p3_4 | exact st.perm p3_5 | exact st.perm p3_6)
   ·refine stepE 11 (pure' := [7, 6, 5, 1, 0]) (lds' := [8]) rfl (by kernel_rfl) (by kernel_rfl) ?_
    refine wl_alloc TF.z102 st rfl ?_
    intro b4 w st
    refine wl_nil ⟨rfl, ?_⟩
    refine fl_effs [4, 9] (by kernel_rfl) ⟨obl_ld rfl rfl rfl (v_load rfl (by first | exact st.reads 0 rfl TF.t102 (getV_state ..) | exact st.reads 1 rfl TF.t102 (getV_state ..) | exact st.reads 2 rfl TF.t102 (getV_state ..) | exact st.reads 3 rfl TF.t102 (getV_state ..))), trivial⟩ (all2 ?_ ?_)
    ·refine stepE 4 (pure' := [7, 6, 5, 1, 0]) (lds' := [8]) rfl (by kernel_rfl) (by kernel_rfl) ?_
     refine wl_call rfl (c_factors st.im) rfl ?_
     rintro v16 w ⟨t, rfl⟩
     have st := st.pure t
     refine wl_nil ⟨rfl, ?_⟩
     refine fl_eff1 9 [7, 6, 5, 1, 0] [8] (by kernel_rfl) ⟨obl_ld rfl rfl rfl (v_load rfl (by first | exact st.reads 0 rfl TF.t102 (getV_state ..) | exact st.reads 1 rfl TF.t102 (getV_state ..) | exact st.reads 2 rfl TF.t102 (getV_state ..) | exact st.reads 3 rfl TF.t102 (getV_state ..))), trivial⟩ rfl ?_
     refine wl_alloc TF.z108 st rfl ?_
     intro b2 w st
     refine wl_nil ⟨rfl, ?_⟩
     refine FL.permB [11, 10, 9, 4, 3, 8, 7, 6, 5, 2, 1, 0] [7, 6, 5, 1, 0] [8] (by kernel_rfl) ?_
     exact fin _ _ _ _ _ rfl rfl rfl rfl rfl rfl rfl rfl rfl rfl (by first | exact st | exact st.perm p3_2 | exact st.perm p3_3 | exact st.perm p3_4 | exact st.perm p3_5 | exact st.perm p3_6)
    ·refine stepE 9 (pure' := [7, 6, 5, 1, 0]) (lds' := [8]) rfl (by kernel_rfl) (by kernel_rfl) ?_
     refine wl_alloc TF.z108 st rfl ?_
     intro b2 w st
     refine wl_nil ⟨rfl, ?_⟩
     refine fl_eff1 4 [7, 6, 5, 1, 0] [8] (by kernel_rfl) ⟨obl_ld rfl rfl rfl (v_load rfl (by first | exact st.reads 0 rfl TF.t102 (getV_state ..) | exact st.reads 1 rfl TF.t102 (getV_state ..) | exact st.reads 2 rfl TF.t102 (getV_state ..) | exact st.reads 3 rfl TF.t102 (getV_state ..))), trivial⟩ rfl ?_
     refine wl_call rfl (c_factors st.im) rfl ?_
     rintro v16 w ⟨t, rfl⟩
     have st := st.pure t
     refine wl_nil ⟨rfl, ?_⟩
     refine FL.permB [11, 10, 9, 4, 3, 8, 7, 6, 5, 2, 1, 0] [7, 6, 5, 1, 0] [8] (by kernel_rfl) ?_
     exact fin _ _ _ _ _ rfl rfl rfl rfl rfl rfl rfl rfl rfl rfl (by first | exact st | exact st.perm p3_2 | exact st.perm p3_3 | exact st.perm p3_4 | exact st.perm p3_5 | exact st.perm p3_6)
  ·refine stepE 11 (pure' := [7, 6, 5, 1, 0]) (lds' := [8]) rfl (by kernel_rfl) (by kernel_rfl) ?_
   refine wl_alloc TF.z102 st rfl ?_
   intro b4 w st
   refine wl_nil ⟨rfl, ?_⟩
   refine fl_effs [4, 9, 10] (by kernel_rfl) ⟨obl_ld rfl rfl rfl (v_load rfl (by first | exact st.reads 0 rfl TF.t102 (getV_state ..) | exact st.reads 1 rfl TF.t102 (getV_state ..) | exact st.reads 2 rfl TF.t102 (getV_state ..) | exact st.reads 3 rfl TF.t102 (getV_state ..))), trivial⟩ (all3 ?_ ?_ ?_)
   ·refine stepE 4 (pure' := [7, 6, 5, 1, 0]) (lds' := [8]) rfl (by kernel_rfl) (by kernel_rfl) ?_
    refine wl_call rfl (c_factors st.im) rfl ?_
    rintro v16 w ⟨t, rfl⟩
    have st := st.pure t
    refine wl_nil ⟨rfl, ?_⟩
    refine fl_effs [9, 10] (by kernel_rfl) ⟨obl_ld rfl rfl rfl (v_load rfl (by first | exact st.reads 0 rfl TF.t102 (getV_state ..) | exact st.reads 1 rfl TF.t102 (getV_state ..) | exact st.reads 2 rfl TF.t102 (getV_state ..) | exact st.reads 3 rfl TF.t102 (getV_state ..))), trivial⟩ (all2 ?_ ?_)
    ·refine stepE 9 (pure' := [7, 6, 5, 1, 0]) (lds' := [8]) rfl (by kernel_rfl) (by kernel_rfl) ?_
     refine wl_alloc TF.z108 st rfl ?_
     intro b2 w st
     refine wl_nil ⟨rfl, ?_⟩
     refine fl_eff1 10 [7, 6, 5, 1, 0] [8] (by kernel_rfl) ⟨obl_ld rfl rfl rfl (v_load rfl (by first | exact st.reads 0 rfl TF.t102 (getV_state ..) | exact st.reads 1 rfl TF.t102 (getV_state ..) | exact st.reads 2 rfl TF.t102 (getV_state ..) | exact st.reads 3 rfl TF.t102 (getV_state ..))), trivial⟩ rfl ?_
     refine wl_alloc TF.z108 st rfl ?_
     intro b3 w st
     refine wl_nil ⟨rfl, ?_⟩
     refine FL.permB [11, 10, 9, 4, 3, 8, 7, 6, 5, 2, 1, 0] [7, 6, 5, 1, 0] [8] (by kernel_rfl) ?_
     exact fin _ _ _ _ _ rfl rfl rfl rfl rfl rfl rfl rfl rfl rfl (by first | exact st | exact st.perm p3_2 | exact st.perm p3_3 | exact st.perm p3_4 | exact st.perm p3_5 | exact st.perm p3_6)
    ·refine stepE 10 (pure' := [7, 6, 5, 1, 0]) (lds' := [8]) rfl (by kernel_rfl) (by kernel_rfl) ?_
     refine wl_alloc TF.z108 st rfl ?_
     intro b3 w st
     refine wl_nil ⟨rfl, ?_⟩
     refine fl_eff1 9 [7, 6, 5, 1, 0] [8] (by kernel_rfl) ⟨obl_ld rfl rfl rfl (v_load rfl (by first | exact st.reads 0 rfl TF.t102 (getV_state ..) | exact st.reads 1 rfl TF.t102 (getV_state ..) | exact st.reads 2 rfl TF.t102 (getV_state ..) | exact st.reads 3 rfl TF.t102 (getV_state ..))), trivial⟩ rfl ?_
     refine wl_alloc TF.z108 st rfl ?_
     intro b2 w st
     refine wl_nil ⟨rfl, ?_⟩
     refine FL.permB [11, 10, 9, 4, 3, 8, 7, 6, 5, 2, 1, 0] [7, 6, 5, 1, 0] [8] (by kernel_rfl) ?_
     exact fin _ _ _ _ _ rfl rfl rfl rfl rfl rfl rfl rfl rfl rfl (by first | exact st | exact st.perm p3_2 | exact st.perm p3_3 | exact st.perm p3_4 | exact st.perm p3_5 | exact st.perm p3_6)
   ·refine stepE 9 (pure' := [7, 6, 5, 1, 0]) (lds' := [8]) rfl (by kernel_rfl) (by kernel_rfl) ?_
    refine wl_alloc TF.z108 st rfl ?_
    intro b2 w st
    refine wl_nil ⟨rfl, ?_⟩
    refine fl_effs [4, 10] (by kernel_rfl) ⟨obl_ld rfl rfl rfl (v_load rfl (by first | exact st.reads 0 rfl TF.t102 (getV_state ..) | exact st.reads 1 rfl TF.t102 (getV_state ..) | exact st.reads 2 rfl TF.t102 (getV_state ..) | exact st.reads 3 rfl TF.t102 (getV_state ..))), trivial⟩ (all2 ?_ ?_)
    ·refine stepE 4 (pure' := [7, 6, 5, 1, 0]) (lds' := [8]) rfl (by kernel_rfl) (by kernel_rfl) ?_
     refine wl_call rfl (c_factors st.im) rfl ?_
     rintro v16 w ⟨t, rfl⟩
     have st := st.pure t
     refine wl_nil ⟨rfl, ?_⟩
     refine fl_eff1 10 [7, 6, 5, 1, 0] [8] (by kernel_rfl) ⟨obl_ld rfl rfl rfl (v_load rfl (by first | exact st.reads 0 rfl TF.t102 (getV_state ..) | exact st.reads 1 rfl TF.t102 (getV_state ..) | exact st.reads 2 rfl TF.t102 (getV_state ..) | exact st.reads 3 rfl TF.t102 (getV_state ..))), trivial⟩ rfl ?_
     refine wl_alloc TF.z108 st rfl ?_
     intro b3 w st
     refine wl_nil ⟨rfl, ?_⟩
     refine FL.permB [11, 10, 9, 4, 3, 8, 7, 6, 5, 2, 1, 0] [7, 6, 5, 1, 0] [8] (by kernel_rfl) ?_
     exact fin _ _ _ _ _ rfl rfl rfl rfl rfl rfl rfl rfl rfl rfl (by first | exact st | exact st.perm p3_2 | exact st.perm p3_3 | exact st.perm p3_4 | exact st.perm p3_5 | exact st.perm p3_6)
    ·refine stepE 10 (pure' := [7, 6, 5, 1, 0]) (lds' := [8]) rfl (by kernel_rfl) (by kernel_rfl) ?_
     refine wl_alloc TF.z108 st rfl ?_
     intro b3 w st
     refine wl_nil ⟨rfl, ?_⟩
     refine fl_eff1 4 [7, 6, 5, 1, 0] [8] (by kernel_rfl) ⟨obl_ld rfl rfl rfl (v_load rfl (by first | exact st.reads 0 rfl TF.t102 (getV_state ..) | exact st.reads 1 rfl TF.t102 (getV_state ..) | exact st.reads 2 rfl TF.t102 (getV_state ..) | exact st.reads 3 rfl TF.t102 (getV_state ..))), trivial⟩ rfl ?_
     refine wl_call rfl (c_factors st.im) rfl ?_
     rintro v16 w ⟨t, rfl⟩
     have st := st.pure t
     refine wl_nil ⟨rfl, ?_⟩
     refine FL.permB [11, 10, 9, 4, 3, 8, 7, 6, 5, 2, 1, 0] [7, 6, 5, 1, 0] [8] (by kernel_rfl) ?_
     exact fin _ _ _ _ _ rfl rfl rfl rfl rfl rfl rfl rfl rfl rfl (by first | exact st | exact st.perm p3_2 | exact st.perm p3_3 | exact st.perm p3_4 | exact st.perm p3_5 | exact st.perm p3_6)
   ·refine stepE 10 (pure' := [7, 6, 5, 1, 0]) (lds' := [8]) rfl (by kernel_rfl) (by kernel_rfl) ?_
    refine wl_alloc TF.z108 st rfl ?_
    intro b3 w st
    refine wl_nil ⟨rfl, ?_⟩
    refine fl_effs [4, 9] (by kernel_rfl) ⟨obl_ld rfl rfl rfl (v_load rfl (by first | exact st.reads 0 rfl TF.t102 (getV_state ..) | exact st.reads 1 rfl TF.t102 (getV_state ..) | exact st.reads 2 rfl TF.t102 (getV_state ..) | exact st.reads 3 rfl TF.t102 (getV_state ..))), trivial⟩ (all2 ?_ ?_)
    ·refine stepE 4 (pure' := [7, 6, 5, 1, 0]) (lds' := [8]) rfl (by kernel_rfl) (by kernel_rfl) ?_
     refine wl_call rfl (c_factors st.im) rfl ?_
     rintro v16 w ⟨t, rfl⟩
     have st := st.pure t
     refine wl_nil ⟨rfl, ?_⟩
     refine fl_eff1 9 [7, 6, 5, 1, 0] [8] (by kernel_rfl) ⟨obl_ld rfl rfl rfl (v_load rfl (by first | exact st.reads 0 rfl TF.t102 (getV_state ..) | exact st.reads 1 rfl TF.t102 (getV_state ..) | exact st.reads 2 rfl TF.t102 (getV_state ..) | exact st.reads 3 rfl TF.t102 (getV_state ..))), trivial⟩ rfl ?_
     refine wl_alloc TF.z108 st rfl ?_
     intro b2 w st
     refine wl_nil ⟨rfl, ?_⟩
     refine FL.permB [11, 10, 9, 4, 3, 8, 7, 6, 5, 2, 1, 0] [7, 6, 5, 1, 0] [8] (by kernel_rfl) ?_
     exact fin _ _ _ _ _ rfl rfl rfl rfl rfl rfl rfl rfl rfl rfl (by first | exact st | exact st.perm p3_2 | exact st.perm p3_3 | exact st.perm p3_4 | exact st.perm p3_5 | exact st.perm p3_6)
    ·refine stepE 9 (pure' := [7, 6, 5, 1, 0]) (lds' := [8]) rfl (by kernel_rfl) (by kernel_rfl) ?_
     refine wl_alloc TF.z108 st rfl ?_
     intro b2 w st
     refine wl_nil ⟨rfl, ?_⟩
     refine fl_eff1 4 [7, 6, 5, 1, 0] [8] (by kernel_rfl) ⟨obl_ld rfl rfl rfl (v_load rfl (by first | exact st.reads 0 rfl TF.t102 (getV_state ..) | exact st.reads 1 rfl TF.t102 (getV_state ..) | exact st.reads 2 rfl TF.t102 (getV_state ..) | exact st.reads 3 rfl TF.t102 (getV_state ..))), trivial⟩ rfl ?_
     refine wl_call rfl (c_factors st.im) rfl ?_
     rintro v16 w ⟨t, rfl⟩
     have st := st.pure t
     refine wl_nil ⟨rfl, ?_⟩
     refine FL.permB [11, 10, 9, 4, 3, 8, 7, 6, 5, 2, 1, 0] [7, 6, 5, 1, 0] [8] (by kernel_rfl) ?_
     exact fin _ _ _ _ _ rfl rfl rfl rfl rfl rfl rfl rfl rfl rfl (by first | exact st | exact st.perm p3_2 | exact st.perm p3_3 | exact st.perm p3_4 | exact st.perm p3_5 | exact st.perm p3_6)
 ·refine stepE 9 (pure' := [7, 6, 5, 2, 1, 0]) (lds' := [8]) rfl (by kernel_rfl) (by kernel_rfl) ?_
  refine wl_alloc TF.z108 st rfl ?_
  intro b2 w st
  refine wl_nil ⟨rfl, ?_⟩
  refine fl_effs [3, 10, 11] (by kernel_rfl) ⟨obl_ld rfl rfl rfl (v_load rfl (by first | exact st.reads 0 rfl TF.t102 (getV_state ..) | exact st.reads 1 rfl TF.t102 (getV_state ..) | exact st.reads 2 rfl TF.t102 (getV_state ..) | exact st.reads 3 rfl TF.t102 (getV_state ..))), trivial⟩ (all3 ?_ ?_ ?_)
  ·refine stepE 3 (pure' := [7, 6, 5, 1, 0]) (lds' := [8]) rfl (by kernel_rfl) (by kernel_rfl) ?_
   refine wl_call rfl (by first | exact c_spreadS st 0 rfl hl | exact c_spreadS st 1 rfl hl | exact c_spreadS st 2 rfl hl | exact c_spreadS st 3 rfl hl) rfl ?_
   rintro v15 w ⟨t, rfl⟩
   have st := st.pure t
   refine wl_nil ⟨rfl, ?_⟩
   refine fl_effs [4, 10, 11] (by kernel_rfl) ⟨obl_ld rfl rfl rfl (v_load rfl (by first | exact st.reads 0 rfl TF.t102 (getV_state ..) | exact st.reads 1 rfl TF.t102 (getV_state ..) | exact st.reads 2 rfl TF.t102 (getV_state ..) | exact st.reads 3 rfl TF.t102 (getV_state ..))), trivial⟩ (all3 ?_ ?_ ?_)
   ·refine stepE 4 (pure' := [7, 6, 5, 1, 0]) (lds' := [8]) rfl (by kernel_rfl) (by kernel_rfl) ?_
    refine wl_call rfl (c_factors st.im) rfl ?_
    rintro v16 w ⟨t, rfl⟩
    have st := st.pure t
    refine wl_nil ⟨rfl, ?_⟩
    refine fl_effs [10, 11] (by kernel_rfl) ⟨obl_ld rfl rfl rfl (v_load rfl (by first | exact st.reads 0 rfl TF.t102 (getV_state ..) | exact st.reads 1 rfl TF.t102 (getV_state ..) | exact st.reads 2 rfl TF.t102 (getV_state ..) | exact st.reads 3 rfl TF.t102 (getV_state ..))), trivial⟩ (all2 ?_ ?_)
    ·refine stepE 10 (pure' := [7, 6, 5, 1, 0]) (lds' := [8]) rfl (by kernel_rfl) (by kernel_rfl) ?_
     refine wl_alloc TF.z108 st rfl ?_
     intro b3 w st
     refine wl_nil ⟨rfl, ?_⟩
     refine fl_eff1 11 [7, 6, 5, 1, 0] [8] (by kernel_rfl) ⟨obl_ld rfl rfl rfl (v_load rfl (by first | exact st.reads 0 rfl TF.t102 (getV_state ..) | exact st.reads 1 rfl TF.t102 (getV_state ..) | exact st.reads 2 rfl TF.t102 (getV_state ..) | exact st.reads 3 rfl TF.t102 (getV_state ..))), trivial⟩ rfl ?_
     refine wl_alloc TF.z102 st rfl ?_
     intro b4 w st
     refine wl_nil ⟨rfl, ?_⟩
     refine FL.permB [11, 10, 9, 4, 3, 8, 7, 6, 5, 2, 1, 0] [7, 6, 5, 1, 0] [8] (by kernel_rfl) ?_
     exact fin _ _ _ _ _ rfl rfl rfl rfl rfl rfl rfl rfl rfl rfl (by first | exact st | exact st.perm p3_2 | exact st.perm p3_3 | exact st.perm p3_4 | exact st.perm p3_5 | exact st.perm p3_6)
    ·refine stepE 11 (pure' := [7, 6, 5, 1, 0]) (lds' := [8]) rfl (by kernel_rfl) (by kernel_rfl) ?_
     refine wl_alloc TF.z102 st rfl ?_
     intro b4 w st
     refine wl_nil ⟨rfl, ?_⟩
     refine fl_eff1 10 [7, 6, 5, 1, 0] [8] (by kernel_rfl) ⟨obl_ld rfl rfl rfl (v_load rfl (by first | exact st.reads 0 rfl TF.t102 (getV_state ..) | exact st.reads 1 rfl TF.t102 (getV_state ..) | exact st.reads 2 rfl TF.t102 (getV_state ..) | exact st.reads 3 rfl TF.t102 (getV_state ..))), trivial⟩ rfl ?_
     refine wl_alloc TF.z108 st rfl ?_
     intro b3 w st
     refine wl_nil ⟨rfl, ?_⟩
     refine FL.permB [11, 10, 9, 4, 3, 8, 7, 6, 5, 2, 1, 0] [7, 6, 5, 1, 0] [8] (by kernel_rfl) ?_
     exact fin _ _ _ _ _ rfl rfl rfl rfl rfl rfl rfl rfl rfl rfl (by first | exact st | exact st.perm p3_2 | exact st.perm p3_3 | exact st.perm p3_4 | exact st.perm p3_5 | exact st.perm p3_6)
   ·refine stepE 10 (pure' := [7, 6, 5, 1, 0]) (lds' := [8]) rfl (by kernel_rfl) (by kernel_rfl) ?_
    refine wl_alloc TF.z108 st rfl ?_
    intro b3 w st
    refine wl_nil ⟨rfl, ?_⟩
    refine fl_effs [4, 11] (by kernel_rfl) ⟨obl_ld rfl rfl rfl (v_load rfl (by first | exact st.reads 0 rfl TF.t102 (getV_state ..) | exact st.reads 1 rfl TF.t102 (getV_state ..) | exact st.reads 2 rfl TF.t102 (getV_state ..) | exact st.reads 3 rfl TF.t102 (getV_state ..))), trivial⟩ (all2 ?_ ?_)
    ·refine stepE 4 (pure' := [7, 6, 5, 1, 0]) (lds' := [8]) rfl (by kernel_rfl) (by kernel_rfl) ?_
     refine wl_call rfl (c_factors st.im) rfl ?_
     rintro v16 w ⟨t, rfl⟩
     have st := st.pure t
     refine wl_nil ⟨rfl, ?_⟩
     refine fl_eff1 11 [7, 6, 5, 1, 0] [8] (by kernel_rfl) ⟨obl_ld rfl rfl rfl (v_load rfl (by first | exact st.reads 0 rfl TF.t102 (getV_state ..) | exact st.reads 1 rfl TF.t102 (getV_state ..) | exact st.reads 2 rfl TF.t102 (getV_state ..) | exact st.reads 3 rfl TF.t102 (getV_state ..))), trivial⟩ rfl ?_
     refine wl_alloc TF.z102 st rfl ?_
     intro b4 w st
     refine wl_nil ⟨rfl, ?_⟩
     refine FL.permB [11, 10, 9, 4, 3, 8, 7, 6, 5, 2, 1, 0] [7, 6, 5, 1, 0] [8] (by kernel_rfl) ?_
     exact fin _ _ _ _ _ rfl rfl rfl rfl rfl rfl rfl rfl rfl rfl (by first | exact st | exact st.perm p3_2 | exact st.perm p3_3 | exact st.perm p3_4 | exact st.perm p3_5 | exact st.perm p3_6)
    ·refine stepE 11 (pure' := [7, 6, 5, 1, 0]) (lds' := [8]) rfl (by kernel_rfl) (by kernel_rfl) ?_
     refine wl_alloc TF.z102 st rfl ?_
     intro b4 w st
     refine wl_nil ⟨rfl, ?_⟩
     refine fl_eff1 4 [7, 6, 5, 1, 0] [8] (by kernel_rfl) ⟨obl_ld rfl rfl rfl (v_load rfl (by first | exact st.reads 0 rfl TF.t102 (getV_state ..) | exact st.reads 1 rfl TF.t102 (getV_state ..) | exact st.reads 2 rfl TF.t102 (getV_state ..) | exact st.reads 3 rfl TF.t102 (getV_state ..))), trivial⟩ rfl ?_
     refine wl_call rfl (c_factors st.im) rfl ?_
     rintro v16 w ⟨t, rfl⟩
     have st := st.pure t
     refine wl_nil ⟨rfl, ?_⟩
     refine FL.permB [11, 10, 9, 4, 3, 8, 7, 6, 5, 2, 1, 0] [7, 6, 5, 1, 0] [8] (by kernel_rfl) ?_
     exact fin _ _ _ _ _ rfl rfl rfl rfl rfl rfl rfl rfl rfl rfl (by first | exact st | exact st.perm p3_2 | exact st.perm p3_3 | exact st.perm p3_4 | exact st.perm p3_5 | exact st.perm p3_6)
   ·refine stepE 11 (pure' := [7, 6, 5, 1, 0]) (lds' := [8]) rfl (by kernel_rfl) (by kernel_rfl) ?_
    refine wl_alloc TF.z102 st rfl ?_
    intro b4 w st
    refine wl_nil ⟨rfl, ?_⟩
    refine fl_effs [4, 10] (by kernel_rfl) ⟨obl_ld rfl rfl rfl (v_load rfl (by first | exact st.reads 0 rfl TF.t102 (getV_state ..) | exact st.reads 1 rfl TF.t102 (getV_state ..) | exact st.reads 2 rfl TF.t102 (getV_state ..) | exact st.reads 3 rfl TF.t102 (getV_state ..))), trivial⟩ (all2 ?_ ?_)
    ·refine stepE 4 (pure' := [7, 6, 5, 1, 0]) (lds' := [8]) rfl (by kernel_rfl) (by kernel_rfl) ?_
     refine wl_call rfl (c_factors st.im) rfl ?_
     rintro v16 w ⟨t, rfl⟩
     have st := st.pure t
     refine wl_nil ⟨rfl, ?_⟩
     refine fl_eff1 10 [7, 6, 5, 1, 0] [8] (by kernel_rfl) ⟨obl_ld rfl rfl rfl (v_load rfl (by first | exact st.reads 0 rfl TF.t102 (getV_state ..) | exact st.reads 1 rfl TF.t102 (getV_state ..) | exact st.reads 2 rfl TF.t102 (getV_state ..) | exact st.reads 3 rfl TF.t102 (getV_state ..))), trivial⟩ rfl ?_
     refine wl_alloc TF.z108 st rfl ?_
     intro b3 w st
     refine wl_nil ⟨rfl, ?_⟩
     refine FL.permB [11, 10, 9, 4, 3, 8, 7, 6, 5, 2, 1, 0] [7, 6, 5, 1, 0] [8] (by kernel_rfl) ?_
     exact fin _ _ _ _ _ rfl rfl rfl rfl rfl rfl rfl rfl rfl rfl (by first | exact st | exact st.perm p3_2 | exact st.perm p3_3 | exact st.perm p3_4 | exact st.perm p3_5 | exact st.perm p3_6)
    ·refine stepE 10 (pure' := [7, 6, 5, 1, 0]) (lds' := [8]) rfl (by kernel_rfl) (by kernel_rfl) ?_
     refine wl_alloc TF.z108 st rfl ?_
     intro b3 w st
     refine wl_nil ⟨rfl, ?_⟩
     refine fl_eff1 4 [7, 6, 5, 1, 0] [8] (by kernel_rfl) ⟨obl_ld rfl rfl rfl (v_load rfl (by first | exact st.reads 0 rfl TF.t102 (getV_state ..) | exact st.reads 1 rfl TF.t102 (getV_state ..) | exact st.reads 2 rfl TF.t102 (getV_state ..) | exact st.reads 3 rfl TF.t102 (getV_state ..))), trivial⟩ rfl ?_
     refine wl_call rfl (c_factors st.im) rfl ?_
     rintro v16 w ⟨t, rfl⟩
     have st := st.pure t
     refine wl_nil ⟨rfl, ?_⟩
     refine FL.permB [11, 10, 9, 4, 3, 8, 7, 6, 5, 2, 1, 0] [7, 6, 5, 1, 0] [8] (by kernel_rfl) ?_
     exact fin _ _ _ _ _ rfl rfl rfl rfl rfl rfl rfl rfl rfl rfl (by first | exact st | exact st.perm p3_2 | exact st.perm p3_3 | exact st.perm p3_4 | exact st.perm p3_5 | exact st.perm p3_6)
  ·refine stepE 10 (pure' := [7, 6, 5, 2, 1, 0]) (lds' := [8]) rfl (by kernel_rfl) (by kernel_rfl) ?_
   refine wl_alloc TF.z108 st rfl ?_
   intro b3 w st
   refine wl_nil ⟨rfl, ?_⟩
   refine fl_effs [3, 11] (by kernel_rfl) ⟨obl_ld rfl rfl rfl (v_load rfl (by first | exact st.reads 0 rfl TF.t102 (getV_state ..) | exact st.reads 1 rfl TF.t102 (getV_state ..) | exact st.reads 2 rfl TF.t102 (getV_state ..) | exact st.reads 3 rfl TF.t102 (getV_state ..))), trivial⟩ (all2 ?_ ?_)
   ·refine stepE 3 (pure' := [7, 6, 5, 1, 0]) (lds' := [8]) rfl (by kernel_rfl) (by kernel_rfl) ?_
    refine wl_call rfl (by first | exact c_spreadS st 0 rfl hl | exact c_spreadS st 1 rfl hl | exact c_spreadS st 2 rfl hl | exact c_spreadS st 3 rfl hl) rfl ?_
    rintro v15 w ⟨t, rfl⟩
    have st := st.pure t
    refine wl_nil ⟨rfl, ?_⟩
    refine fl_effs [4, 11] (by kernel_rfl) ⟨obl_ld rfl rfl rfl (v_load rfl (by first | exact st.reads 0 rfl TF.t102 (getV_state ..) | exact st.reads 1 rfl TF.t102 (getV_state ..) | exact st.reads 2 rfl TF.t102 (getV_state ..) | exact st.reads 3 rfl TF.t102 (getV_state ..))), trivial⟩ (all2 ?_ ?_)
    ·refine stepE 4 (pure' := [7, 6, 5, 1, 0]) (lds' := [8]) rfl (by kernel_rfl) (by kernel_rfl) ?_
     refine wl_call rfl (c_factors st.im) rfl ?_
     rintro v16 w ⟨t, rfl⟩
     have st := st.pure t
     refine wl_nil ⟨rfl, ?_⟩
     refine fl_eff1 11 [7, 6, 5, 1, 0] [8] (by kernel_rfl) ⟨obl_ld rfl rfl rfl (v_load rfl (by first | exact st.reads 0 rfl TF.t102 (getV_state ..) | exact st.reads 1 rfl TF.t102 (getV_state ..) | exact st.reads 2 rfl TF.t102 (getV_state ..) | exact st.reads 3 rfl TF.t102 (getV_state ..))), trivial⟩ rfl ?_
     refine wl_alloc TF.z102 st rfl ?_
     intro b4 w st
     refine wl_nil ⟨rfl, ?_⟩
     refine FL.permB [11, 10, 9, 4, 3, 8, 7, 6, 5, 2, 1, 0] [7, 6, 5, 1, 0] [8] (by kernel_rfl) ?_
     exact fin _ _ _ _ _ rfl rfl rfl rfl rfl rfl rfl rfl rfl rfl (by first | exact st | exact st.perm p3_2 | exact st.perm p3_3 | exact st.perm p3_4 | exact st.perm p3_5 | exact st.perm p3_6)
    ·refine stepE 11 (pure' := [7, 6, 5, 1, 0]) (lds' := [8]) rfl (by kernel_rfl) (by kernel_rfl) ?_
     refine wl_alloc TF.z102 st rfl ?_
     intro b4 w st
     refine wl_nil ⟨rfl, ?_⟩
     refine fl_eff1 4 [7, 6, 5, 1, 0] [8] (by kernel_rfl) ⟨obl_ld rfl rfl rfl (v_load rfl (by first | exact st.reads 0 rfl TF.t102 (getV_state ..) | exact st.reads 1 rfl TF.t102 (getV_state ..) | exact st.reads 2 rfl TF.t102 (getV_state ..) | exact st.reads 3 rfl TF.t102 (getV_state ..))), trivial⟩ rfl ?_
     refine wl_call rfl (c_factors st.im) rfl ?_
     rintro v16 w ⟨t, rfl⟩
     have st := st.pure t
     refine wl_nil ⟨rfl, ?_⟩
     refine FL.permB [11, 10, 9, 4, 3, 8, 7, 6, 5, 2, 1, 0] [7, 6, 5, 1, 0] [8] (by kernel_rfl) ?_
     exact fin _ _ _ _ _ rfl rfl rfl rfl rfl rfl rfl rfl rfl rfl (by first | exact st | exact st.perm p3_2 | exact st.perm p3_3 | exact st.perm p3_4 | exact st.perm p3_5 | exact st.perm p3_6)
   ·refine stepE 11 (pure' := [7, 6, 5, 2, 1, 0]) (lds' := [8]) rfl (by kernel_rfl) (by kernel_rfl) ?_
    refine wl_alloc TF.z102 st rfl ?_
    intro b4 w st
    refine wl_nil ⟨rfl, ?_⟩
    refine fl_eff1 3 [7, 6, 5, 1, 0] [8] (by kernel_rfl) ⟨obl_ld rfl rfl rfl (v_load rfl (by first | exact st.reads 0 rfl TF.t102 (getV_state ..) | exact st.reads 1 rfl TF.t102 (getV_state ..) | exact st.reads 2 rfl TF.t102 (getV_state ..) | exact st.reads 3 rfl TF.t102 (getV_state ..))), trivial⟩ rfl ?_
    refine wl_call rfl (by first | exact c_spreadS st 0 rfl hl | exact c_spreadS st 1 rfl hl | exact c_spreadS st 2 rfl hl | exact c_spreadS st 3 rfl hl) rfl ?_
    rintro v15 w ⟨t, rfl⟩
    have st := st.pure t
    refine wl_nil ⟨rfl, ?_⟩
    refine fl_eff1 4 [7, 6, 5, 1, 0] [8] (by kernel_rfl) ⟨obl_ld rfl rfl rfl (v_load rfl (by first | exact st.reads 0 rfl TF.t102 (getV_state ..) | exact st.reads 1 rfl TF.t102 (getV_state ..) | exact st.reads 2 rfl TF.t102 (getV_state ..) | exact st.reads 3 rfl TF.t102 (getV_state ..))), trivial⟩ rfl ?_
    refine wl_call rfl (c_factors st.im) rfl ?_
    rintro v16 w ⟨t, rfl⟩
    have st := st.pure t
    refine wl_nil ⟨rfl, ?_⟩
    refine FL.permB [11, 10, 9, 4, 3, 8, 7, 6, 5, 2, 1, 0] [7, 6, 5, 1, 0] [8] (by kernel_rfl) ?_
    exact fin _ _ _ _ _ rfl rfl rfl rfl rfl rfl rfl rfl rfl rfl (by first | exact st | exact st.perm p3_2 | exact st.perm p3_3 | exact st.perm p3_4 | exact st.perm p3_5 | exact st.perm p3_6)
  ·refine stepE 11 (pure' := [7, 6, 5, 2, 1, 0]) (lds' := [8]) rfl (by kernel_rfl) (by kernel_rfl) ?_
   refine wl_alloc TF.z102 st rfl ?_
   intro b4 w st
   refine wl_nil ⟨rfl, ?_⟩
   refine fl_effs [3, 10] (by kernel_rfl) ⟨obl_ld rfl rfl rfl (v_load rfl (by first | exact st.reads 0 rfl TF.t102 (getV_state ..) | exact st.reads 1 rfl TF.t102 (getV_state ..) | exact st.reads 2 rfl TF.t102 (getV_state ..) | exact st.reads 3 rfl TF.t102 (getV_state ..))), trivial⟩ (all2 ?_ ?_)
   ·refine stepE 3 (pure' := [7, 6, 5, 1, 0]) (lds' := [8]) rfl (by kernel_rfl) (by kernel_rfl) ?_
    refine wl_call rfl (by first | exact c_spreadS st 0 rfl hl | exact c_spreadS st 1 rfl hl | exact c_spreadS st 2 rfl hl | exact c_spreadS st 3 rfl hl) rfl ?_
    rintro v15 w ⟨t, rfl⟩
    have st := st.pure t
    refine wl_nil ⟨rfl, ?_⟩
    refine fl_effs [4, 10] (by kernel_rfl) ⟨obl_ld rfl rfl rfl (v_load rfl (by first | exact st.reads 0 rfl TF.t102 (getV_state ..) | exact st.reads 1 rfl TF.t102 (getV_state ..) | exact st.reads 2 rfl TF.t102 (getV_state ..) | exact st.reads 3 rfl TF.t102 (getV_state ..))), trivial⟩ (all2 ?_ ?_)
    ·refine stepE 4 (pure' := [7, 6, 5, 1, 0]) (lds' := [8]) rfl (by kernel_rfl) (by kernel_rfl) ?_
     refine wl_call rfl (c_factors st.im) rfl ?_
     rintro v16 w ⟨t, rfl⟩
     have st := st.pure t
     refine wl_nil ⟨rfl, ?_⟩
     refine fl_eff1 10 [7, 6, 5, 1, 0] [8] (by kernel_rfl) ⟨obl_ld rfl rfl rfl (v_load rfl (by first | exact st.reads 0 rfl TF.t102 (getV_state ..) | exact st.reads 1 rfl TF.t102 (getV_state ..) | exact st.reads 2 rfl TF.t102 (getV_state ..) | exact st.reads 3 rfl TF.t102 (getV_state ..))), trivial⟩ rfl ?_
     refine wl_alloc TF.z108 st rfl ?_
     intro b3 w st
     refine wl_nil ⟨rfl, ?_⟩
     refine FL.permB [11, 10, 9, 4, 3, 8, 7, 6, 5, 2, 1, 0] [7, 6, 5, 1, 0] [8] (by kernel_rfl) ?_
     exact fin _ _ _ _ _ rfl rfl rfl rfl rfl rfl rfl rfl rfl rfl (by first | exact st | exact st.perm p3_2 | exact st.perm p3_3 | exact st.perm p3_4 | exact st.perm p3_5 | exact st.perm p3_6)
    ·refine stepE 10 (pure' := [7, 6, 5, 1, 0]) (lds' := [8]) rfl (by kernel_rfl) (by kernel_rfl) ?_
     refine wl_alloc TF.z108 st rfl ?_
     intro b3 w st
     refine wl_nil ⟨rfl, ?_⟩
     refine fl_eff1 4 [7, 6, 5, 1, 0] [8] (by kernel_rfl) ⟨obl_ld rfl rfl rfl (v_load rfl (by first | exact st.reads 0 rfl TF.t102 (getV_state ..) | exact st.reads 1 rfl TF.t102 (getV_state ..) | exact st.reads 2 rfl TF.t102 (getV_state ..) | exact st.reads 3 rfl TF.t102 (getV_state ..))), trivial⟩ rfl ?_
     refine wl_call rfl (c_factors st.im) rfl ?_
     rintro v16 w ⟨t, rfl⟩
     have st := st.pure t
     refine wl_nil ⟨rfl, ?_⟩
     refine FL.permB [11, 10, 9, 4, 3, 8, 7, 6, 5, 2, 1, 0] [7, 6, 5, 1, 0] [8] (by kernel_rfl) ?_
     exact fin _ _ _ _ _ rfl rfl rfl rfl rfl rfl rfl rfl rfl rfl (by first | exact st | exact st.perm p3_2 | exact st.perm p3_3 | exact st.perm p3_4 | exact st.perm p3_5 | exact st.perm p3_6)
   ·refine stepE 10 (pure' := [7, 6, 5, 2, 1, 0]) (lds' := [8]) rfl (by kernel_rfl) (by kernel_rfl) ?_
    refine wl_alloc TF.z108 st rfl ?_
    intro b3 w st
    refine wl_nil ⟨rfl, ?_⟩
    refine fl_eff1 3 [7, 6, 5, 1, 0] [8] (by kernel_rfl) ⟨obl_ld rfl rfl rfl (v_load rfl (by first | exact st.reads 0 rfl TF.t102 (getV_state ..) | exact st.reads 1 rfl TF.t102 (getV_state ..) | exact st.reads 2 rfl TF.t102 (getV_state ..) | exact st.reads 3 rfl TF.t102 (getV_state ..))), trivial⟩ rfl ?_
    refine wl_call rfl (by first | exact c_spreadS st 0 rfl hl | exact c_spreadS st 1 rfl hl | exact c_spreadS st 2 rfl hl | exact c_spreadS st 3 rfl hl) rfl ?_
    rintro v15 w ⟨t, rfl⟩
    have st := st.pure t
    refine wl_nil ⟨rfl, ?_⟩
    refine fl_eff1 4 [7, 6, 5, 1, 0] [8] (by kernel_rfl) ⟨obl_ld rfl rfl rfl (v_load rfl (by first | exact st.reads 0 rfl TF.t102 (getV_state ..) | exact st.reads 1 rfl TF.t102 (getV_state ..) | exact st.reads 2 rfl TF.t102 (getV_state ..) | exact st.reads 3 rfl TF.t102 (getV_state ..))), trivial⟩ rfl ?_
    refine wl_call rfl (c_factors st.im) rfl ?_
    rintro v16 w ⟨t, rfl⟩
    have st := st.pure t
    refine wl_nil ⟨rfl, ?_⟩
    refine FL.permB [11, 10, 9, 4, 3, 8, 7, 6, 5, 2, 1, 0] [7, 6, 5, 1, 0] [8] (by kernel_rfl) ?_
    exact fin _ _ _ _ _ rfl rfl rfl rfl rfl rfl rfl rfl rfl rfl (by first | exact st | exact st.perm p3_2 | exact st.perm p3_3 | exact st.perm p3_4 | exact st.perm p3_5 | exact st.perm p3_6)
 ·refine stepE 10 (pure' := [7, 6, 5, 2, 1, 0]) (lds' := [8]) rfl (by kernel_rfl) (by kernel_rfl) ?_
  refine wl_alloc TF.z108 st rfl ?_
  intro b3 w st
  refine wl_nil ⟨rfl, ?_⟩
  refine fl_effs [3, 9, 11] (by kernel_rfl) ⟨obl_ld rfl rfl rfl (v_load rfl (by first | exact st.reads 0 rfl TF.t102 (getV_state ..) | exact st.reads 1 rfl TF.t102 (getV_state ..) | exact st.reads 2 rfl TF.t102 (getV_state ..) | exact st.reads 3 rfl TF.t102 (getV_state ..))), trivial⟩ (all3 ?_ ?_ ?_)
  ·refine stepE 3 (pure' := [7, 6, 5, 1, 0]) (lds' := [8]) rfl (by kernel_rfl) (by kernel_rfl) ?_
   refine wl_call rfl (by first | exact c_spreadS st 0 rfl hl | exact c_spreadS st 1 rfl hl | exact c_spreadS st 2 rfl hl | exact c_spreadS st 3 rfl hl) rfl ?_
   rintro v15 w ⟨t, rfl⟩
   have st := st.pure t
   refine wl_nil ⟨rfl, ?_⟩
   refine fl_effs [4, 9, 11] (by kernel_rfl) ⟨obl_ld rfl rfl rfl (v_load rfl (by first | exact st.reads 0 rfl TF.t102 (getV_state ..) | exact st.reads 1 rfl TF.t102 (getV_state ..) | exact st.reads 2 rfl TF.t102 (getV_state ..) | exact st.reads 3 rfl TF.t102 (getV_state ..))), trivial⟩ (all3 ?_ ?_ ?_)
   ·refine stepE 4 (pure' := [7, 6, 5, 1, 0]) (lds' := [8]) rfl (by kernel_rfl) (by kernel_rfl) ?_
    refine wl_call rfl (c_factors st.im) rfl ?_
    rintro v16 w ⟨t, rfl⟩
    have st := st.pure t
    refine wl_nil ⟨rfl, ?_⟩
    refine fl_effs [9, 11] (by kernel_rfl) ⟨obl_ld rfl rfl rfl (v_load rfl (by first | exact st.reads 0 rfl TF.t102 (getV_state ..) | exact st.reads 1 rfl TF.t102 (getV_state ..) | exact st.reads 2 rfl TF.t102 (getV_state ..) | exact st.reads 3 rfl TF.t102 (getV_state ..))), trivial⟩ (all2 ?_ ?_)
    ·refine stepE 9 (pure' := [7, 6, 5, 1, 0]) (lds' := [8]) rfl (by kernel_rfl) (by kernel_rfl) ?_
     refine wl_alloc TF.z108 st rfl ?_
     intro b2 w st
     refine wl_nil ⟨rfl, ?_⟩
     refine fl_eff1 11 [7, 6, 5, 1, 0] [8] (by kernel_rfl) ⟨obl_ld rfl rfl rfl (v_load rfl (by first | exact st.reads 0 rfl TF.t102 (getV_state ..) | exact st.reads 1 rfl TF.t102 (getV_state ..) | exact st.reads 2 rfl TF.t102 (getV_state ..) | exact st.reads 3 rfl TF.t102 (getV_state ..))), trivial⟩ rfl ?_
     refine wl_alloc TF.z102 st rfl ?_
     intro b4 w st
     refine wl_nil ⟨rfl, ?_⟩
     refine FL.permB [11, 10, 9, 4, 3, 8, 7, 6, 5, 2, 1, 0] [7, 6, 5, 1, 0] [8] (by kernel_rfl) ?_
     exact fin _ _ _ _ _ rfl rfl rfl rfl rfl rfl rfl rfl rfl rfl (by first | exact st | exact st.perm p3_2 | exact st.perm p3_3 | exact st.perm p3_4 | exact st.perm p3_5 | exact st.perm p3_6)
    ·refine stepE 11 (pure' := [7, 6, 5, 1, 0]) (lds' := [8]) rfl (by kernel_rfl) (by kernel_rfl) ?_
     refine wl_alloc TF.z102 st rfl ?_
     intro b4 w st
     refine wl_nil ⟨rfl, ?_⟩
     refine fl_eff1 9 [7, 6, 5, 1, 0] [8] (by kernel_rfl) ⟨obl_ld rfl rfl rfl (v_load rfl (by first | exact st.reads 0 rfl TF.t102 (getV_state ..) | exact st.reads 1 rfl TF.t102 (getV_state ..) | exact st.reads 2 rfl TF.t102 (getV_state ..) | exact st.reads 3 rfl TF.t102 (getV_state ..))), trivial⟩ rfl ?_
     refine wl_alloc TF.z108 st rfl ?_
     intro b2 w st
     refine wl_nil ⟨rfl, ?_⟩
     refine FL.permB [11, 10, 9, 4, 3, 8, 7, 6, 5, 2, 1, 0] [7, 6, 5, 1, 0] [8] (by kernel_rfl) ?_
     exact fin _ _ _ _ _ rfl rfl rfl rfl rfl rfl rfl rfl rfl rfl (by first | exact st | exact st.perm p3_2 | exact st.perm p3_3 | exact st.perm p3_4 | exact st.perm p3_5 | exact st.perm p3_6)
   ·refine stepE 9 (pure' := [7, 6, 5, 1, 0]) (lds' := [8]) rfl (by kernel_rfl) (by kernel_rfl) ?_
    refine wl_alloc TF.z108 st rfl ?_
    intro b2 w st
    refine wl_nil ⟨rfl, ?_⟩
    refine fl_effs [4, 11] (by kernel_rfl) ⟨obl_ld rfl rfl rfl (v_load rfl (by first | exact st.reads 0 rfl TF.t102 (getV_state ..) | exact st.reads 1 rfl TF.t102 (getV_state ..) | exact st.reads 2 rfl TF.t102 (getV_state ..) | exact st.reads 3 rfl TF.t102 (getV_state ..))), trivial⟩ (all2 ?_ ?_)
    ·refine stepE 4 (pure' := [7, 6, 5, 1, 0]) (lds' := [8]) rfl (by kernel_rfl) (by kernel_rfl) ?_
     refine wl_call rfl (c_factors st.im) rfl ?_
     rintro v16 w ⟨t, rfl⟩
     have st := st.pure t
     refine wl_nil ⟨rfl, ?_⟩
     refine fl_eff1 11 [7, 6, 5, 1, 0] [8] (by kernel_rfl) ⟨obl_ld rfl rfl rfl (v_load rfl (by first | exact st.reads 0 rfl TF.t102 (getV_state ..) | exact st.reads 1 rfl TF.t102 (getV_state ..) | exact st.reads 2 rfl TF.t102 (getV_state ..) | exact st.reads 3 rfl TF.t102 (getV_state ..))), trivial⟩ rfl ?_
     refine wl_alloc TF.z102 st rfl ?_
     intro b4 w st
     refine wl_nil ⟨rfl, ?_⟩
     refine FL.permB [11, 10, 9, 4, 3, 8, 7, 6, 5, 2, 1, 0] [7, 6, 5, 1, 0] [8] (by kernel_rfl) ?_
     exact fin _ _ _ _ _ rfl rfl rfl rfl rfl rfl rfl rfl rfl rfl (by first | exact st | exact st.perm p3_2 | exact st.perm p3_3 | exact st.perm p3_4 | exact st.perm p3_5 | exact st.perm p3_6)
    ·refine stepE 11 (pure' := [7, 6, 5, 1, 0]) (lds' := [8]) rfl (by kernel_rfl) (by kernel_rfl) ?_
     refine wl_alloc TF.z102 st rfl ?_
     intro b4 w st
     refine wl_nil ⟨rfl, ?_⟩
     refine fl_eff1 4 [7, 6, 5, 1, 0] [8] (by kernel_rfl) ⟨obl_ld rfl rfl rfl (v_load rfl (by first | exact st.reads 0 rfl TF.t102 (getV_state ..) | exact st.reads 1 rfl TF.t102 (getV_state ..) | exact st.reads 2 rfl TF.t102 (getV_state ..) | exact st.reads 3 rfl TF.t102 (getV_state ..))), trivial⟩ rfl ?_
     refine wl_call rfl (c_factors st.im) rfl ?_
     rintro v16 w ⟨t, rfl⟩
     have st := st.pure t
     refine wl_nil ⟨rfl, ?_⟩
     refine FL.permB [11, 10, 9, 4, 3, 8, 7, 6, 5, 2, 1, 0] [7, 6, 5, 1, 0] [8] (by kernel_rfl) ?_
     exact fin _ _ _ _ _ rfl rfl rfl rfl rfl rfl rfl rfl rfl rfl (by first | exact st | exact st.perm p3_2 | exact st.perm p3_3 | exact st.perm p3_4 | exact st.perm p3_5 | exact st.perm p3_6)
   ·refine stepE 11 (pure' := [7, 6, 5, 1, 0]) (lds' := [8]) rfl (by kernel_rfl) (by kernel_rfl) ?_
    refine wl_alloc TF.z102 st rfl ?_
    intro b4 w st
    refine wl_nil ⟨rfl, ?_⟩
    refine fl_effs [4, 9] (by kernel_rfl) ⟨obl_ld rfl rfl rfl (v_load rfl (by first | exact st.reads 0 rfl TF.t102 (getV_state ..) | exact st.reads 1 rfl TF.t102 (getV_state ..) | exact st.reads 2 rfl TF.t102 (getV_state ..) | exact st.reads 3 rfl TF.t102 (getV_state ..))), trivial⟩ (all2 ?_ ?_)
    ·refine stepE 4 (pure' := [7, 6, 5, 1, 0]) (lds' := [8]) rfl (by kernel_rfl) (by kernel_rfl) ?_
     refine wl_call rfl (c_factors st.im) rfl ?_
     rintro v16 w ⟨t, rfl⟩
     have st := st.pure t
     refine wl_nil ⟨rfl, ?_⟩
     refine fl_eff1 9 [7, 6, 5, 1, 0] [8] (by kernel_rfl) ⟨obl_ld rfl rfl rfl (v_load rfl (by first | exact st.reads 0 rfl TF.t102 (getV_state ..) | exact st.reads 1 rfl TF.t102 (getV_state ..) | exact st.reads 2 rfl TF.t102 (getV_state ..) | exact st.reads 3 rfl TF.t102 (getV_state ..))), trivial⟩ rfl ?_
     refine wl_alloc TF.z108 st rfl ?_
     intro b2 w st
     refine wl_nil ⟨rfl, ?_⟩
     refine FL.permB [11, 10, 9, 4, 3, 8, 7, 6, 5, 2, 1, 0] [7, 6, 5, 1, 0] [8] (by kernel_rfl) ?_
     exact fin _ _ _ _ _ rfl rfl rfl rfl rfl rfl rfl rfl rfl rfl (by first | exact st | exact st.perm p3_2 | exact st.perm p3_3 | exact st.perm p3_4 | exact st.perm p3_5 | exact st.perm p3_6)
    ·refine stepE 9 (pure' := [7, 6, 5, 1, 0]) (lds' := [8]) rfl (by kernel_rfl) (by kernel_rfl) ?_
     refine wl_alloc TF.z108 st rfl ?_
     intro b2 w st
     refine wl_nil ⟨rfl, ?_⟩
     refine fl_eff1 4 [7, 6, 5, 1, 0] [8] (by kernel_rfl) ⟨obl_ld rfl rfl rfl (v_load rfl (by first | exact st.reads 0 rfl TF.t102 (getV_state ..) | exact st.reads 1 rfl TF.t102 (getV_state ..) | exact st.reads 2 rfl TF.t102 (getV_state ..) | exact st.reads 3 rfl TF.t102 (getV_state ..))), trivial⟩ rfl ?_
     refine wl_call rfl (c_factors st.im) rfl ?_
     rintro v16 w ⟨t, rfl⟩
     have st := st.pure t
     refine wl_nil ⟨rfl, ?_⟩
     refine FL.permB [11, 10, 9, 4, 3, 8, 7, 6, 5, 2, 1, 0] [7, 6, 5, 1, 0] [8] (by kernel_rfl) ?_
     exact fin _ _ _ _ _ rfl rfl rfl rfl rfl rfl rfl rfl rfl rfl (by first | exact st | exact st.perm p3_2 | exact st.perm p3_3 | exact st.perm p3_4 | exact st.perm p3_5 | exact st.perm p3_6)
  ·refine stepE 9 (pure' := [7, 6, 5, 2, 1, 0]) (lds' := [8]) rfl (by kernel_rfl) (by kernel_rfl) ?_
   refine wl_alloc TF.z108 st rfl ?_
   intro b2 w st
   refine wl_nil ⟨rfl, ?_⟩
   refine fl_effs [3, 11] (by kernel_rfl) ⟨obl_ld rfl rfl rfl (v_load rfl (by first | exact st.reads 0 rfl TF.t102 (getV_state ..) | exact st.reads 1 rfl TF.t102 (getV_state ..) | exact st.reads 2 rfl TF.t102 (getV_state ..) | exact st.reads 3 rfl TF.t102 (getV_state ..))), trivial⟩ (all2 ?_ ?_)
   ·refine stepE 3 (pure' := [7, 6, 5, 1, 0]) (lds' := [8]) rfl (by kernel_rfl) (by kernel_rfl) ?_
    refine wl_call rfl (by first | exact c_spreadS st 0 rfl hl | exact c_spreadS st 1 rfl hl | exact c_spreadS st 2 rfl hl | exact c_spreadS st 3 rfl hl) rfl ?_
    rintro v15 w ⟨t, rfl⟩
    have st := st.pure t
    refine wl_nil ⟨rfl, ?_⟩
    refine fl_effs [4, 11] (by kernel_rfl) ⟨obl_ld rfl rfl rfl (v_load rfl (by first | exact st.reads 0 rfl TF.t102 (getV_state ..) | exact st.reads 1 rfl TF.t102 (getV_state ..) | exact st.reads 2 rfl TF.t102 (getV_state ..) | exact st.reads 3 rfl TF.t102 (getV_state ..))), trivial⟩ (all2 ?_ ?_)
    ·refine stepE 4 (pure' := [7, 6, 5, 1, 0]) (lds' := [8]) rfl (by kernel_rfl) (by kernel_rfl) ?_
     refine wl_call rfl (c_factors st.im) rfl ?_
     rintro v16 w ⟨t, rfl⟩
     have st := st.pure t
     refine wl_nil ⟨rfl, ?_⟩
     refine fl_eff1 11 [7, 6, 5, 1, 0] [8] (by kernel_rfl) ⟨obl_ld rfl rfl rfl (v_load rfl (by first | exact st.reads 0 rfl TF.t102 (getV_state ..) | exact st.reads 1 rfl TF.t102 (getV_state ..) | exact st.reads 2 rfl TF.t102 (getV_state ..) | exact st.reads 3 rfl TF.t102 (getV_state ..))), trivial⟩ rfl ?_
     refine wl_alloc TF.z102 st rfl ?_
     intro b4 w st
     refine wl_nil ⟨rfl, ?_⟩
     refine FL.permB [11, 10, 9, 4, 3, 8, 7, 6, 5, 2, 1, 0] [7, 6, 5, 1, 0] [8] (by kernel_rfl) ?_
     exact fin _ _ _ _ _ rfl rfl rfl rfl rfl rfl rfl rfl rfl rfl (by first | exact st | exact st.perm p3_2 | exact st.perm p3_3 | exact st.perm p3_4 | exact st.perm p3_5 | exact st.perm p3_6)
    ·refine stepE 11 (pure' := [7, 6, 5, 1, 0]) (lds' := [8]) rfl (by kernel_rfl) (by kernel_rfl) ?_
     refine wl_alloc TF.z102 st rfl ?_
     intro b4 w st
     refine wl_nil ⟨rfl, ?_⟩
     refine fl_eff1 4 [7, 6, 5, 1, 0] [8] (by kernel_rfl) ⟨obl_ld rfl rfl rfl (v_load rfl (by first | exact st.reads 0 rfl TF.t102 (getV_state ..) | exact st.reads 1 rfl TF.t102 (getV_state ..) | exact st.reads 2 rfl TF.t102 (getV_state ..) | exact st.reads 3 rfl TF.t102 (getV_state ..))), trivial⟩ rfl ?_
     refine wl_call rfl (c_factors st.im) rfl ?_
     rintro v16 w ⟨t, rfl⟩
     have st := st.pure t
     refine wl_nil ⟨rfl, ?_⟩
     refine FL.permB [11, 10, 9, 4, 3, 8, 7, 6, 5, 2, 1, 0] [7, 6, 5, 1, 0] [8] (by kernel_rfl) ?_
     exact fin _ _ _ _ _ rfl rfl rfl rfl rfl rfl rfl rfl rfl rfl (by first | exact st | exact st.perm p3_2 | exact st.perm p3_3 | exact st.perm p3_4 | exact st.perm p3_5 | exact st.perm p3_6)
   ·refine stepE 11 (pure' := [7, 6, 5, 2, 1, 0]) (lds' := [8]) rfl (by kernel_rfl) (by kernel_rfl) ?_
    refine wl_alloc TF.z102 st rfl ?_
    intro b4 w st
    refine wl_nil ⟨rfl, ?_⟩
    refine fl_eff1 3 [7, 6, 5, 1, 0] [8] (by kernel_rfl) ⟨obl_ld rfl rfl rfl (v_load rfl (by first | exact st.reads 0 rfl TF.t102 (getV_state ..) | exact st.reads 1 rfl TF.t102 (getV_state ..) | exact st.reads 2 rfl TF.t102 (getV_state ..) | exact st.reads 3 rfl TF.t102 (getV_state ..))), trivial⟩ rfl ?_
    refine wl_call rfl (by first | exact c_spreadS st 0 rfl hl | exact c_spreadS st 1 rfl hl | exact c_spreadS st 2 rfl hl | exact c_spreadS st 3 rfl hl) rfl ?_
    rintro v15 w ⟨t, rfl⟩
    have st := st.pure t
    refine wl_nil ⟨rfl, ?_⟩
    refine fl_eff1 4 [7, 6, 5, 1, 0] [8] (by kernel_rfl) ⟨obl_ld rfl rfl rfl (v_load rfl (by first | exact st.reads 0 rfl TF.t102 (getV_state ..) | exact st.reads 1 rfl TF.t102 (getV_state ..) | exact st.reads 2 rfl TF.t102 (getV_state ..) | exact st.reads 3 rfl TF.t102 (getV_state ..))), trivial⟩ rfl ?_
    refine wl_call rfl (c_factors st.im) rfl ?_
    rintro v16 w ⟨t, rfl⟩
    have st := st.pure t
    refine wl_nil ⟨rfl, ?_⟩
    refine FL.permB [11, 10, 9, 4, 3, 8, 7, 6, 5, 2, 1, 0] [7, 6, 5, 1, 0] [8] (by kernel_rfl) ?_
    exact fin _ _ _ _ _ rfl rfl rfl rfl rfl rfl rfl rfl rfl rfl (by first | exact st | exact st.perm p3_2 | exact st.perm p3_3 | exact st.perm p3_4 | exact st.perm p3_5 | exact st.perm p3_6)
  ·refine stepE 11 (pure' := [7, 6, 5, 2, 1, 0]) (lds' := [8]) rfl (by kernel_rfl) (by kernel_rfl) ?_
   refine wl_alloc TF.z102 st rfl ?_
   intro b4 w st
   refine wl_nil ⟨rfl, ?_⟩
   refine fl_effs [3, 9] (by kernel_rfl) ⟨obl_ld rfl rfl rfl (v_load rfl (by first | exact st.reads 0 rfl TF.t102 (getV_state ..) | exact st.reads 1 rfl TF.t102 (getV_state ..) | exact st.reads 2 rfl TF.t102 (getV_state ..) | exact st.reads 3 rfl TF.t102 (getV_state ..))), trivial⟩ (all2 ?_ ?_)
   ·refine stepE 3 (pure' := [7, 6, 5, 1, 0]) (lds' := [8]) rfl (by kernel_rfl) (by kernel_rfl) ?_
    refine wl_call rfl (by first | exact c_spreadS st 0 rfl hl | exact c_spreadS st 1 rfl hl | exact c_spreadS st 2 rfl hl | exact c_spreadS st 3 rfl hl) rfl ?_
    rintro v15 w ⟨t, rfl⟩
    have st := st.pure t
    refine wl_nil ⟨rfl, ?_⟩
    refine fl_effs [4, 9] (by kernel_rfl) ⟨obl_ld rfl rfl rfl (v_load rfl (by first | exact st.reads 0 rfl TF.t102 (getV_state ..) | exact st.reads 1 rfl TF.t102 (getV_state ..) | exact st.reads 2 rfl TF.t102 (getV_state ..) | exact st.reads 3 rfl TF.t102 (getV_state ..))), trivial⟩ (all2 ?_ ?_)
    ·refine stepE 4 (pure' := [7, 6, 5, 1, 0]) (lds' := [8]) rfl (by kernel_rfl) (by kernel_rfl) ?_
     refine wl_call rfl (c_factors st.im) rfl ?_
     rintro v16 w ⟨t, rfl⟩
     have st := st.pure t
     refine wl_nil ⟨rfl, ?_⟩
     refine fl_eff1 9 [7, 6, 5, 1, 0] [8] (by kernel_rfl) ⟨obl_ld rfl rfl rfl (v_load rfl (by first | exact st.reads 0 rfl TF.t102 (getV_state ..) | exact st.reads 1 rfl TF.t102 (getV_state ..) | exact st.reads 2 rfl TF.t102 (getV_state ..) | exact st.reads 3 rfl TF.t102 (getV_state ..))), trivial⟩ rfl ?_
     refine wl_alloc TF.z108 st rfl ?_
     intro b2 w st
     refine wl_nil ⟨rfl, ?_⟩
     refine FL.permB [11, 10, 9, 4, 3, 8, 7, 6, 5, 2, 1, 0] [7, 6, 5, 1, 0] [8] (by kernel_rfl) ?_
     exact fin _ _ _ _ _ rfl rfl rfl rfl rfl rfl rfl rfl rfl rfl (by first | exact st | exact st.perm p3_2 | exact st.perm p3_3 | exact st.perm p3_4 | exact st.perm p3_5 | exact st.perm p3_6)
    ·refine stepE 9 (pure' := [7, 6, 5, 1, 0]) (lds' := [8]) rfl (by kernel_rfl) (by kernel_rfl) ?_
     refine wl_alloc TF.z108 st rfl ?_
     intro b2 w st
     refine wl_nil ⟨rfl, ?_⟩
     refine fl_eff1 4 [7, 6, 5, 1, 0] [8] (by kernel_rfl) ⟨obl_ld rfl rfl rfl (v_load rfl (by first | exact st.reads 0 rfl TF.t102 (getV_state ..) | exact st.reads 1 rfl TF.t102 (getV_state ..) | exact st.reads 2 rfl TF.t102 (getV_state ..) | exact st.reads 3 rfl TF.t102 (getV_state ..))), trivial⟩ rfl ?_
     refine wl_call rfl (c_factors st.im) rfl ?_
     rintro v16 w ⟨t, rfl⟩
     have st := st.pure t
     refine wl_nil ⟨rfl, ?_⟩
     refine FL.permB [11, 10, 9, 4, 3, 8, 7, 6, 5, 2, 1, 0] [7, 6, 5, 1, 0] [8] (by kernel_rfl) ?_
     exact fin _ _ _ _ _ rfl rfl rfl rfl rfl rfl rfl rfl rfl rfl (by first | exact st | exact st.perm p3_2 | exact st.perm p3_3 | exact st.perm p3_4 | exact st.perm p3_5 | exact st.perm p3_6)
   ·refine stepE 9 (pure' := [7, 6, 5, 2, 1, 0]) (lds' := [8]) rfl (by kernel_rfl) (by kernel_rfl) ?_
    refine wl_alloc TF.z108 st rfl ?_
    intro b2 w st
    refine wl_nil ⟨rfl, ?_⟩
    refine fl_eff1 3 [7, 6, 5, 1, 0] [8] (by kernel_rfl) ⟨obl_ld rfl rfl rfl (v_load rfl (by first | exact st.reads 0 rfl TF.t102 (getV_state ..) | exact st.reads 1 rfl TF.t102 (getV_state ..) | exact st.reads 2 rfl TF.t102 (getV_state ..) | exact st.reads 3 rfl TF.t102 (getV_state ..))), trivial⟩ rfl ?_
    refine wl_call rfl (by first | exact c_spreadS st 0 rfl hl | exact c_spreadS st 1 rfl hl | exact c_spreadS st 2 rfl hl | exact c_spreadS st 3 rfl hl) rfl ?_
    rintro v15 w ⟨t, rfl⟩
    have st := st.pure t
    refine wl_nil ⟨rfl, ?_⟩
    refine fl_eff1 4 [7, 6, 5, 1, 0] [8] (by kernel_rfl) ⟨obl_ld rfl rfl rfl (v_load rfl (by first | exact st.reads 0 rfl TF.t102 (getV_state ..) | exact st.reads 1 rfl TF.t102 (getV_state ..) | exact st.reads 2 rfl TF.t102 (getV_state ..) | exact st.reads 3 rfl TF.t102 (getV_state ..))), trivial⟩ rfl ?_
    refine wl_call rfl (c_factors st.im) rfl ?_
    rintro v16 w ⟨t, rfl⟩
    have st := st.pure t
    refine wl_nil ⟨rfl, ?_⟩
    refine FL.permB [11, 10, 9, 4, 3, 8, 7, 6, 5, 2, 1, 0] [7, 6, 5, 1, 0] [8] (by kernel_rfl) ?_
    exact fin _ _ _ _ _ rfl rfl rfl rfl rfl rfl rfl rfl rfl rfl (by first | exact st | exact st.perm p3_2 | exact st.perm p3_3 | exact st.perm p3_4 | exact st.perm p3_5 | exact st.perm p3_6)
 ·refine stepE 11 (pure' := [7, 6, 5, 2, 1, 0]) (lds' := [8]) rfl (by kernel_rfl) (by kernel_rfl) ?_
  refine wl_alloc TF.z102 st rfl ?_
  intro b4 w st
  refine wl_nil ⟨rfl, ?_⟩
  refine fl_effs [3, 9, 10] (by kernel_rfl) ⟨obl_ld rfl rfl rfl (v_load rfl (by first | exact st.reads 0 rfl TF.t102 (getV_state ..) | exact st.reads 1 rfl TF.t102 (getV_state ..) | exact st.reads 2 rfl TF.t102 (getV_state ..) | exact st.reads 3 rfl TF.t102 (getV_state ..))), trivial⟩ (all3 ?_ ?_ ?_)
  ·refine stepE 3 (pure' := [7, 6, 5, 1, 0]) (lds' := [8]) rfl (by kernel_rfl) (by kernel_rfl) ?_
   refine wl_call rfl (by first | exact c_spreadS st 0 rfl hl | exact c_spreadS st 1 rfl hl | exact c_spreadS st 2 rfl hl | exact c_spreadS st 3 rfl hl) rfl ?_
   rintro v15 w ⟨t, rfl⟩
   have st := st.pure t
   refine wl_nil ⟨rfl, ?_⟩
   refine fl_effs [4, 9, 10] (by kernel_rfl) ⟨obl_ld rfl rfl rfl (v_load rfl (by first | exact st.reads 0 rfl TF.t102 (getV_state ..) | exact st.reads 1 rfl TF.t102 (getV_state ..) | exact st.reads 2 rfl TF.t102 (getV_state ..) | exact st.reads 3 rfl TF.t102 (getV_state ..))), trivial⟩ (all3 ?_ ?_ ?_)
   ·refine stepE 4 (pure' := [7, 6, 5, 1, 0]) (lds' := [8]) rfl (by kernel_rfl) (by kernel_rfl) ?_
    refine wl_call rfl (c_factors st.im) rfl ?_
    rintro v16 w ⟨t, rfl⟩
    have st := st.pure t
    refine wl_nil ⟨rfl, ?_⟩
    refine fl_effs [9, 10] (by kernel_rfl) ⟨obl_ld rfl rfl rfl (v_load rfl (by first | exact st.reads 0 rfl TF.t102 (getV_state ..) | exact st.reads 1 rfl TF.t102 (getV_state ..) | exact st.reads 2 rfl TF.t102 (getV_state ..) | exact st.reads 3 rfl TF.t102 (getV_state ..))), trivial⟩ (all2 ?_ ?_)
    ·refine stepE 9 (pure' := [7, 6, 5, 1, 0]) (lds' := [8]) rfl (by kernel_rfl) (by kernel_rfl) ?_
     refine wl_alloc TF.z108 st rfl ?_
     intro b2 w st
     refine wl_nil ⟨rfl, ?_⟩
     refine fl_eff1 10 [7, 6, 5, 1, 0] [8] (by kernel_rfl) ⟨obl_ld rfl rfl rfl (v_load rfl (by first | exact st.reads 0 rfl TF.t102 (getV_state ..) | exact st.reads 1 rfl TF.t102 (getV_state ..) | exact st.reads 2 rfl TF.t102 (getV_state ..) | exact st.reads 3 rfl TF.t102 (getV_state ..))), trivial⟩ rfl ?_
     refine wl_alloc TF.z108 st rfl ?_
     intro b3 w st
     refine wl_nil ⟨rfl, ?_⟩
     refine FL.permB [11, 10, 9, 4, 3, 8, 7, 6, 5, 2, 1, 0] [7, 6, 5, 1, 0] [8] (by kernel_rfl) ?_
     exact fin _ _ _ _ _ rfl rfl rfl rfl rfl rfl rfl rfl rfl rfl (by first | exact st | exact st.perm p3_2 | exact st.perm p3_3 | exact st.perm p3_4 | exact st.perm p3_5 | exact st.perm p3_6)
    ·refine stepE 10 (pure' := [7, 6, 5, 1, 0]) (lds' := [8]) rfl (by kernel_rfl) (by kernel_rfl) ?_
     refine wl_alloc TF.z108 st rfl ?_
     intro b3 w st
     refine wl_nil ⟨rfl, ?_⟩
     refine fl_eff1 9 [7, 6, 5, 1, 0] [8] (by kernel_rfl) ⟨obl_ld rfl rfl rfl (v_load rfl (by first | exact st.reads 0 rfl TF.t102 (getV_state ..) | exact st.reads 1 rfl TF.t102 (getV_state ..) | exact st.reads 2 rfl TF.t102 (getV_state ..) | exact st.reads 3 rfl TF.t102 (getV_state ..))), trivial⟩ rfl ?_
     refine wl_alloc TF.z108 st rfl ?_
     intro b2 w st
     refine wl_nil ⟨rfl, ?_⟩
     refine FL.permB [11, 10, 9, 4, 3, 8, 7, 6, 5, 2, 1, 0] [7, 6, 5, 1, 0] [8] (by kernel_rfl) ?_
     exact fin _ _ _ _ _ rfl rfl rfl rfl rfl rfl rfl rfl rfl rfl (by first | exact st | exact st.perm p3_2 | exact st.perm p3_3 | exact st.perm p3_4 | exact st.perm p3_5 | exact st.perm p3_6)
   ·refine stepE 9 (pure' := [7, 6, 5, 1, 0]) (lds' := [8]) rfl (by kernel_rfl) (by kernel_rfl) ?_
    refine wl_alloc TF.z108 st rfl ?_
    intro b2 w st
    refine wl_nil ⟨rfl, ?_⟩
    refine fl_effs [4, 10] (by kernel_rfl) ⟨obl_ld rfl rfl rfl (v_load rfl (by first | exact st.reads 0 rfl TF.t102 (getV_state ..) | exact st.reads 1 rfl TF.t102 (getV_state ..) | exact st.reads 2 rfl TF.t102 (getV_state ..) | exact st.reads 3 rfl TF.t102 (getV_state ..))), trivial⟩ (all2 ?_ ?_)
    ·refine stepE 4 (pure' := [7, 6, 5, 1, 0]) (lds' := [8]) rfl (by kernel_rfl) (by kernel_rfl) ?_
     refine wl_call rfl (c_factors st.im) rfl ?_
     rintro v16 w ⟨t, rfl⟩
     have st := st.pure t
     refine wl_nil ⟨rfl, ?_⟩
     refine fl_eff1 10 [7, 6, 5, 1, 0] [8] (by kernel_rfl) ⟨obl_ld rfl rfl rfl (v_load rfl (by first | exact st.reads 0 rfl TF.t102 (getV_state ..) | exact st.reads 1 rfl TF.t102 (getV_state ..) | exact st.reads 2 rfl TF.t102 (getV_state ..) | exact st.reads 3 rfl TF.t102 (getV_state ..))), trivial⟩ rfl ?_
     refine wl_alloc TF.z108 st rfl ?_
     intro b3 w st
     refine wl_nil ⟨rfl, ?_⟩
     refine FL.permB [11, 10, 9, 4, 3, 8, 7, 6, 5, 2, 1, 0] [7, 6, 5, 1, 0] [8] (by kernel_rfl) ?_
     exact fin _ _ _ _ _ rfl rfl rfl rfl rfl rfl rfl rfl rfl rfl (by first | exact st | exact st.perm p3_2 | exact st.perm p3_3 | exact st.perm p3_4 | exact st.perm p3_5 | exact st.perm p3_6)
    ·refine stepE 10 (pure' := [7, 6, 5, 1, 0]) (lds' := [8]) rfl (by kernel_rfl) (by kernel_rfl) ?_
     refine wl_alloc TF.z108 st rfl ?_
     intro b3 w st
     refine wl_nil ⟨rfl, ?_⟩
     refine fl_eff1 4 [7, 6, 5, 1, 0] [8] (by kernel_rfl) ⟨obl_ld rfl rfl rfl (v_load rfl (by first | exact st.reads 0 rfl TF.t102 (getV_state ..) | exact st.reads 1 rfl TF.t102 (getV_state ..) | exact st.reads 2 rfl TF.t102 (getV_state ..) | exact st.reads 3 rfl TF.t102 (getV_state ..))), trivial⟩ rfl ?_
     refine wl_call rfl (c_factors st.im) rfl ?_
     rintro v16 w ⟨t, rfl⟩
     have st := st.pure t
     refine wl_nil ⟨rfl, ?_⟩
     refine FL.permB [11, 10, 9, 4, 3, 8, 7, 6, 5, 2, 1, 0] [7, 6, 5, 1, 0] [8] (by kernel_rfl) ?_
     exact fin _ _ _ _ _ rfl rfl rfl rfl rfl rfl rfl rfl rfl rfl (by first | exact st | exact st.perm p3_2 | exact st.perm p3_3 | exact st.perm p3_4 | exact st.perm p3_5 | exact st.perm p3_6)
   ·refine stepE 10 (pure' := [7, 6, 5, 1, 0]) (lds' := [8]) rfl (by kernel_rfl) (by kernel_rfl) ?_
    refine wl_alloc TF.z108 st rfl ?_
    intro b3 w st
    refine wl_nil ⟨rfl, ?_⟩
    refine fl_effs [4, 9] (by kernel_rfl) ⟨obl_ld rfl rfl rfl (v_load rfl (by first | exact st.reads 0 rfl TF.t102 (getV_state ..) | exact st.reads 1 rfl TF.t102 (getV_state ..) | exact st.reads 2 rfl TF.t102 (getV_state ..) | exact st.reads 3 rfl TF.t102 (getV_state ..))), trivial⟩ (all2 ?_ ?_)
    ·refine stepE 4 (pure' := [7, 6, 5, 1, 0]) (lds' := [8]) rfl (by kernel_rfl) (by kernel_rfl) ?_
     refine wl_call rfl (c_factors st.im) rfl ?_
     rintro v16 w ⟨t, rfl⟩
     have st := st.pure t
     refine wl_nil ⟨rfl, ?_⟩
     refine fl_eff1 9 [7, 6, 5, 1, 0] [8] (by kernel_rfl) ⟨obl_ld rfl rfl rfl (v_load rfl (by first | exact st.reads 0 rfl TF.t102 (getV_state ..) | exact st.reads 1 rfl TF.t102 (getV_state ..) | exact st.reads 2 rfl TF.t102 (getV_state ..) | exact st.reads 3 rfl TF.t102 (getV_state ..))), trivial⟩ rfl ?_
     refine wl_alloc TF.z108 st rfl ?_
     intro b2 w st
     refine wl_nil ⟨rfl, ?_⟩
     refine FL.permB [11, 10, 9, 4, 3, 8, 7, 6, 5, 2, 1, 0] [7, 6, 5, 1, 0] [8] (by kernel_rfl) ?_
     exact fin _ _ _ _ _ rfl rfl rfl rfl rfl rfl rfl rfl rfl rfl (by first | exact st | exact st.perm p3_2 | exact st.perm p3_3 | exact st.perm p3_4 | exact st.perm p3_5 | exact st.perm p3_6)
    ·refine stepE 9 (pure' := [7, 6, 5, 1, 0]) (lds' := [8]) rfl (by kernel_rfl) (by kernel_rfl) ?_
     refine wl_alloc TF.z108 st rfl ?_
     intro b2 w st
     refine wl_nil ⟨rfl, ?_⟩
     refine fl_eff1 4 [7, 6, 5, 1, 0] [8] (by kernel_rfl) ⟨obl_ld rfl rfl rfl (v_load rfl (by first | exact st.reads 0 rfl TF.t102 (getV_state ..) | exact st.reads 1 rfl TF.t102 (getV_state ..) | exact st.reads 2 rfl TF.t102 (getV_state ..) | exact st.reads 3 rfl TF.t102 (getV_state ..))), trivial⟩ rfl ?_
     refine wl_call rfl (c_factors st.im) rfl ?_
     rintro v16 w ⟨t, rfl⟩
     have st := st.pure t
     refine wl_nil ⟨rfl, ?_⟩
     refine FL.permB [11, 10, 9, 4, 3, 8, 7, 6, 5, 2, 1, 0] [7, 6, 5, 1, 0] [8] (by kernel_rfl) ?_
     exact fin _ _ _ _ _ rfl rfl rfl rfl rfl rfl rfl rfl rfl rfl (by first | exact st | exact st.perm p3_2 | exact st.perm p3_3 | exact st.perm p3_4 | exact st.perm p3_5 | exact st.perm p3_6)
  ·refine stepE 9 (pure' := [7, 6, 5, 2, 1, 0]) (lds' := [8]) rfl (by kernel_rfl) (by kernel_rfl) ?_
   refine wl_alloc TF.z108 st rfl ?_
   intro b2 w st
   refine wl_nil ⟨rfl, ?_⟩
   refine fl_effs [3, 10] (by kernel_rfl) ⟨obl_ld rfl rfl rfl (v_load rfl (by first | exact st.reads 0 rfl TF.t102 (getV_state ..) | exact st.reads 1 rfl TF.t102 (getV_state ..) | exact st.reads 2 rfl TF.t102 (getV_state ..) | exact st.reads 3 rfl TF.t102 (getV_state ..))), trivial⟩ (all2 ?_ ?_)
   ·refine stepE 3 (pure' := [7, 6, 5, 1, 0]) (lds' := [8]) rfl (by kernel_rfl) (by kernel_rfl) ?_
    refine wl_call rfl (by first | exact c_spreadS st 0 rfl hl | exact c_spreadS st 1 rfl hl | exact c_spreadS st 2 rfl hl | exact c_spreadS st 3 rfl hl) rfl ?_
    rintro v15 w ⟨t, rfl⟩
    have st := st.pure t
    refine wl_nil ⟨rfl, ?_⟩
    refine fl_effs [4, 10] (by kernel_rfl) ⟨obl_ld rfl rfl rfl (v_load rfl (by first | exact st.reads 0 rfl TF.t102 (getV_state ..) | exact st.reads 1 rfl TF.t102 (getV_state ..) | exact st.reads 2 rfl TF.t102 (getV_state ..) | exact st.reads 3 rfl TF.t102 (getV_state ..))), trivial⟩ (all2 ?_ ?_)
    ·refine stepE 4 (pure' := [7, 6, 5, 1, 0]) (lds' := [8]) rfl (by kernel_rfl) (by kernel_rfl) ?_
     refine wl_call rfl (c_factors st.im) rfl ?_
     rintro v16 w ⟨t, rfl⟩
     have st := st.pure t
     refine wl_nil ⟨rfl, ?_⟩
     refine fl_eff1 10 [7, 6, 5, 1, 0] [8] (by kernel_rfl) ⟨obl_ld rfl rfl rfl (v_load rfl (by first | exact st.reads 0 rfl TF.t102 (getV_state ..) | exact st.reads 1 rfl TF.t102 (getV_state ..) | exact st.reads 2 rfl TF.t102 (getV_state ..) | exact st.reads 3 rfl TF.t102 (getV_state ..))), trivial⟩ rfl ?_
     refine wl_alloc TF.z108 st rfl ?_
     intro b3 w st
     refine wl_nil ⟨rfl, ?_⟩
     refine FL.permB [11, 10, 9, 4, 3, 8, 7, 6, 5, 2, 1, 0] [7, 6, 5, 1, 0] [8] (by kernel_rfl) ?_
     exact fin _ _ _ _ _ rfl rfl rfl rfl rfl rfl rfl rfl rfl rfl (by first | exact st | exact st.perm p3_2 | exact st.perm p3_3 | exact st.perm p3_4 | exact st.perm p3_5 | exact st.perm p3_6)
    ·refine stepE 10 (pure' := [7, 6, 5, 1, 0]) (lds' := [8]) rfl (by kernel_rfl) (by kernel_rfl) ?_
     refine wl_alloc TF.z108 st rfl ?_
     intro b3 w st
     refine wl_nil ⟨rfl, ?_⟩
     refine fl_eff1 4 [7, 6, 5, 1, 0] [8] (by kernel_rfl) ⟨obl_ld rfl rfl rfl (v_load rfl (by first | exact st.reads 0 rfl TF.t102 (getV_state ..) | exact st.reads 1 rfl TF.t102 (getV_state ..) | exact st.reads 2 rfl TF.t102 (getV_state ..) | exact st.reads 3 rfl TF.t102 (getV_state ..))), trivial⟩ rfl ?_
     refine wl_call rfl (c_factors st.im) rfl ?_
     rintro v16 w ⟨t, rfl⟩
     have st := st.pure t
     refine wl_nil ⟨rfl, ?_⟩
     refine FL.permB [11, 10, 9, 4, 3, 8, 7, 6, 5, 2, 1, 0] [7, 6, 5, 1, 0] [8] (by kernel_rfl) ?_
     exact fin _ _ _ _ _ rfl rfl rfl rfl rfl rfl rfl rfl rfl rfl (by first | exact st | exact st.perm p3_2 | exact st.perm p3_3 | exact st.perm p3_4 | exact st.perm p3_5 | exact st.perm p3_6)
   ·refine stepE 10 (pure' := [7, 6, 5, 2, 1, 0]) (lds' := [8]) rfl (by kernel_rfl) (by kernel_rfl) ?_
    refine wl_alloc TF.z108 st rfl ?_
    intro b3 w st
    refine wl_nil ⟨rfl, ?_⟩
    refine fl_eff1 3 [7, 6, 5, 1, 0] [8] (by kernel_rfl) ⟨obl_ld rfl rfl rfl (v_load rfl (by first | exact st.reads 0 rfl TF.t102 (getV_state ..) | exact st.reads 1 rfl TF.t102 (getV_state ..) | exact st.reads 2 rfl TF.t102 (getV_state ..) | exact st.reads 3 rfl TF.t102 (getV_state ..))), trivial⟩ rfl ?_
    refine wl_call rfl (by first | exact c_spreadS st 0 rfl hl | exact c_spreadS st 1 rfl hl | exact c_spreadS st 2 rfl hl | exact c_spreadS st 3 rfl hl) rfl ?_
    rintro v15 w ⟨t, rfl⟩
    have st := st.pure t
    refine wl_nil ⟨rfl, ?_⟩
    refine fl_eff1 4 [7, 6, 5, 1, 0] [8] (by kernel_rfl) ⟨obl_ld rfl rfl rfl (v_load rfl (by first | exact st.reads 0 rfl TF.t102 (getV_state ..) | exact st.reads 1 rfl TF.t102 (getV_state ..) | exact st.reads 2 rfl TF.t102 (getV_state ..) | exact st.reads 3 rfl TF.t102 (getV_state ..))), trivial⟩ rfl ?_
    refine wl_call rfl (c_factors st.im) rfl ?_
    rintro v16 w ⟨t, rfl⟩
    have st := st.pure t
    refine wl_nil ⟨rfl, ?_⟩
    refine FL.permB [11, 10, 9, 4, 3, 8, 7, 6, 5, 2, 1, 0] [7, 6, 5, 1, 0] [8] (by kernel_rfl) ?_
    exact fin _ _ _ _ _ rfl rfl rfl rfl rfl rfl rfl rfl rfl rfl (by first | exact st | exact st.perm p3_2 | exact st.perm p3_3 | exact st.perm p3_4 | exact st.perm p3_5 | exact st.perm p3_6)
  ·refine stepE 10 (pure' := [7, 6, 5, 2, 1, 0]) (lds' := [8]) rfl (by kernel_rfl) (by kernel_rfl) ?_
   refine wl_alloc TF.z108 st rfl ?_
   intro b3 w st
   refine wl_nil ⟨rfl, ?_⟩
   refine fl_effs [3, 9] (by kernel_rfl) ⟨obl_ld rfl rfl rfl (v_load rfl (by first | exact st.reads 0 rfl TF.t102 (getV_state ..) | exact st.reads 1 rfl TF.t102 (getV_state ..) | exact st.reads 2 rfl TF.t102 (getV_state ..) | exact st.reads 3 rfl TF.t102 (getV_state ..))), trivial⟩ (all2 ?_ ?_)
   ·refine stepE 3 (pure' := [7, 6, 5, 1, 0]) (lds' := [8]) rfl (by kernel_rfl) (by kernel_rfl) ?_
    refine wl_call rfl (by first | exact c_spreadS st 0 rfl hl | exact c_spreadS st 1 rfl hl | exact c_spreadS st 2 rfl hl | exact c_spreadS st 3 rfl hl) rfl ?_
    rintro v15 w ⟨t, rfl⟩
    have st := st.pure t
    refine wl_nil ⟨rfl, ?_⟩
    refine fl_effs [4, 9] (by kernel_rfl) ⟨obl_ld rfl rfl rfl (v_load rfl (by first | exact st.reads 0 rfl TF.t102 (getV_state ..) | exact st.reads 1 rfl TF.t102 (getV_state ..) | exact st.reads 2 rfl TF.t102 (getV_state ..) | exact st.reads 3 rfl TF.t102 (getV_state ..))), trivial⟩ (all2 ?_ ?_)
    ·refine stepE 4 (pure' := [7, 6, 5, 1, 0]) (lds' := [8]) rfl (by kernel_rfl) (by kernel_rfl) ?_
     refine wl_call rfl (c_factors st.im) rfl ?_
     rintro v16 w ⟨t, rfl⟩
     have st := st.pure t
     refine wl_nil ⟨rfl, ?_⟩
     refine fl_eff1 9 [7, 6, 5, 1, 0] [8] (by kernel_rfl) ⟨obl_ld rfl rfl rfl (v_load rfl (by first | exact st.reads 0 rfl TF.t102 (getV_state ..) | exact st.reads 1 rfl TF.t102 (getV_state ..) | exact st.reads 2 rfl TF.t102 (getV_state ..) | exact st.reads 3 rfl TF.t102 (getV_state ..))), trivial⟩ rfl ?_
     refine wl_alloc TF.z108 st rfl ?_
     intro b2 w st
     refine wl_nil ⟨rfl, ?_⟩
     refine FL.permB [11, 10, 9, 4, 3, 8, 7, 6, 5, 2, 1, 0] [7, 6, 5, 1, 0] [8] (by kernel_rfl) ?_
     exact fin _ _ _ _ _ rfl rfl rfl rfl rfl rfl rfl rfl rfl rfl (by first | exact st | exact st.perm p3_2 | exact st.perm p3_3 | exact st.perm p3_4 | exact st.perm p3_5 | exact st.perm p3_6)
    ·refine stepE 9 (pure' := [7, 6, 5, 1, 0]) (lds' := [8]) rfl (by kernel_rfl) (by kernel_rfl) ?_
     refine wl_alloc TF.z108 st rfl ?_
     intro b2 w st
     refine wl_nil ⟨rfl, ?_⟩
     refine fl_eff1 4 [7, 6, 5, 1, 0] [8] (by kernel_rfl) ⟨obl_ld rfl rfl rfl (v_load rfl (by first | exact st.reads 0 rfl TF.t102 (getV_state ..) | exact st.reads 1 rfl TF.t102 (getV_state ..) | exact st.reads 2 rfl TF.t102 (getV_state ..) | exact st.reads 3 rfl TF.t102 (getV_state ..))), trivial⟩ rfl ?_
     refine wl_call rfl (c_factors st.im) rfl ?_
     rintro v16 w ⟨t, rfl⟩
     have st := st.pure t
     refine wl_nil ⟨rfl, ?_⟩
     refine FL.permB [11, 10, 9, 4, 3, 8, 7, 6, 5, 2, 1, 0] [7, 6, 5, 1, 0] [8] (by kernel_rfl) ?_
     exact fin _ _ _ _ _ rfl rfl rfl rfl rfl rfl rfl rfl rfl rfl (by first | exact st | exact st.perm p3_2 | exact st.perm p3_3 | exact st.perm p3_4 | exact st.perm p3_5 | exact st.perm p3_6)
   ·refine stepE 9 (pure' := [7, 6, 5, 2, 1, 0]) (lds' := [8]) rfl (by kernel_rfl) (by kernel_rfl) ?_
    refine wl_alloc TF.z108 st rfl ?_
    intro b2 w st
    refine wl_nil ⟨rfl, ?_⟩
    refine fl_eff1 3 [7, 6, 5, 1, 0] [8] (by kernel_rfl) ⟨obl_ld rfl rfl rfl (v_load rfl (by first | exact st.reads 0 rfl TF.t102 (getV_state ..) | exact st.reads 1 rfl TF.t102 (getV_state ..) | exact st.reads 2 rfl TF.t102 (getV_state ..) | exact st.reads 3 rfl TF.t102 (getV_state ..))), trivial⟩ rfl ?_
    refine wl_call rfl (by first | exact c_spreadS st 0 rfl hl | exact c_spreadS st 1 rfl hl | exact c_spreadS st 2 rfl hl | exact c_spreadS st 3 rfl hl) rfl ?_
    rintro v15 w ⟨t, rfl⟩
    have st := st.pure t
    refine wl_nil ⟨rfl, ?_⟩
    refine fl_eff1 4 [7, 6, 5, 1, 0] [8] (by kernel_rfl) ⟨obl_ld rfl rfl rfl (v_load rfl (by first | exact st.reads 0 rfl TF.t102 (getV_state ..) | exact st.reads 1 rfl TF.t102 (getV_state ..) | exact st.reads 2 rfl TF.t102 (getV_state ..) | exact st.reads 3 rfl TF.t102 (getV_state ..))), trivial⟩ rfl ?_
    refine wl_call rfl (c_factors st.im) rfl ?_
    rintro v16 w ⟨t, rfl⟩
    have st := st.pure t
    refine wl_nil ⟨rfl, ?_⟩
    refine FL.permB [11, 10, 9, 4, 3, 8, 7, 6, 5, 2, 1, 0] [7, 6, 5, 1, 0] [8] (by kernel_rfl) ?_
    exact fin _ _ _ _ _ rfl rfl rfl rfl rfl rfl rfl rfl rfl rfl (by first | exact st | exact st.perm p3_2 | exact st.perm p3_3 | exact st.perm p3_4 | exact st.perm p3_5 | exact st.perm p3_6)
end
end Go.Proofs.Ytnaoafogdplnaaa

namespace Go.Proofs.Ytnaoafogdplnaaa
open Go Go.RowKit K SH
namespace SH
def spl (S : List UInt8) (o : Nat) (l : List UInt8) : List UInt8 := S.take o ++ l ++ S.drop (o + l.length)
theorem length_spl {S l : List UInt8} {o : Nat} (h : o + l.length ≤ S.length) : (spl S o l).length = S.length := by simp [spl]; omega
theorem hs_append (L y : List UInt8) : ∀ k, 64 * k ≤ L.length → hs (L ++ y) k = hs L k
 | 0, _ => rfl
 | k + 1, h => by
  have ih := hs_append L y k (by omega)
  have e : ((L ++ y).drop (64 * k)).take 64 = (L.drop (64 * k)).take 64 := by
   rw [List.drop_append_of_le_length (by omega), List.take_append_of_le_length (by simp; omega)]
  rw [hs, hs, ih, e]
structure HSt (L : List UInt8) (v : V8) (bk : List UInt8) (hv : Nat) : Prop where
 st : v = hs L (L.length / 64)
 at_ : hv = L.length % 64
 len : bk.length = 64
 pre : bk.take hv = L.drop (64 * (L.length / 64))
theorem HSt.lt {L bk : List UInt8} {v : V8} {hv : Nat} (h : HSt L v bk hv) : hv < 64 := by rw [h.at_]; exact Nat.mod_lt _ (by decide)
theorem HSt.part {L bk y : List UInt8} {v : V8} {hv : Nat} (h : HSt L v bk hv) (hy : hv + y.length < 64) : HSt (L ++ y) v (spl bk hv y) (hv + y.length) := by
 have h1 := h.at_
 have hd : (L ++ y).length / 64 = L.length / 64 := by rw [List.length_append]; omega
 have hl := h.len
 refine ⟨?_, by rw [List.length_append]; omega, by rw [length_spl (by omega), hl], ?_⟩
 ·rw [hd, hs_append _ _ _ (by omega)]
  exact h.st
 ·rw [hd, List.drop_append_of_le_length (by omega), ← h.pre]
  unfold spl
  have hlt : (bk.take hv).length = hv := by simp; omega
  rw [List.take_append_of_le_length (by simp; omega), List.take_of_length_le (by simp; omega)]
theorem HSt.whole {L bk y : List UInt8} {v : V8} {hv : Nat} (h : HSt L v bk hv) (hy : hv + y.length = 64) : HSt (L ++ y) (comp v (spl bk hv y)) (spl bk hv y) 0 := by
 have h1 := h.at_
 have h2 := h.lt
 have hd : (L ++ y).length / 64 = L.length / 64 + 1 := by rw [List.length_append]; omega
 have hl := h.len
 have hsp : spl bk hv y = bk.take hv ++ y := by
  unfold spl
  rw [List.drop_eq_nil_of_le (by omega), List.append_nil]
 refine ⟨?_, by rw [List.length_append]; omega, by rw [length_spl (by omega), hl], ?_⟩
 ·rw [hd, hs, hs_append _ _ _ (by omega), ← h.st, List.drop_append_of_le_length (by omega), ← h.pre, ← hsp, List.take_of_length_le (by rw [length_spl (by omega)]; omega)]
 ·rw [hd, List.take_zero, List.drop_eq_nil_of_le (by rw [List.length_append]; omega)]
def HashAt (L : List UInt8) (c : Array Value) : Prop := ∃ v bk hv, c = hashC v bk (hv : Nat) (UInt64.ofNat L.length) ∧ HSt L v bk hv
theorem setSeg_hash {v : V8} {bk l : List UInt8} {hv : Int} {n : UInt64} {o : Nat} (h : o + l.length ≤ bk.length) : setSeg (hashC v bk hv n) (8 + o * 1) (bs l) = hashC v (spl bk o l) hv n := by
 have e1 : bs bk = bs (bk.take o) ++ bs ((bk.drop o).take l.length) ++ bs (bk.drop (o + l.length)) := by
  unfold bs
  rw [← List.map_append, ← List.map_append, List.append_assoc]
  congr 1
  rw [← List.drop_drop, List.take_append_drop, List.take_append_drop]
 have e2 : hashC v bk hv n = ((ws v.l ++ bs (bk.take o)) ++ bs ((bk.drop o).take l.length) ++ (bs (bk.drop (o + l.length)) ++ [.int .i64 hv, u64 n])).toArray := by
  unfold hashC
  rw [e1]
  simp
 rw [e2, setSeg_mid (by simp [ws, bs, length_l]; omega) (by simp [bs]; omega)]
 unfold hashC spl bs
 simp
theorem set_have {v : V8} {bk : List UInt8} {hv x : Int} {n : UInt64} (hl : bk.length = 64) : (hashC v bk hv n).setIfInBounds (0 + 72) (.int .i64 x) = hashC v bk x n := by
 unfold hashC
 have := set_app (A := ws v.l ++ bs bk) (B := [u64 n]) (x := .int .i64 x) (y := .int .i64 hv) (n := 0 + 72) (by simp [ws, bs, hl, length_l])
 exact this
theorem set_bytes {v : V8} {bk : List UInt8} {hv : Int} {n k : UInt64} (hl : bk.length = 64) : (hashC v bk hv n).setIfInBounds (0 + 73) (u64 k) = hashC v bk hv k := by
 unfold hashC
 have := set_app (A := ws v.l ++ bs bk ++ [.int .i64 hv]) (B := []) (x := u64 k) (y := u64 n) (n := 0 + 73) (by simp [ws, bs, hl, length_l])
 simpa using this
theorem getV_have {v : V8} {bk : List UInt8} {hv : Int} {n : UInt64} (hl : bk.length = 64) : getV false 1 (hashC v bk hv n) (0 + 72) = some (.int .i64 hv) := by
 unfold getV hashC
 simp only [Bool.false_eq_true, if_false]
 rw [List.getElem?_append_right (by simp [ws, bs, hl, length_l])]
 simp [ws, bs, hl, length_l]
theorem getV_bytes {v : V8} {bk : List UInt8} {hv : Int} {n : UInt64} (hl : bk.length = 64) : getV false 1 (hashC v bk hv n) (0 + 73) = some (u64 n) := by
 unfold getV hashC
 simp only [Bool.false_eq_true, if_false]
 rw [List.getElem?_append_right (by simp [ws, bs, hl, length_l])]
 simp [ws, bs, hl, length_l]
theorem size_hashC {v : V8} {bk : List UInt8} {hv : Int} {n : UInt64} (hl : bk.length = 64) : (hashC v bk hv n).size = 74 := by simp [hashC, ws, bs, hl, length_l]
end SH
section
variable {m : Mem} {wI : World}
theorem c_hwrite {b : Nat} {c : Array Value} {L x : List UInt8} {v : Value} (him : Im m wI) (hE : (K.blk b c 107).holds wI) (hm : m b = none) (hH : HashAt L c) (hx : SlM m v 1 x.length (bs x)) (hb : L.length + x.length ≤ 2199023255552) :
  Ret Try.prog 74 #[.pointer (some ⟨b, 0, none⟩), v] wI fun _ w' => ∃ c', Tch wI w' [b] [b] ∧ (K.blk b c' 107).holds w' ∧ HashAt (L ++ x) c' := by
 have st := St.startE him hE (by simpa [K.blk] using hm)
 obtain ⟨vs, bk, hv, rfl, hst⟩ := hH
 have hx0 := hx
 obtain ⟨_, xa, xc, rfl, _⟩ := hx
 refine ret_of Try.call74 Try.func74 rfl Try.ntmps74 Try.results74 rfl ?_
 refine wc_seq ?_
 refine wc_region ?_
 refine wl_val (v_move' (by conv => (lhs; whnf))) rfl ?_
 refine wl_val (v_nil rfl) rfl ?_
 refine wl_val (v_fa TF.f107_3 rfl) rfl ?_
 refine wl_val (v_load rfl (st.reads 0 rfl TF.t42 (getV_bytes hst.len))) rfl ?_
 refine wl_val (v_move' (by conv => (lhs; whnf))) rfl ?_
 refine wl_val (v_len_s Try.underlying30 rfl) rfl ?_
 refine wl_val (v_convi_64 (n := x.length) Try.underlying3 Try.underlying42 rfl) rfl ?_
 refine wl_val (v_add64 rfl rfl) rfl ?_
 refine wl_val (v_nil rfl) rfl ?_
 refine wl_val (v_fa TF.f107_3 rfl) rfl ?_
 refine wl_store1 (v := u64 (UInt64.ofNat L.length + UInt64.ofNat x.length)) 0 st rfl TF.t42 rfl rfl rfl (by rw [size_hashC hst.len]; omega) ?_
 intro w st
 refine wl_nil ?_
 refine then_go ?_
 refine wc_block ?_
 have e : (hashC vs bk (hv : Nat) (UInt64.ofNat L.length)).setIfInBounds (0 + 73) (u64 (UInt64.ofNat L.length + UInt64.ofNat x.length)) = hashC vs bk (hv : Nat) (UInt64.ofNat (L ++ x).length) := by
  rw [set_bytes hst.len, List.length_append, UInt64.ofNat_add]
 change St _ _ _ _ _ [K.blk b ((hashC vs bk (hv : Nat) (UInt64.ofNat L.length)).setIfInBounds (0 + 73) (u64 (UInt64.ofNat L.length + UInt64.ofNat x.length))) _] at st
 rw [e] at st
 refine wc_loop (S := Nat) (fun q r w' => ∃ y z vs bk hv v', x = y ++ z ∧ q = z.length ∧ r 0 = .pointer (some ⟨b, 0, none⟩) ∧ r 1 = v' ∧ SlM m v' 1 z.length (bs z) ∧ HSt (L ++ y) vs bk hv ∧ St m m [b] wI w' [K.blk b (hashC vs bk (hv : Nat) (UInt64.ofNat (L ++ x).length)) 107]) id x.length ⟨[], x, vs, bk, hv, _, rfl, rfl, rfl, rfl, hx0, by rw [List.append_nil]; exact hst, st⟩ ?_
 clear st hst
 rintro q r w2 ⟨y, z, vs, bk, hv, v', hxyz, hq, h0, h1, hz, hst, st⟩
 have hz0 := hz
 obtain ⟨_, za, zc, rfl, hzk, _⟩ := hz
 refine wc_o 0 h0 (wc_o 1 h1 ?_)
 refine wc_seq ?_
 refine wc_seq ?_
 refine wc_region ?_
 refine wl_val (v_move' (by conv => (lhs; whnf))) rfl ?_
 refine wl_val (v_len_s Try.underlying30 rfl) rfl ?_
 refine wl_val (v_gtr rfl rfl) rfl ?_
 refine wl_nil ?_
 refine then_go ?_
 refine wc_if rfl (fun h17 => ?_) (fun h17 => ?_)
 ·refine wc_skip ?_
  refine then_go ?_
  refine wc_block ?_
  refine wc_seq ?_
  have hlt := hst.lt
  have hblen := hst.len
  have hLy : (L ++ y).length ≤ 2199023255552 := by rw [hxyz] at hb; simp at hb ⊢; omega
  have hzl : z.length ≤ 2199023255552 := by rw [hxyz] at hb; simp at hb ⊢; omega
  obtain ⟨k, hk⟩ : ∃ k, k = min z.length (64 - hv) := ⟨_, rfl⟩
  have hk1 : k ≤ z.length := by omega
  have hzt : (z.take k).length = k := by simp; omega
  refine wc_draw TF.mixed ?_
  have st := st.pure (touch_drew _)
  refine fl_val 0 rfl (fun _ => (v_move' (by conv => (lhs; whnf)))) rfl (by kernel_rfl) ?_
  refine fl_val 1 rfl (fun _ => (v_nil rfl)) rfl (by kernel_rfl) ?_
  refine fl_val 2 rfl (fun _ => (v_fa TF.f107_1 rfl)) rfl (by kernel_rfl) ?_
  refine fl_val 3 rfl (fun _ => (v_move' (by conv => (lhs; whnf)))) rfl (by kernel_rfl) ?_
  refine fl_val 4 rfl (fun _ => (v_nil rfl)) rfl (by kernel_rfl) ?_
  refine fl_val 5 rfl (fun _ => (v_fa TF.f107_2 rfl)) rfl (by kernel_rfl) ?_
  refine fl_ld 6 rfl (v_load rfl (by first | exact st.reads 0 rfl TF.t3 (getV_have hst.len) | exact st.reads 0 rfl TF.t3 (getV_have hsl))) (by kernel_rfl) ?_
  refine fl_val 7 rfl (fun _ => (v_sla hv 64 Try.underlying72 TF.t5 rfl ⟨_, _, rfl, rfl⟩ rfl (by omega) (by omega) (by omega))) rfl (by kernel_rfl) ?_
  refine fl_val 8 rfl (fun _ => (v_move' (by conv => (lhs; whnf)))) rfl (by kernel_rfl) ?_
  refine fl_eff1 9 [5, 4, 3, 2, 1, 0] [6] (by kernel_rfl) ⟨obl_ld rfl rfl rfl (v_load rfl (by first | exact st.reads 0 rfl TF.t3 (getV_have hst.len) | exact st.reads 0 rfl TF.t3 (getV_have hsl))), trivial⟩ rfl ?_
  refine wl_copy (size := 1) (b := b) (off := 0 + 8 + hv * 1) (len := 64 - hv) (cap := 64 - hv) (j := z.length) (news := bs z) 0 st rfl Try.underlying30 TF.t5 rfl rfl (hz0.src st.im (one_bs _)) (by rw [size_hashC hst.len]; omega) rfl ?_
  intro w st
  rw [← hk] at st ⊢
  have e : setSeg (hashC vs bk (hv : Nat) (UInt64.ofNat (L ++ x).length)) (0 + 8 + hv * 1) ((bs z).take (k * 1)) = hashC vs (spl bk hv (z.take k)) (hv : Nat) (UInt64.ofNat (L ++ x).length) := by
   rw [show (bs z).take (k * 1) = bs (z.take k) by rw [Nat.mul_one, bs, bs, List.map_take], show 0 + 8 + hv * 1 = 8 + hv * 1 by omega, setSeg_hash (by rw [hzt]; omega)]
  change St _ _ _ _ _ [K.blk b (setSeg (hashC vs bk (hv : Nat) (UInt64.ofNat (L ++ x).length)) (0 + 8 + hv * 1) ((bs z).take (k * 1))) _] at st
  rw [e] at st
  have hsl : (spl bk hv (z.take k)).length = 64 := by rw [length_spl (by rw [hzt]; omega), hblen]
  refine wl_nil ⟨rfl, ?_⟩
  refine fl_eff1 10 [] [] (by kernel_rfl) ⟨obl_ld rfl rfl rfl (v_load rfl (by first | exact st.reads 0 rfl TF.t3 (getV_have hst.len) | exact st.reads 0 rfl TF.t3 (getV_have hsl))), trivial⟩ rfl ?_
  refine wl_val (v_assign' (by conv => (lhs; whnf))) rfl ?_
  refine wl_nil ⟨rfl, ?_⟩
  refine fl_nil (by kernel_rfl) trivial ?_
  refine then_go ?_
  refine wc_seq ?_
  refine wc_draw TF.mixed ?_
  have st := st.pure (touch_drew _)
  refine fl_val 0 rfl (fun _ => (v_move' (by conv => (lhs; whnf)))) rfl (by kernel_rfl) ?_
  refine fl_val 1 rfl (fun _ => (v_move' (by conv => (lhs; whnf)))) rfl (by kernel_rfl) ?_
  refine fl_val 2 rfl (fun _ => (v_nil rfl)) rfl (by kernel_rfl) ?_
  refine fl_val 3 rfl (fun _ => (v_fa TF.f107_2 rfl)) rfl (by kernel_rfl) ?_
  refine fl_ld 4 rfl (v_load rfl (st.reads 0 rfl TF.t3 (getV_have hsl))) (by kernel_rfl) ?_
  refine fl_val 5 rfl (fun _ => (v_move' (by conv => (lhs; whnf)))) rfl (by kernel_rfl) ?_
  refine fl_val 6 rfl (fun _ => (v_add' (c := ((hv + k : Nat) : Int)) rfl rfl (by omega) (by omega) (by omega))) rfl (by kernel_rfl) ?_
  refine fl_val 7 rfl (fun _ => (v_move' (by conv => (lhs; whnf)))) rfl (by kernel_rfl) ?_
  refine fl_val 8 rfl (fun _ => (v_move' (by conv => (lhs; whnf)))) rfl (by kernel_rfl) ?_
  refine fl_val 9 rfl (fun _ => (v_slice_s (l := k) (h := z.length) Try.underlying30 TF.t5 rfl ⟨_, _, rfl, rfl⟩ rfl hk1 hzk)) rfl (by kernel_rfl) ?_
  refine fl_val 10 rfl (fun _ => (v_nil rfl)) rfl (by kernel_rfl) ?_
  refine fl_val 11 rfl (fun _ => (v_fa TF.f107_2 rfl)) rfl (by kernel_rfl) ?_
  refine fl_eff1 12 [10, 9, 8, 7] [] (by kernel_rfl) ⟨obl_ld rfl rfl rfl (v_load rfl (st.reads 0 rfl TF.t3 (getV_have hsl))), trivial⟩ rfl ?_
  refine wl_store1 (v := .int .i64 ((hv + k : Nat) : Int)) 0 st rfl TF.t3 rfl rfl rfl (by rw [size_hashC hsl]; omega) ?_
  intro w st
  have e3 := set_have (v := vs) (bk := spl bk hv (z.take k)) (hv := (hv : Nat)) (x := ((hv + k : Nat) : Int)) (n := UInt64.ofNat (L ++ x).length) hsl
  change St _ _ _ _ _ [K.blk b ((hashC vs (spl bk hv (z.take k)) (hv : Nat) (UInt64.ofNat (L ++ x).length)).setIfInBounds (0 + 72) (.int .i64 ((hv + k : Nat) : Int))) _] at st
  rw [e3] at st
  have hz2 := hz0.subB k z.length hk1 (Nat.le_refl _)
  have hzd : (z.drop k).take (z.length - k) = z.drop k := List.take_of_length_le (by simp)
  rw [hzd, show z.length - k = (z.drop k).length by simp] at hz2
  rw [show z.length - k = (z.drop k).length by simp]
  refine wl_nil ⟨rfl, ?_⟩
  refine fl_eff1 13 [] [] (by kernel_rfl) trivial rfl ?_
  refine wl_val (v_assign' (by conv => (lhs; whnf))) rfl ?_
  refine wl_nil ⟨rfl, ?_⟩
  refine fl_nil (by kernel_rfl) trivial ?_
  refine then_go ?_
  refine wc_seq ?_
  refine wc_region ?_
  refine wl_val (v_move' (by conv => (lhs; whnf))) rfl ?_
  refine wl_val (v_nil rfl) rfl ?_
  refine wl_val (v_fa TF.f107_2 rfl) rfl ?_
  refine wl_val (v_load rfl (st.reads 0 rfl TF.t3 (getV_have hsl))) rfl ?_
  refine wl_val (v_eql rfl rfl) rfl ?_
  refine wl_nil ?_
  refine then_go ?_
  refine wc_if rfl (fun h44 => ?_) (fun h44 => ?_)
  ·refine wc_region ?_
   refine wl_val (v_move' (by conv => (lhs; whnf))) rfl ?_
   refine wl_call rfl (c_mix st.im (st.at (i := 0) rfl) (st.none (i := 0) rfl b (by simp [K.blk])) hsl) rfl ?_
   rintro v46 w ⟨t, hE2⟩
   have st := st.step 0 rfl t hE2
   change St _ _ _ _ _ [K.blk b (hashC (comp vs (spl bk hv (z.take k))) (spl bk hv (z.take k)) ((0 : Nat) : Int) (UInt64.ofNat (L ++ x).length)) _] at st
   refine wl_nil ?_
   refine block_go (then_go ?_)
   have hw := hst.whole (y := z.take k) (by rw [hzt]; omega)
   rw [List.append_assoc] at hw
   exact ⟨(z.drop k).length, by simp; omega, y ++ z.take k, z.drop k, _, _, 0, _, by rw [List.append_assoc, List.take_append_drop, hxyz], rfl, rfl, rfl, hz2, hw, st⟩
  ·refine wc_skip ?_
   refine block_go (then_go ?_)
   have hw := hst.part (y := z.take k) (by rw [hzt]; omega)
   rw [List.append_assoc, hzt] at hw
   exact ⟨(z.drop k).length, by simp; omega, y ++ z.take k, z.drop k, _, _, _, _, by rw [List.append_assoc, List.take_append_drop, hxyz], rfl, rfl, rfl, hz2, hw, st⟩
 ·refine wc_exit (then_exit (then_exit (block_hit ?_)))
  have hz0l : z = [] := List.eq_nil_of_length_eq_zero (by omega)
  have hxy : x = y := by rw [hxyz, hz0l, List.append_nil]
  rw [← hxy] at hst
  exact end0 ⟨_, st.touch, st.at (i := 0) rfl, vs, bk, hv, rfl, hst⟩
end
end Go.Proofs.Ytnaoafogdplnaaa

namespace Go.Proofs.Ytnaoafogdplnaaa
open Go Go.RowKit K SH
namespace SH
theorem one_hashC {v : V8} {bk : List UInt8} {hv : Int} {n : UInt64} : ∀ u ∈ (hashC v bk hv n).toList, u.oneCell' = true := by
 intro u hu
 simp only [hashC, List.mem_append, List.mem_cons, List.not_mem_nil, or_false] at hu
 rcases hu with (h | h) | h | h
 ·exact one_ws _ u h
 ·exact one_bs _ u h
 ·rw [h]; rfl
 ·rw [h]; rfl
theorem hashAt_nil : HashAt [] (hashC h0 (List.replicate 64 0) 0 0) := ⟨h0, _, 0, rfl, ⟨rfl, rfl, by simp, rfl⟩⟩
end SH
section
variable {m : Mem} {wI : World}
theorem c_hnew (him : Im m wI) : Ret Try.prog 73 #[] wI fun v w' => ∃ b c, v = .pointer (some ⟨b, 0, none⟩) ∧ Tch wI w' [] [b] ∧ (K.blk b c 107).holds w' ∧ HashAt [] c := by
 have st := St.start him
 refine ret_of Try.call73 Try.func73 rfl Try.ntmps73 Try.results73 rfl ?_
 refine wc_seq ?_
 refine wc_region ?_
 refine wl_val (v_assign' (by conv => (lhs; whnf))) rfl ?_
 refine wl_nil ?_
 refine then_go ?_
 refine wc_seq ?_
 refine wc_region ?_
 refine wl_val (v_build_fill (c' := (ws h0.l).toArray) [(0, u32 1779033703), (1, u32 3144134277), (2, u32 1013904242), (3, u32 2773480762), (4, u32 1359893119), (5, u32 2600822924), (6, u32 528734635), (7, u32 1541459225)] TF.z102 Try.underlying102 TF.t101 rfl (fill8 _ _ _ _ _ _ _ _)) rfl ?_
 refine wl_val (v_build (c' := hashC h0 (List.replicate 64 0) 0 0) [(0, arr32 h0.l)] TF.z107 TF.p107 rfl (fill_one [] (List.replicate 8 (u32 0)) (List.replicate 64 (u8 0) ++ [.int .i64 0, u64 0]) rfl rfl rfl rfl)) rfl ?_
 refine wl_box (v := .agg (hashC h0 (List.replicate 64 0) 0 0)) rfl st rfl ?_
 intro b w st
 refine wl_val (v_assign' (by conv => (lhs; whnf))) rfl ?_
 refine wl_nil ?_
 refine then_go ?_
 refine wc_ret ?_
 have hf := (St.finish (Es := []) (l := [_]) st).1
 exact ret1 rfl ⟨b, _, rfl, ⟨hf.os, hf.tape, hf.output, hf.size, hf.block, fun k hk => hf.out k (by simpa [joinE, K.blk] using hk)⟩, st.at (i := 0) rfl, hashAt_nil⟩
theorem c_hclone {b : Nat} {v : V8} {bk : List UInt8} {hv : Int} {n : UInt64} {t : TypeId} {fr : Nat × Nat} (him : Im m wI) (hm : m b = some (.cells (hashC v bk hv n) t fr)) (hl : bk.length = 64) :
  Ret Try.prog 80 #[.pointer (some ⟨b, 0, none⟩)] wI fun v' w' => ∃ b', v' = .pointer (some ⟨b', 0, none⟩) ∧ Tch wI w' [] [b'] ∧ (K.blk b' (hashC v bk hv n) 107).holds w' := by
 have st := St.start him
 refine ret_of Try.call80 Try.func80 rfl Try.ntmps80 Try.results80 rfl ?_
 refine wc_seq ?_
 refine wc_region ?_
 refine wl_val (v_assign' (by conv => (lhs; whnf))) rfl ?_
 refine wl_nil ?_
 refine then_go ?_
 refine wc_seq ?_
 refine wc_region ?_
 refine wl_val (v_move' (by conv => (lhs; whnf))) rfl ?_
 refine wl_val (v_nil rfl) rfl ?_
 refine wl_val (v_load rfl (st.readm hm TF.t107 (getV_all (size_hashC hl)))) rfl ?_
 refine wl_alloc TF.z107 st rfl ?_
 intro b3 w st
 refine wl_storeW (cs := hashC v bk hv n) 0 st rfl TF.t107 rfl rfl (size_hashC hl) rfl one_hashC ?_
 intro w st
 refine wl_nil ?_
 refine then_go ?_
 refine wc_seq ?_
 refine wc_region ?_
 refine wl_val (v_assign' (by conv => (lhs; whnf))) rfl ?_
 refine wl_nil ?_
 refine then_go ?_
 refine wc_ret ?_
 have hf := (St.finish (Es := []) (l := [_]) st).1
 exact ret1 rfl ⟨b3, rfl, ⟨hf.os, hf.tape, hf.output, hf.size, hf.block, fun k hk => hf.out k (by simpa [joinE, K.blk] using hk)⟩, st.at (i := 0) rfl⟩
theorem c_hdigest {b : Nat} {L : List UInt8} {c : Array Value} {t : TypeId} {fr : Nat × Nat} (him : Im m wI) (hm : m b = some (.cells c t fr)) (hH : HashAt L c) (hL : L.length ≤ 1099511627776) :
  Ret Try.prog 75 #[.pointer (some ⟨b, 0, none⟩)] wI fun v w' => Tch wI w' [] [] ∧ v = arr (sum L) := by
 have st := St.start him
 obtain ⟨vs, bk, hv, rfl, hst⟩ := hH
 have hfl := full_le L
 have hfm := full_mod L (by omega)
 refine ret_of Try.call75 Try.func75 rfl Try.ntmps75 Try.results75 rfl ?_
 refine wc_seq ?_
 refine wc_region ?_
 refine wl_alloc TF.z87 st rfl ?_
 intro b2 w st
 refine wl_nil ?_
 refine then_go ?_
 refine wc_seq ?_
 refine wc_region ?_
 refine wl_val (v_move' (by conv => (lhs; whnf))) rfl ?_
 refine wl_call rfl (c_hclone st.im hm hst.len) rfl ?_
 rintro v9 w ⟨b3, rfl, t, hE⟩
 have st := st.new (E := K.blk b3 _ _) t hE
 refine wl_val (v_assign' (by conv => (lhs; whnf))) rfl ?_
 refine wl_nil ?_
 refine then_go ?_
 refine wc_seq ?_
 refine wc_region ?_
 refine wl_val (v_move' (by conv => (lhs; whnf))) rfl ?_
 refine wl_val (v_move' (by conv => (lhs; whnf))) rfl ?_
 refine wl_val (v_nil rfl) rfl ?_
 refine wl_val (v_fa TF.f107_3 rfl) rfl ?_
 refine wl_val (v_load rfl (st.readm hm TF.t42 (getV_bytes hst.len))) rfl ?_
 refine wl_call rfl (c_pad st.im) rfl ?_
 rintro v15 w ⟨t, m1, hg1, hi1, hp⟩
 have st := st.grown hg1 t hi1
 refine wl_call rfl (c_hwrite (L := L) st.im (st.at (i := 0) rfl) (st.none (i := 0) rfl b3 (by simp [K.blk])) ⟨vs, bk, hv, rfl, hst⟩ hp (by rw [length_pad]; have := zs_lt (UInt64.ofNat L.length).toNat; omega)) rfl ?_
 rintro v16 w ⟨c2, t, hE2, hH2⟩
 have st := st.step 0 rfl t hE2
 rw [show L ++ pad (UInt64.ofNat L.length) = full L from rfl] at hH2
 obtain ⟨v2, bk2, hv2, rfl, hst2⟩ := hH2
 have hsum : sum L = dig v2 := by rw [hst2.st]; rfl
 change St _ _ _ _ _ [K.blk b3 (hashC v2 bk2 (hv2 : Nat) (UInt64.ofNat (full L).length)) _, _] at st
 refine wl_nil ?_
 refine then_go ?_
 refine wc_seq ?_
 refine wc_region ?_
 refine wl_alloc TF.z87 st rfl ?_
 intro b4 w st
 refine wl_nil ?_
 refine then_go ?_
 refine wc_seq ?_
 refine wc_seq ?_
 refine wc_region ?_
 refine wl_val (v_move' (by conv => (lhs; whnf))) rfl ?_
 refine wl_val (v_nil rfl) rfl ?_
 refine wl_val (v_fa TF.f107_0 rfl) rfl ?_
 refine wl_val (v_load rfl (st.reads 1 rfl TF.t102 (getV_state ..))) rfl ?_
 refine wl_val (v_move' (by conv => (lhs; whnf))) rfl ?_
 refine wl_nil ?_
 refine then_go ?_
 refine wc_block ?_
 refine wc_loop (S := Nat) (fun q r w' => ∃ i, q + i = 8 ∧ r 2 = .pointer (some ⟨b2, 0, none⟩) ∧ r 4 = .pointer (some ⟨b4, 0, none⟩) ∧ r 20 = arr32 v2.l ∧ r 21 = .int .i64 i ∧
  St m m1 [] wI w' [K.blk b4 (bs ((List.range (4 * i)).map (digB v2)) ++ List.replicate (32 - 4 * i) (u8 0)).toArray 87, K.blk b3 (hashC v2 bk2 (hv2 : Nat) (UInt64.ofNat (full L).length)) 107, K.blk b2 (Array.replicate 32 (u8 0)) 87]) id 8 ⟨0, rfl, rfl, rfl, rfl, rfl, st⟩ ?_
 rintro q r w2 ⟨i, hqi, h2, h4, h20, h21, st⟩
 refine wc_o 2 h2 (wc_o 4 h4 (wc_o 20 h20 (wc_o 21 h21 ?_)))
 refine wc_seq ?_
 refine wc_region ?_
 refine wl_val (v_lss rfl rfl) rfl ?_
 refine wl_nil ?_
 refine then_go ?_
 refine wc_seq ?_
 refine wc_if rfl (fun h22 => ?_) (fun h22 => ?_)
 ·refine wc_skip ?_
  refine then_go ?_
  refine wc_seq ?_
  refine wc_block ?_
  refine wc_seq ?_
  have hi : i < 8 := by omega
  refine wc_region ?_
  refine wl_val (v_move' (by conv => (lhs; whnf))) rfl ?_
  refine wl_val (v_index_a (v := u32 (v2.l.getD i 0)) Try.underlying102 TF.t101 rfl rfl (by omega) (by omega) (getV_wse (j := i) (by simp) (by rw [length_l]; omega))) rfl ?_
  refine wl_val (v_assign' (by conv => (lhs; whnf))) rfl ?_
  refine wl_val (v_assign' (by conv => (lhs; whnf))) rfl ?_
  refine wl_nil ?_
  refine then_go ?_
  refine wc_seq ?_
  refine wc_region ?_
  refine wl_val (v_move' (by conv => (lhs; whnf))) rfl ?_
  refine wl_nil ?_
  refine then_go ?_
  refine wc_block ?_
  refine wc_loop (S := Nat) (fun q r w' => ∃ k, q + k = 4 ∧ r 2 = .pointer (some ⟨b2, 0, none⟩) ∧ r 4 = .pointer (some ⟨b4, 0, none⟩) ∧ r 5 = .int .i64 i ∧ r 6 = u32 (v2.l.getD i 0) ∧ r 20 = arr32 v2.l ∧ r 21 = .int .i64 i ∧ r 25 = .int .i64 k ∧
   St m m1 [] wI w' [K.blk b4 (bs ((List.range (4 * i + k)).map (digB v2)) ++ List.replicate (32 - (4 * i + k)) (u8 0)).toArray 87, K.blk b3 (hashC v2 bk2 (hv2 : Nat) (UInt64.ofNat (full L).length)) 107, K.blk b2 (Array.replicate 32 (u8 0)) 87]) id 4 ⟨0, rfl, rfl, rfl, rfl, rfl, rfl, rfl, rfl, st⟩ ?_
  rintro q2 r w3 ⟨k, hqk, h2, h4, h5, h6, h20, h21, h25, st⟩
  refine wc_o 2 h2 (wc_o 4 h4 (wc_o 5 h5 (wc_o 6 h6 (wc_o 20 h20 (wc_o 21 h21 (wc_o 25 h25 ?_))))))
  refine wc_seq ?_
  refine wc_region ?_
  refine wl_val (v_lss rfl rfl) rfl ?_
  refine wl_nil ?_
  refine then_go ?_
  refine wc_seq ?_
  refine wc_if rfl (fun h26 => ?_) (fun h26 => ?_)
  ·refine wc_skip ?_
   refine then_go ?_
   refine wc_seq ?_
   refine wc_block ?_
   refine wc_seq ?_
   have hk : k < 4 := by omega
   refine wc_region ?_
   refine wl_val (v_move' (by conv => (lhs; whnf))) rfl ?_
   refine wl_val (v_assign' (by conv => (lhs; whnf))) rfl ?_
   refine wl_nil ?_
   refine then_go ?_
   refine wc_region ?_
   refine wl_val (v_move' (by conv => (lhs; whnf))) rfl ?_
   refine wl_val (v_mul' (c := ((4 * i : Nat) : Int)) rfl rfl (by omega) (by omega) (by omega)) rfl ?_
   refine wl_val (v_move' (by conv => (lhs; whnf))) rfl ?_
   refine wl_val (v_add' (c := ((4 * i + k : Nat) : Int)) rfl rfl (by omega) (by omega) (by omega)) rfl ?_
   refine wl_val (v_move' (by conv => (lhs; whnf))) rfl ?_
   refine wl_val (v_move' (by conv => (lhs; whnf))) rfl ?_
   refine wl_val (v_mul' (c := ((8 * k : Nat) : Int)) rfl rfl (by omega) (by omega) (by omega)) rfl ?_
   refine wl_val (v_sub' (c := ((24 - 8 * k : Nat) : Int)) rfl rfl (by omega) (by omega) (by omega)) rfl ?_
   refine wl_val (v_shr32 (24 - 8 * k) rfl rfl (by first | omega | decide | (dsimp only at *; omega))) rfl ?_
   refine wl_val (v_conv32_8 Try.underlying101 Try.underlying5 rfl) rfl ?_
   refine wl_val (v_iaa (4 * i + k) Try.underlying87 TF.t5 rfl rfl (by first | rfl | omega) (by first | omega | (dsimp only at *; omega))) rfl ?_
   have hdb : UInt8.ofNat (shr32 (v2.l.getD i 0) (24 - 8 * k)).toNat = digB v2 (4 * i + k) := by
    unfold digB
    rw [show (4 * i + k) / 4 = i by omega, show (4 * i + k) % 4 = k by omega]
   refine wl_store1 (v := u8 (UInt8.ofNat (shr32 (v2.l.getD i 0) (24 - 8 * k)).toNat)) 0 st rfl TF.t5 rfl rfl rfl (by simp [bs]; omega) ?_
   intro w st
   refine wl_nil ?_
   refine block_go (then_go ?_)
   refine wc_region ?_
   refine wl_val (v_add' rfl rfl rfl (by first | omega | (dsimp only at *; omega)) (by first | omega | (dsimp only at *; omega))) rfl ?_
   refine wl_val (v_move' (by conv => (lhs; whnf))) rfl ?_
   refine wl_nil ?_
   refine then_go ?_
   refine ⟨q2 - 1, by simp; omega, k + 1, by omega, rfl, rfl, rfl, rfl, rfl, rfl, rfl, ?_⟩
   have e : (bs ((List.range (4 * i + k)).map (digB v2)) ++ List.replicate (32 - (4 * i + k)) (u8 0)).toArray.setIfInBounds (0 + (4 * i + k) * 1) (u8 (digB v2 (4 * i + k))) = (bs ((List.range (4 * i + (k + 1))).map (digB v2)) ++ List.replicate (32 - (4 * i + (k + 1))) (u8 0)).toArray := by
    rw [show 32 - (4 * i + k) = (32 - (4 * i + (k + 1))) + 1 by omega, List.replicate_succ, set_app (by simp [bs]), show 4 * i + (k + 1) = (4 * i + k) + 1 by omega, List.range_succ]
    simp [bs]
   rw [hdb] at st
   rw [← e]
   exact st
  ·refine wc_exit (then_exit (then_exit (block_hit ?_)))
   refine block_go (then_go ?_)
   refine wc_region ?_
   refine wl_val (v_add' rfl rfl rfl (by first | omega | (dsimp only at *; omega)) (by first | omega | (dsimp only at *; omega))) rfl ?_
   refine wl_val (v_move' (by conv => (lhs; whnf))) rfl ?_
   refine wl_nil ?_
   refine then_go ?_
   have hk4 : k = 4 := by omega
   subst hk4
   refine ⟨q - 1, by simp; omega, i + 1, by omega, rfl, rfl, rfl, rfl, ?_⟩
   rw [show 4 * (i + 1) = 4 * i + 4 by omega]
   exact st
 ·refine wc_exit (then_exit (then_exit (block_hit ?_)))
  refine then_go ?_
  refine wc_seq ?_
  have hi8 : i = 8 := by omega
  subst hi8
  have e : (bs ((List.range (4 * 8)).map (digB v2)) ++ List.replicate (32 - 4 * 8) (u8 0)).toArray = (bs (sum L)).toArray := by rw [hsum]; simp [dig]
  rw [e] at st
  refine wc_region ?_
  refine wl_val (v_load rfl (st.reads 0 rfl TF.t87 (getV_all (by simp [bs, length_sum])))) rfl ?_
  refine wl_storeW (cs := (bs (sum L)).toArray) 2 st rfl TF.t87 rfl rfl (by simp [bs, length_sum]) rfl (by simpa using one_bs _) ?_
  intro w st
  refine wl_nil ?_
  refine then_go ?_
  refine wc_ret ?_
  exact ret1c rfl (st.reads 2 rfl TF.t87 (getV_all (by simp [bs, length_sum]))) ⟨(st.keepOnly (l := []) (List.nil_sublist _)).touch, rfl⟩
theorem c_sum {bv : Value} {b : List UInt8} (him : Im m wI) (hb : SlM m bv 1 b.length (bs b)) (hl : b.length ≤ 1099511627776) :
  Ret Try.prog 67 #[bv] wI fun v w' => Tch wI w' [] [] ∧ v = arr (sum b) := by
 have st := St.start him
 refine ret_of Try.call67 Try.func67 rfl Try.ntmps67 Try.results67 rfl ?_
 refine wc_seq ?_
 refine wc_region ?_
 refine wl_alloc TF.z87 st rfl ?_
 intro b2 w st
 refine wl_nil ?_
 refine then_go ?_
 refine wc_seq ?_
 refine wc_region ?_
 refine wl_call rfl (c_hnew st.im) rfl ?_
 rintro v4 w ⟨b3, c3, rfl, t, hE, hH⟩
 have st := st.new (E := K.blk b3 c3 _) t hE
 refine wl_val (v_assign' (by conv => (lhs; whnf))) rfl ?_
 refine wl_nil ?_
 refine then_go ?_
 refine wc_seq ?_
 refine wc_region ?_
 refine wl_val (v_move' (by conv => (lhs; whnf))) rfl ?_
 refine wl_val (v_move' (by conv => (lhs; whnf))) rfl ?_
 refine wl_call rfl (c_hwrite st.im (st.at (i := 0) rfl) (st.none (i := 0) rfl b3 (by simp [K.blk])) hH hb (by simp; omega)) rfl ?_
 rintro v7 w ⟨c4, t, hE4, hH4⟩
 have st := st.step 0 rfl t hE4
 rw [List.nil_append] at hH4
 change St _ _ _ _ _ [K.blk b3 c4 _, _] at st
 refine wl_nil ?_
 refine then_go ?_
 refine wc_seq ?_
 refine wc_region ?_
 refine wl_val (v_move' (by conv => (lhs; whnf))) rfl ?_
 obtain ⟨ml, himl, _, hbl, _⟩ := st.lend (i := 0) rfl
 refine wl_call rfl (c_hdigest himl hbl hH4 hl) rfl ?_
 rintro v9 w ⟨t, rfl⟩
 have st := st.pure t
 refine wl_storeW (cs := (bs (sum b)).toArray) 1 st rfl TF.t87 rfl rfl (by simp [bs, length_sum]) rfl (by simpa using one_bs _) ?_
 intro w st
 refine wl_nil ?_
 refine then_go ?_
 refine wc_ret ?_
 exact ret1c rfl (st.reads 1 rfl TF.t87 (getV_all (by simp [bs, length_sum]))) ⟨(st.keepOnly (l := []) (List.nil_sublist _)).touch, rfl⟩
end
end Go.Proofs.Ytnaoafogdplnaaa

namespace Go.Proofs.Ytnaoafogdplnaaa
open Go Go.RowKit K SH
def PcsM (m : Mem) (v : Value) (L : List (List UInt8 × Value)) : Prop := SlM m v 1 L.length (L.map (·.2)) ∧ ∀ x ∈ L, SlM m x.2 1 x.1.length (bs x.1)
theorem PcsM.mono {m m' : Mem} {v : Value} {L : List (List UInt8 × Value)} (h : PcsM m v L) (hm : ∀ k o, m k = some o → m' k = some o) : PcsM m' v L := ⟨h.1.mono hm, fun x hx => (h.2 x hx).mono hm⟩
theorem PcsM.elem {m : Mem} {v : Value} {L : List (List UInt8 × Value)} (h : PcsM m v L) {i : Nat} (hi : i < L.length) :
  ∃ b o cap, v = .slice (some ⟨b, o, none⟩) L.length cap ∧ SlM m L[i].2 1 L[i].1.length (bs L[i].1) ∧ ∀ {w : World} (_ : Im m w), Reads Try.prog w 30 ⟨b, o + i * 1, none⟩ L[i].2 := by
 obtain ⟨b, o, cap, hv, _, hr⟩ := h.1.elem Try.prog (i := i) hi (by omega)
 refine ⟨b, o, cap, hv, h.2 _ (List.getElem_mem _), fun {w} him => ?_⟩
 have := hr him (off := 0) (v' := L[i].2) TF.t30 (by
  have e : cellsAt (L.map (·.2)) 1 i = [L[i].2] := by simp [cellsAt, List.drop_eq_getElem_cons, hi]
  rw [e]
  rfl)
 simpa using this
end Go.Proofs.Ytnaoafogdplnaaa

namespace Go.Proofs.Ytnaoafogdplnaaa
open Go Go.RowKit
namespace K
abbrev FR (ρ : Option Nat) : Fence := { Fence.wide with round := ρ }
def WI (ρ : Option Nat) (P : Program) (n : Nat) (Q : Po) (c : Code) (r : Fr) (w : World) : Prop := ∀ k ds a, Has n ds a r → c.wpIn (FR ρ) k P (lift n ds Q) a w
section
variable {ρ : Option Nat} {P : Program} {n : Nat} {Q : Po} {r : Fr} {w : World}
theorem WI.mono {Q' : Po} {c : Code} (h : WI ρ P n Q c r w) (hq : ∀ e r w, Q e r w → Q' e r w) : WI ρ P n Q' c r w :=
 fun k ds a ha => wpIn_mono (h k ds a ha) fun _ _ _ ⟨r', h1, h2⟩ => ⟨r', h1, hq _ _ _ h2⟩
end
end K
end Go.Proofs.Ytnaoafogdplnaaa

namespace Go.Proofs.Ytnaoafogdplnaaa
open Go Go.RowKit
namespace K
def objE (b : Nat) (o : Obj) : Ent where
 foot := [b]
 holds := fun w => w.heap[b]? = some o
 keep := fun h hw => by rw [h b (by simp)]; exact hw
 live := fun h k hk => by simp at hk; subst hk; exact lt_of_get h
abbrev PoX := List Deferred → Po
end K
end Go.Proofs.Ytnaoafogdplnaaa

namespace Go.Proofs.Ytnaoafogdplnaaa
open Go Go.RowKit
end Go.Proofs.Ytnaoafogdplnaaa

namespace Go.Proofs.Ytnaoafogdplnaaa
open Go Go.RowKit
namespace K
section
variable {P : Program} {n : Nat} {ops : Array Oper} {Q : Po} {rest : List Oper} {r : Fr} {w : World} {d : Nat} {ty : TypeId} {pos : String} {after : Array Edge} {m0 m : Mem} {F : List Nat} {w0 : World} {Es : List Ent}
theorem wl_appBi (i : Nat) {T U E bytes j : Nat} {D : TypeDesc} {v x : Value} {s y : Operand} {l l2 : List UInt8} (st : St m0 m F w0 w Es) (hi : Es[i]? = some (rowE v E 1 l.length (bs l))) (hT : P.underlying T = some (.slice E)) (hU : P.underlying U = some D) (hD : D = .string ∨ ∃ E', D = .slice E') (tf : TyF P E false 1 bytes) (hz : TyZ P E (.int .u8 0))
  (hs : ev r s = v) (hy : ev r y = x) (src : Src P w x 1 j (bs l2)) (hb : (l.length + l2.length) * bytes ≤ 140737488355328) (h63 : l.length + l2.length ≤ 9223372036854775807) (hd : Nat.blt d n = true)
  (k : ∀ v' w', St m0 m F w0 w' (Es.set i (rowE v' E 1 (l ++ l2).length (bs (l ++ l2)))) → v'.oneCell' = true → WL P n ops Q rest (upd d v' r) w') :
  WL P n ops Q (⟨some d, .call ⟨.builtin .append, #[s, y], #[T, U]⟩, ty, pos, after, none⟩ :: rest) r w := by
 have hj : l2.length = j := by have := src.length; simpa [bs] using this
 subst hj
 refine wl_append (news := bs l2) i st hi hT hU hD tf hz rfl hs hy src h63 hb hd ?_
 intro v' w' _ st'
 have e : bs l ++ bs l2 = bs (l ++ l2) := by simp [bs]
 rw [e, show l.length + l2.length = (l ++ l2).length by simp] at st'
 have hlt : i < Es.length := by
  rcases Nat.lt_or_ge i Es.length with h | h
  ·exact h
  ·rw [List.getElem?_eq_none h] at hi; cases hi
 have hrow : (rowE v' E 1 (l ++ l2).length (bs (l ++ l2))).holds w' := st'.at (i := i) (by simp [hlt])
 exact k v' w' st' (row_one hrow)
end
end K
end Go.Proofs.Ytnaoafogdplnaaa

namespace Go.Proofs.Ytnaoafogdplnaaa
open Go Go.RowKit K
theorem v_to {P : Program} {r : Fr} {w w' : World} {ty : TypeId} {o : Op} {v v' : Value} (h : Val P o ty r w v w') (e : v = v') : Val P o ty r w v' w' := e ▸ h
section
variable {P : Program} {r : Fr} {w : World} {ty : TypeId}
theorem v_eqlT {T U : TypeId} {x y : Operand} {k : IntKind} {a b : Int} (h : a = b) (hx : ev r x = .int k a) (hy : ev r y = .int k b) : Val P (.binOp .eql T x y U) ty r w (.bool true) w := by
 have := v_eql (P := P) (T := T) (U := U) (ty := ty) (w := w) hx hy
 rwa [decide_eq_true h] at this
end
section
variable {P : Program} {r : Fr} {w : World} {ty : TypeId}
theorem v_neqF {T U : TypeId} {x y : Operand} {k : IntKind} {a b : Int} (h : a = b) (hx : ev r x = .int k a) (hy : ev r y = .int k b) : Val P (.binOp .neq T x y U) ty r w (.bool false) w := by
 have := v_neq (P := P) (T := T) (U := U) (ty := ty) (w := w) hx hy
 rwa [decide_eq_false (not_not_intro h)] at this
end
end Go.Proofs.Ytnaoafogdplnaaa

namespace Go.Proofs.Ytnaoafogdplnaaa
open Go Go.RowKit K
theorem getV_lst {a b c : List Value} {v : Value} {o : Nat} {l : List Value} (hl : l = a ++ v :: c) (ha : a.length = o) : getV false 1 l.toArray o = some v := by
 subst hl; subst ha
 simp [getV]
section lists
variable {α : Type} {c : α → List Value} {size : Nat}
structure LsM (m : Mem) (v : Value) (c : α → List Value) (size : Nat) (L : List α) : Prop where
 row : SlM m v size L.length (L.flatMap c)
 len : ∀ x ∈ L, (c x).length = size
theorem cellsAt_flat : ∀ {L : List α}, (∀ x ∈ L, (c x).length = size) → ∀ {i : Nat} (hi : i < L.length), cellsAt (L.flatMap c) size i = c L[i]
 | [], _, _, hi => by simp at hi
 | x :: L, h, 0, _ => by
  have h1 := h x (by simp)
  simp only [cellsAt, List.flatMap_cons, Nat.zero_mul, List.drop_zero, List.getElem_cons_zero]
  rw [List.take_left' h1]
 | x :: L, h, i + 1, hi => by
  have h1 := h x (by simp)
  have h2 := cellsAt_flat (L := L) (fun y hy => h y (by simp [hy])) (i := i) (by simp at hi; omega)
  rw [List.getElem_cons_succ, ← h2]
  simp only [cellsAt, List.flatMap_cons]
  rw [show (i + 1) * size = (c x).length + i * size by rw [h1, Nat.succ_mul]; omega, List.drop_append, List.drop_eq_nil_of_le (by omega), List.nil_append, Nat.add_sub_cancel_left]
theorem LsM.mono {m m' : Mem} {v : Value} {L : List α} (h : LsM m v c size L) (hm : ∀ k o, m k = some o → m' k = some o) : LsM m' v c size L := ⟨h.row.mono hm, h.len⟩
theorem LsM.nil {m : Mem} : LsM m (.slice none 0 0) c size [] := ⟨SlM.nil, by simp⟩
theorem LsM.sl {m : Mem} {v : Value} {L : List α} (h : LsM m v c size L) : ∃ a cap, v = .slice a L.length cap := by
 obtain ⟨_, a, cap, rfl, _⟩ := h.row
 exact ⟨a, cap, rfl⟩
theorem LsM.rd {P : Program} {m : Mem} {a : Option Addr} {k cap : Nat} {L : List α} (h : LsM m (.slice a k cap) c size L) {b o i : Nat} (ha : a = some ⟨b, o, none⟩) (hi : i < L.length) (hs : 0 < size) {T : TypeId} {agg : Bool} {sz bytes off : Nat} {v' : Value} (tf : TyF P T agg sz bytes) (hv : getV agg sz (c L[i]).toArray off = some v') {w : World} (him : Im m w) :
  Reads P w T ⟨b, o + i * size + off, none⟩ v' := by
 obtain ⟨b', o', cap', hv', _, hr⟩ := h.row.elem P (i := i) hi hs
 simp only [Value.slice.injEq] at hv'
 rw [ha] at hv'
 obtain ⟨he, _, _⟩ := hv'
 cases he
 exact hr him tf (by rw [cellsAt_flat h.len hi]; exact hv)
theorem LsM.ptr {m : Mem} {a : Option Addr} {k cap : Nat} {L : List α} (h : LsM m (.slice a k cap) c size L) (hi : 0 < L.length) (hs : 0 < size) : ∃ b o, a = some ⟨b, o, none⟩ := by
 obtain ⟨b, o, cap', hv, _, _⟩ := h.row.elem Try.prog (i := 0) hi hs
 simp only [Value.slice.injEq] at hv
 exact ⟨b, o, hv.1⟩
variable {P : Program} {n : Nat} {ops : Array Oper} {Q : Po} {rest : List Oper} {r : Fr} {w : World} {d : Nat} {ty : TypeId} {pos : String} {after : Array Edge} {m0 m : Mem} {F : List Nat} {w0 : World} {Es : List Ent}
theorem wl_buildSlice0 {T E : TypeId} {agg : Bool} {bytes : Nat} (hT : P.underlying T = some (.slice E)) (tf : TyF P E agg size bytes) (st : St m0 m F w0 w Es) (hd : Nat.blt d n = true)
  (k : ∀ v w', St m0 m F w0 w' (rowE v E size 0 [] :: Es) → WL P n ops Q rest (upd d v r) w') :
  WL P n ops Q (⟨some d, .buildSlice T 0 #[], ty, pos, after, none⟩ :: rest) r w := by
 have hst : St m0 m F w0 (w.alloc (.cells #[] E)) (rowE (.slice (some ⟨w.heap.size, 0, none⟩) 0 0) E size 0 [] :: Es) := by
  have st1 := st.new (E := K.blk w.heap.size #[] E) (touch_alloc w _) (heap_alloc_new w _)
  exact st1.rowShut 0 (b := w.heap.size) (k := 0) (cap := 0) (size := size) (xs := []) rfl (Nat.le_refl _) (by simp) (by omega) (by simp)
 refine wl_val (v := .slice (some ⟨w.heap.size, 0, none⟩) 0 0) (w' := w.alloc (.cells #[] E)) ?_ hd (k _ _ hst)
 intro _ _ _ _
 simp [execOp, Instr.buildSlice, run_underlying hT, tf.sz, newRow, Instr.fill]
 have e : (Array.map (fun _ => (default : Value)) (Array.range 0)) = #[] := by apply Array.ext'; simp
 rw [e]
theorem v_eq_nilS {T E U : TypeId} {x y : Operand} {a : Option Addr} {l k : Nat} (hT : P.underlying T = some (.slice E)) (hx : ev r x = .slice a l k) (hy : ev r y = .slice none 0 0) : Val P (.binOp .eql T x y U) ty r w (.bool a.isNone) w := by
 intro _ _ _ _
 have h : (Op.equal T (.slice a l k) (.slice none 0 0)).run P w = .ok a.isNone w := by
  unfold Op.equal
  rw [show Op.maxDepth = 9999 + 1 from rfl, Op.equalIn]
  simp only [Sem.run_bind, run_underlying hT, Result.andThen_ok]
  cases a <;> rfl
 simp [execOp, eqGuard, binOp, hx, hy, h]
end lists
theorem flat_drop {α : Type} {c : α → List Value} {size : Nat} : ∀ {L : List α}, (∀ x ∈ L, (c x).length = size) → ∀ i, (L.drop i).flatMap c = (L.flatMap c).drop (i * size)
 | [], _, i => by simp
 | x :: L, h, 0 => by simp
 | x :: L, h, i + 1 => by
  have h1 := h x (by simp)
  rw [List.drop_succ_cons, flat_drop (L := L) (fun y hy => h y (by simp [hy])) i, List.flatMap_cons, show (i + 1) * size = (c x).length + i * size by rw [h1, Nat.succ_mul]; omega, List.drop_append, List.drop_eq_nil_of_le (show (c x).length ≤ (c x).length + i * size by omega), List.nil_append, Nat.add_sub_cancel_left]
theorem flat_take {α : Type} {c : α → List Value} {size : Nat} : ∀ {L : List α}, (∀ x ∈ L, (c x).length = size) → ∀ i, (L.take i).flatMap c = (L.flatMap c).take (i * size)
 | [], _, i => by simp
 | x :: L, h, 0 => by simp
 | x :: L, h, i + 1 => by
  have h1 := h x (by simp)
  rw [List.take_succ_cons, List.flatMap_cons, flat_take (L := L) (fun y hy => h y (by simp [hy])) i, List.flatMap_cons, show (i + 1) * size = (c x).length + i * size by rw [h1, Nat.succ_mul]; omega, List.take_append, List.take_of_length_le (show (c x).length ≤ (c x).length + i * size by omega), Nat.add_sub_cancel_left]
theorem LsM.sub {α : Type} {c : α → List Value} {size : Nat} {m : Mem} {a : Option Addr} {k cap : Nat} {L : List α} (h : LsM m (.slice a k cap) c size L) (i j : Nat) (hij : i ≤ j) (hj : j ≤ L.length) (hs : 0 < size) :
  LsM m (.slice (sliceOff a cap i size) (j - i) (cap - i)) c size ((L.drop i).take (j - i)) := by
 have hk : k = L.length := by obtain ⟨_, _, _, he, _⟩ := h.row; cases he; rfl
 subst hk
 have hl : ((L.drop i).take (j - i)).length = j - i := by simp; omega
 refine ⟨?_, fun x hx => h.len x (List.mem_of_mem_drop (List.mem_of_mem_take hx))⟩
 have := h.row.sub rfl hij hj hs
 rw [flat_take (fun x hx => h.len x (List.mem_of_mem_drop hx)), flat_drop h.len, hl]
 exact this
theorem K.St.rdp {P : Program} {m0 m : Mem} {F : List Nat} {w0 w : World} {Es : List Ent} {T : TypeId} {agg : Bool} {size bytes b : Nat} {c : Array Value} {t : TypeId} {v : Value} {p : Addr} (st : St m0 m F w0 w Es) (i : Nat) (hi : Es[i]? = some (K.blk b c t)) (hp : p = ⟨b, p.off, Option.none⟩) (tf : TyF P T agg size bytes) (hv : getV agg size c p.off = some v) : Reads P w T p v :=
 hp ▸ st.reads i hi tf hv
section
variable {P : Program} {n : Nat} {ops : Array Oper} {Q : Po} {rest : List Oper} {r : Fr} {w : World} {d : Nat} {ty : TypeId} {pos : String} {after : Array Edge}
theorem wl_valg {op : Op} {v : Value} {j t : Nat} {b want : Bool} (hj : (ops[j]?).bind (·.dst) = some t) (hb : r t = .bool b) (hv : b = want → Val P op ty r w v w) (hd : Nat.blt d n = true) (k : WL P n ops Q rest (upd d (bif b == want then v else undef) r) w) :
  WL P n ops Q (⟨some d, op, ty, pos, after, some (j, want)⟩ :: rest) r w := by
 refine wl_guard hj hb (fun h => ?_) (fun h => ?_) (.inr ⟨d, rfl, hd⟩)
 ·subst h
  refine wl_val (hv rfl) hd ?_
  have : (bif b == b then v else undef) = v := by cases b <;> rfl
  rwa [this] at k
 ·subst h
  have : (bif (!want) == want then v else undef) = undef := by cases want <;> rfl
  rwa [this] at k
theorem gx {x : Operand} {b want : Bool} {v : Value} (e : b = want) (h : ev r x = bif b == want then v else undef) : ev r x = v := by
 subst e
 rw [h]
 cases b <;> rfl
theorem v_pickA {c x y : Operand} {b b2 : Bool} (hc : ev r c = .bool b) (hx : ev r x = bif b == true then .bool b2 else undef) (hy : ev r y = .bool false) : Val P (.pick c x y) ty r w (.bool (b && b2)) w := by
 have h := v_pick (P := P) (w := w) (ty := ty) (x := x) (y := y) hc
 rw [hx, hy] at h
 cases b <;> exact h
theorem v_pickO {c x y : Operand} {b b2 : Bool} (hc : ev r c = .bool b) (hx : ev r x = .bool true) (hy : ev r y = bif b == false then .bool b2 else undef) : Val P (.pick c x y) ty r w (.bool (b || b2)) w := by
 have h := v_pick (P := P) (w := w) (ty := ty) (x := x) (y := y) hc
 rw [hx, hy] at h
 cases b <;> exact h
theorem wl_valD {op : Op} {p q : Bool} (h : Val P op ty r w (.bool p) w) (e : p = q) : Val P op ty r w (.bool q) w := e ▸ h
end
theorem SlM.one1 {m : Mem} {v : Value} {size k : Nat} {xs : List Value} (h : SlM m v size k xs) : v.oneCell' = true := by obtain ⟨_, _, _, h, _⟩ := h; rw [h]; rfl
theorem LsM.one1 {α : Type} {c : α → List Value} {size : Nat} {m : Mem} {v : Value} {L : List α} (h : LsM m v c size L) : v.oneCell' = true := SlM.one1 h.row
section
variable {P : Program} {n : Nat} {ops : Array Oper} {Q : Po} {rest : List Oper} {r : Fr} {w : World} {d : Nat} {ty : TypeId} {pos : String} {after : Array Edge} {m0 m : Mem} {F : List Nat} {w0 : World} {Es : List Ent}
theorem v_sls {T E : TypeId} {agg : Bool} {size bytes : Nat} {x : Operand} {lo hi : Option Operand} {a : Option Addr} {len cap : Nat} (l h : Nat) (hT : P.underlying T = some (.slice E)) (tf : TyF P E agg size bytes)
  (hx : ev r x = .slice a len cap) (hlo : BoundIs r lo 0 l) (hhi : BoundIs r hi len h) (h1 : l ≤ h) (h2 : h ≤ cap) : Val P (.slice T x lo hi none) ty r w (.slice (sliceOff a cap l size) (h - l) (cap - l)) w := v_slice_s hT tf hx hlo hhi h1 h2
theorem wl_byteR {T E bytes : Nat} {x : Operand} (c : UInt8) (hT : P.underlying T = some (.slice E)) (tf : TyF P E false 1 bytes) (hz : TyZ P E (.int .u8 0)) (hx : ev r x = u8 c) (st : St m0 m F w0 w Es) (hd : Nat.blt d n = true)
  (k : ∀ b w', St m0 m F w0 w' (rowE (.slice (some ⟨b, 0, none⟩) 1 1) E 1 [c].length (bs [c]) :: Es) → WL P n ops Q rest (upd d (.slice (some ⟨b, 0, none⟩) 1 1) r) w') :
  WL P n ops Q (⟨some d, .buildSlice T 1 #[(0, x)], ty, pos, after, none⟩ :: rest) r w :=
 wl_byte1 c hT tf hz hx st hd fun b w' st' => k b w' (st'.rowShut 0 (k := 1) (cap := 1) (size := 1) (xs := bs [c]) rfl (by decide) rfl (by decide) rfl)
end
section
variable {P : Program} {n : Nat} {ops : Array Oper} {Q : Po} {rest : List Oper} {r : Fr} {w : World} {d : Nat} {ty : TypeId} {pos : String} {after : Array Edge} {m0 m : Mem} {F : List Nat} {w0 : World} {Es : List Ent}
theorem wl_svOne {T E : TypeId} {bytes : Nat} {v : Value} {x : Operand} (hT : P.underlying T = some (.slice E)) (tf : TyF P E false 1 bytes) (hz : TyZ P E (.slice none 0 0)) (ho : v.oneCell' = true) (hx : ev r x = v) (st : St m0 m F w0 w Es) (hd : Nat.blt d n = true)
  (k : ∀ b w', St m0 m F w0 w' (K.blk b #[v] E :: Es) → WL P n ops Q rest (upd d (.slice (some ⟨b, 0, none⟩) 1 1) r) w') :
  WL P n ops Q (⟨some d, .buildSlice T 1 #[(0, x)], ty, pos, after, none⟩ :: rest) r w := by
 refine wl_buildSlice (c' := #[v]) [(0, v)] hT tf hz (by decide) (by decide) (by simp [hx]) ⟨0, 1, rfl, by rw [cells_one ho]; rfl, by simp [size_madeCells], ?_⟩ st hd k
 rw [cells_one ho]
 exact setSeg_all (by simp [size_madeCells])
end
end Go.Proofs.Ytnaoafogdplnaaa

namespace Go.Proofs.Ytnaoafogdplnaaa
open Go Go.RowKit Go.ChangeShapes Go.WideShapes K
section
variable {H : Type} {enc : TypeId × Value → H} {w : World} {sp : Nat → Bool} {held : Bool} {fuel : Nat} {x : DataW H × List MemPlace} {v : Value}
theorem trod_seg {S f off F size bytes : Nat} {agg : Bool} {cs : List Value} (hf : FdOff Try.prog S f off F) (tf : TyF Try.prog F agg size bytes) (h : DataW.trod enc Try.prog w 0 sp held fuel S cs = some x) :
  ∃ n y, DataW.trod enc Try.prog w 0 sp held n F ((cs.drop off).take size) = some y := by
 obtain ⟨fs, fl, hS, hfl, rfl, rfl, _⟩ := hf
 obtain ⟨xs, n, _, _, _, hxl, hh⟩ := DataW.trod_struct hS h
 have hlt : f < fs.size := by
  rcases Nat.lt_or_ge f fs.size with h' | h'
  ·exact h'
  ·rw [Array.getElem?_eq_none h'] at hfl; cases hfl
 have e := hh f fl hfl
 rw [tf.cells, List.getElem?_eq_getElem (by omega)] at e
 exact ⟨n, _, e⟩
theorem trod_len {S size bytes : Nat} {agg : Bool} {fs : Array Field} {cs : List Value} (hS : Try.prog.underlying S = some (.struct fs)) (tf : TyF Try.prog S agg size bytes) (h : DataW.trod enc Try.prog w 0 sp held fuel S cs = some x) : cs.length = size := by
 obtain ⟨xs, n, _, _, hl, _⟩ := DataW.trod_struct hS h
 rw [tf.cells] at hl
 exact hl
theorem trod_bo {cs : List Value} (h : DataW.trod enc Try.prog w 0 sp held fuel 4 cs = some x) : ∃ b, cs = [.bool b] := by
 obtain ⟨b, q, _⟩ := DataW.trod_bool Try.underlying4 h
 exact ⟨b, q⟩
theorem trod_u8 {cs : List Value} (h : DataW.trod enc Try.prog w 0 sp held fuel 5 cs = some x) : ∃ n : UInt8, cs = [u8 n] := by
 obtain ⟨a, q, _, wf⟩ := DataW.trod_int Try.underlying5 h
 simp only [Lit.wf, Bool.and_eq_true, decide_eq_true_eq] at wf
 have h1 : 0 ≤ a := wf.1
 have h2 : a ≤ 255 := wf.2
 refine ⟨UInt8.ofNat a.toNat, ?_⟩
 rw [q]
 simp only [u8, List.cons.injEq, Value.int.injEq, true_and, and_true]
 rw [UInt8.toNat_ofNat']
 omega
end
end Go.Proofs.Ytnaoafogdplnaaa

namespace Go.Proofs.Ytnaoafogdplnaaa
open Go Go.RowKit Go.ChangeShapes Go.WideShapes K
theorem bulk_one {H : Type} (d : DataW H) : 1 ≤ Rows.uptoBulk d := by
 cases d with
 | lit l => cases l <;> simp [Rows.uptoBulk]
 | nil => simp [Rows.uptoBulk]
 | ptr d => simp [Rows.uptoBulk]
 | slice elems spare => simp [Rows.uptoBulk]
 | agg parts => simp [Rows.uptoBulk]
 | iface t d => simp [Rows.uptoBulk]
 | map entries => simp [Rows.uptoBulk]
 | held h => simp [Rows.uptoBulk]
theorem bulk_part {H : Type} {d : DataW H} {l : List (DataW H)} (h : d ∈ l) : Rows.uptoBulk d ≤ Rows.uptoBulkAll l := by
 induction l with
 | nil => cases h
 | cons x r ih =>
  simp only [Rows.uptoBulkAll]
  cases List.mem_cons.1 h with
  | inl e => subst e; omega
  | inr e => have := ih e; omega
theorem bulk_len {H : Type} (l : List (DataW H)) : l.length ≤ Rows.uptoBulkAll l := by
 induction l with
 | nil => simp [Rows.uptoBulkAll]
 | cons x r ih => have := bulk_one x; simp only [Rows.uptoBulkAll, List.length_cons]; omega
theorem bulk_of {H : Type} {l : List (DataW H)} (hk : Rows.uptoSmall H l = true) : ∀ d ∈ l, Rows.uptoBulk d ≤ 1048576 := fun d hd => by
 have h : Rows.uptoBulkAll l ≤ 1048576 := of_decide_eq_true hk
 have := bulk_part hd
 omega
section
variable {H : Type} {enc : TypeId × Value → H} {w : World} {sp : Nat → Bool} {held : Bool} {fuel : Nat} {x : DataW H × List MemPlace} {v : Value}
theorem open_bytesB (h : DataW.trod enc Try.prog w 0 sp held fuel 30 [v] = some x) : ∃ l : List UInt8, SlM (heapM w) v 1 l.length (bs l) ∧ l.length ≤ Rows.uptoBulk x.1 := by
 obtain ⟨k, X, D, rest, hS, _, hX, hD⟩ := trod_SlMD Try.underlying30 (by rw [TF.t5.cells]; decide) h
 rw [TF.t5.cells] at hS
 obtain ⟨l, h1, h2⟩ := flat_one (α := UInt8) k X u8 fun i hi => by
  obtain ⟨_, n, y, hy⟩ := hX i hi
  obtain ⟨b, hb⟩ := trod_u8 hy
  exact ⟨b, hb⟩
 rw [h2] at hS
 subst h1
 refine ⟨l, hS, ?_⟩
 rcases hD with h0 | h0
 ·omega
 ·rw [h0]
  have := bulk_len ((List.range l.length).map D)
  rw [List.length_map, List.length_range] at this
  simp only [Rows.uptoBulk]
  omega
theorem open_rowsB (h : DataW.trod enc Try.prog w 0 sp held fuel 29 [v] = some x) : ∃ L : List (List UInt8 × Value), PcsM (heapM w) v L ∧ (∀ x' ∈ L, x'.1.length ≤ Rows.uptoBulk x.1) ∧ L.length ≤ Rows.uptoBulk x.1 := by
 obtain ⟨k, X, D, rest, hS, _, hX, hD⟩ := trod_SlMD Try.underlying29 (by rw [TF.t30.cells]; decide) h
 rw [TF.t30.cells] at hS hX
 have hk : k ≤ Rows.uptoBulk x.1 := by
  rcases hD with h0 | h0
  ·omega
  ·rw [h0]
   have := bulk_len ((List.range k).map D)
   rw [List.length_map, List.length_range] at this
   simp only [Rows.uptoBulk]
   omega
 have hp : ∀ i, i < k → Rows.uptoBulk (D i) ≤ Rows.uptoBulk x.1 := fun i hi => by
  rcases hD with h0 | h0
  ·omega
  ·rw [h0]
   have := bulk_part (d := D i) (l := (List.range k).map D) (List.mem_map.2 ⟨i, List.mem_range.2 hi, rfl⟩)
   simp only [Rows.uptoBulk]
   omega
 have all : ∀ k', k' ≤ k → ∃ L : List (List UInt8 × Value), L.length = k' ∧ (List.range k').flatMap X = L.map (·.2) ∧ (∀ x ∈ L, SlM (heapM w) x.2 1 x.1.length (bs x.1)) ∧ ∀ x' ∈ L, x'.1.length ≤ Rows.uptoBulk x.1 := by
  intro k'
  induction k' with
  | zero => intro _; exact ⟨[], rfl, rfl, by simp, by simp⟩
  | succ k' ih =>
   intro hk'
   obtain ⟨L, h1, h2, h3, h4⟩ := ih (by omega)
   obtain ⟨hl, n, y, hy⟩ := hX k' (by omega)
   obtain ⟨u, hu⟩ : ∃ u, X k' = [u] := List.length_eq_one_iff.1 hl
   rw [hu] at hy
   obtain ⟨l, hl1, hl2⟩ := open_bytesB hy
   refine ⟨L ++ [(l, u)], by simp [h1], ?_, fun x hx => ?_, fun x' hx => ?_⟩
   ·rw [List.range_succ, List.flatMap_append, h2, List.map_append]
    simp [hu]
   ·rcases List.mem_append.1 hx with hx | hx
    ·exact h3 x hx
    ·rw [List.mem_singleton.1 hx]; exact hl1
   ·rcases List.mem_append.1 hx with hx | hx
    ·exact h4 x' hx
    ·rw [List.mem_singleton.1 hx]; exact Nat.le_trans hl2 (hp k' (by omega))
 obtain ⟨L, h1, h2, h3, h4⟩ := all k (Nat.le_refl _)
 rw [h2] at hS
 subst h1
 exact ⟨L, ⟨hS, h3⟩, h4, hk⟩
theorem trod_listB {α : Type} {c : α → List Value} {Q : α → Nat → Prop} {T E : TypeId} {agg : Bool} {size bytes : Nat} (hT : Try.prog.underlying T = some (.slice E)) (tf : TyF Try.prog E agg size bytes) (hs : 0 < size)
  (one : ∀ {n : Nat} {y : DataW H × List MemPlace} {cs : List Value}, DataW.trod enc Try.prog w 0 sp held n E cs = some y → ∃ a, cs = c a ∧ Q a (Rows.uptoBulk y.1)) (hQ : ∀ {a : α} {n n' : Nat}, Q a n → n ≤ n' → Q a n')
  (h : DataW.trod enc Try.prog w 0 sp held fuel T [v] = some x) : ∃ L : List α, LsM (heapM w) v c size L ∧ (∀ a ∈ L, Q a (Rows.uptoBulk x.1)) ∧ L.length ≤ Rows.uptoBulk x.1 := by
 obtain ⟨k, X, D, rest, hS, _, hX, hD⟩ := trod_SlMD hT (by rw [tf.cells]; exact hs) h
 rw [tf.cells] at hS hX
 have hk : k ≤ Rows.uptoBulk x.1 := by
  rcases hD with h0 | h0
  ·omega
  ·rw [h0]
   have := bulk_len ((List.range k).map D)
   rw [List.length_map, List.length_range] at this
   simp only [Rows.uptoBulk]
   omega
 have hp : ∀ i, i < k → Rows.uptoBulk (D i) ≤ Rows.uptoBulk x.1 := fun i hi => by
  rcases hD with h0 | h0
  ·omega
  ·rw [h0]
   have := bulk_part (d := D i) (l := (List.range k).map D) (List.mem_map.2 ⟨i, List.mem_range.2 hi, rfl⟩)
   simp only [Rows.uptoBulk]
   omega
 have all : ∀ k', k' ≤ k → ∃ L : List α, L.length = k' ∧ (List.range k').flatMap X = L.flatMap c ∧ ∀ a ∈ L, Q a (Rows.uptoBulk x.1) ∧ (c a).length = size := by
  intro k'
  induction k' with
  | zero => intro _; exact ⟨[], rfl, rfl, by simp⟩
  | succ k' ih =>
   intro hk'
   obtain ⟨L, h1, h2, h3⟩ := ih (by omega)
   obtain ⟨hl, n, y, hy⟩ := hX k' (by omega)
   obtain ⟨a, ha, hq⟩ := one hy
   refine ⟨L ++ [a], by simp [h1], ?_, fun b hb => ?_⟩
   ·rw [List.range_succ, List.flatMap_append, h2, List.flatMap_append]
    simp [ha]
   ·rcases List.mem_append.1 hb with hb | hb
    ·exact h3 b hb
    ·rw [List.mem_singleton.1 hb]; exact ⟨hQ hq (hp k' (by omega)), by rw [← ha]; exact hl⟩
 obtain ⟨L, h1, h2, h3⟩ := all k (Nat.le_refl _)
 rw [h2] at hS
 subst h1
 exact ⟨L, ⟨hS, fun a ha => (h3 a ha).2⟩, fun a ha => (h3 a ha).1, hk⟩
theorem trod_segB {S f off F size bytes : Nat} {agg : Bool} {cs : List Value} (hf : FdOff Try.prog S f off F) (tf : TyF Try.prog F agg size bytes) (h : DataW.trod enc Try.prog w 0 sp held fuel S cs = some x) :
  ∃ n y, DataW.trod enc Try.prog w 0 sp held n F ((cs.drop off).take size) = some y ∧ Rows.uptoBulk y.1 ≤ Rows.uptoBulk x.1 := by
 obtain ⟨fs, fl, hS, hfl, rfl, rfl, _⟩ := hf
 obtain ⟨xs, n, hx1, hx2, _, hxl, hh⟩ := DataW.trod_struct hS h
 have hlt : f < fs.size := by
  rcases Nat.lt_or_ge f fs.size with h' | h'
  ·exact h'
  ·rw [Array.getElem?_eq_none h'] at hfl; cases hfl
 have e := hh f fl hfl
 rw [tf.cells, List.getElem?_eq_getElem (by omega)] at e
 refine ⟨n, _, e, ?_⟩
 rw [hx2]
 have := bulk_part (d := (xs[f]'(by omega)).1) (l := xs.map (·.1)) (List.mem_map.2 ⟨_, List.getElem_mem (by omega), rfl⟩)
 simp only [Rows.uptoBulk]
 omega
end
end Go.Proofs.Ytnaoafogdplnaaa

namespace Go.Proofs.Ytnaoafogdplnaaa
open Go Go.RowKit K SH
section
variable {m : Mem} {wI : World}
theorem c_tagsof {bv : Value} {b : List UInt8} (him : Im m wI) (hb : SlM m bv 1 b.length (bs b)) (hl : b.length ≤ 1099511627776) :
  Ret Try.prog 55 #[bv] wI fun v w' => Tch wI w' [] [] ∧ v = arr (sum b) := by
 have st := St.start him
 refine ret_of Try.call55 Try.func55 rfl Try.ntmps55 Try.results55 rfl ?_
 refine wc_seq ?_
 refine wc_region ?_
 refine wl_alloc TF.z87 st rfl ?_
 intro b2 w st
 refine wl_nil ?_
 refine then_go ?_
 refine wc_seq ?_
 refine wc_region ?_
 refine wl_val (v_move' (by conv => (lhs; whnf))) rfl ?_
 refine wl_call rfl (c_sum st.im hb hl) rfl ?_
 rintro v4 w ⟨t, rfl⟩
 have st := st.pure t
 refine wl_storeW (cs := (bs (sum b)).toArray) 0 st rfl TF.t87 rfl rfl (by simp [bs, length_sum]) rfl (by simpa using one_bs _) ?_
 intro w st
 refine wl_nil ?_
 refine then_go ?_
 refine wc_ret ?_
 exact ret1c rfl (st.reads 0 rfl TF.t87 (getV_all (by simp [bs, length_sum]))) ⟨(st.keepOnly (l := []) (List.nil_sublist _)).touch, rfl⟩
end
end Go.Proofs.Ytnaoafogdplnaaa

namespace Go.Proofs.Ytnaoafogdplnaaa
open Go Go.RowKit K SH
def num8 (n : UInt64) : List UInt8 := (List.range 8).map fun i => UInt8.ofNat (n.toNat / 2 ^ (56 - 8 * i))
theorem length_num8 (n : UInt64) : (num8 n).length = 8 := by simp [num8]
section
variable {m : Mem} {wI : World}
structure Rt where
 epoch : UInt64
 prev : List UInt8
 tree : List UInt8
 next : List UInt8
deriving DecidableEq
def Rt.ok (t : Rt) : Prop := t.prev.length = 32 ∧ t.tree.length = 32 ∧ t.next.length = 32
end
end Go.Proofs.Ytnaoafogdplnaaa

namespace Go.Proofs.Ytnaoafogdplnaaa
namespace DK
abbrev By := List UInt8
def splice (S : By) (o : Nat) (l : By) : By := S.take o ++ l ++ S.drop (o + l.length)
theorem length_splice {S l : By} {o : Nat} (h : o + l.length ≤ S.length) : (splice S o l).length = S.length := by
 simp [splice]; omega
def sec (S : By) (i : Nat) : By := (S.drop (64 * i)).take 64
structure DS where
 S : By
 wt : List (Nat × By)
 fuse : Int
 down : Bool
structure DS.ok (d : DS) (n : Nat) : Prop where
 pos : 1 ≤ n
 len : d.S.length = 64 * n
 le : n ≤ 16384
 wt : ∀ x ∈ d.wt, x.1 < n ∧ x.2.length = 64
def dump (d : DS) : By := d.wt.foldl (fun S x => splice S (64 * x.1) x.2) d.S
def burn (d : DS) : DS := { d with down := decide (d.fuse = 0), fuse := if 0 < d.fuse then d.fuse - 1 else d.fuse }
def writeD (d : DS) (n : Nat) (i : Int) (l : By) : DS × Int :=
 if d.down then (d, 14) else if i < 0 ∨ i ≥ n then (d, 2) else if l.length ≠ 64 then (d, 1) else
  let d' := burn { d with wt := d.wt ++ [(i.toNat, l)] }
  (d', if d'.down then 14 else 0)
def syncD (d : DS) : DS × Int :=
 if d.down then (d, 14) else if d.fuse = 0 then (burn d, 14) else ({ burn d with S := dump d, wt := [] }, 0)
def newD (n : Nat) : DS := ⟨List.replicate (64 * n) 0, [], -1, false⟩
def keepN (keep : List Int) (i : Nat) : Nat := (min (max (keep[i]?.getD 0) 0) 64).toNat
def crashS (keep : List Int) : Nat → By → List (Nat × By) → By
 | _, S, [] => S
 | i, S, x :: l => crashS keep (i + 1) (splice S (64 * x.1) (x.2.take (keepN keep i))) l
def crashD (d : DS) (keep : List Int) : DS := ⟨crashS keep 0 d.S d.wt, [], -1, false⟩
theorem splice_nil (S : By) (o : Nat) : splice S o [] = S := by simp [splice]
theorem keepN_none {keep : List Int} {i : Nat} (h : keep.length ≤ i) : keepN keep i = 0 := by
 simp only [keepN, List.getElem?_eq_none h, Option.getD_none]
 decide
theorem keepN_le (keep : List Int) (i : Nat) : keepN keep i ≤ 64 := by unfold keepN; omega
theorem crash_step {keep : List Int} {j : Nat} {S : By} {l : List (Nat × By)} (h : j < l.length) :
  crashS keep j S (l.drop j) = crashS keep (j + 1) (splice S (64 * l[j].1) (l[j].2.take (keepN keep j))) (l.drop (j + 1)) := by
 rw [List.drop_eq_getElem_cons h]
 rfl
end DK
end Go.Proofs.Ytnaoafogdplnaaa

namespace Go.Proofs.Ytnaoafogdplnaaa
open Go Go.RowKit K SH DK
namespace JR
def pad64 (l : By) : By := l ++ List.replicate ((64 - l.length % 64) % 64) 0
def recL (n : Nat) : Nat := (n + 120) / 64 * 64
theorem length_pad64 (l : By) : (pad64 l).length = (l.length + 63) / 64 * 64 := by
 simp only [pad64, List.length_append, List.length_replicate]
 omega
def headB (g : UInt64) : By := pad64 (72 :: (num8 g ++ sum (72 :: num8 g)))
def textB (g s : UInt64) (b : By) : By := 74 :: (num8 g ++ (num8 s ++ b))
def recB (g s : UInt64) (b : By) : By := pad64 (74 :: (num8 g ++ (num8 s ++ (sum (textB g s b) ++ (num8 (UInt64.ofNat b.length) ++ b)))))
theorem length_headB (g : UInt64) : (headB g).length = 64 := by
 rw [headB, length_pad64]
 simp [length_num8, length_sum]
theorem length_textB (g s : UInt64) (b : By) : (textB g s b).length = 17 + b.length := by
 simp [textB, length_num8]; omega
theorem length_recB (g s : UInt64) (b : By) : (recB g s b).length = recL b.length := by
 rw [recB, length_pad64, recL]
 simp only [List.length_cons, List.length_append, length_num8, length_sum]
 omega
def rdN (b : By) : Nat := (b.take 8).foldl (fun n c => n * 256 + c.toNat) 0
def rd8 (b : By) : UInt64 := (b.take 8).foldl (fun n c => n * 256 + UInt64.ofNat c.toNat) 0
theorem fold_rd : ∀ (l : By) (n : Nat) (m : UInt64), m = UInt64.ofNat n → l.foldl (fun n c => n * 256 + UInt64.ofNat c.toNat) m = UInt64.ofNat (l.foldl (fun n c => n * 256 + c.toNat) n)
 | [], _, _, h => h
 | c :: l, n, m, h => by
  refine fold_rd l _ _ ?_
  rw [h, ← UInt64.toNat_inj]
  simp
theorem rd8_eq (b : By) : rd8 b = UInt64.ofNat (rdN b) := fold_rd _ 0 0 rfl
theorem num8_list (g : UInt64) : num8 g = [UInt8.ofNat (g.toNat / 2 ^ 56), UInt8.ofNat (g.toNat / 2 ^ 48), UInt8.ofNat (g.toNat / 2 ^ 40), UInt8.ofNat (g.toNat / 2 ^ 32), UInt8.ofNat (g.toNat / 2 ^ 24), UInt8.ofNat (g.toNat / 2 ^ 16), UInt8.ofNat (g.toNat / 2 ^ 8), UInt8.ofNat (g.toNat / 2 ^ 0)] := rfl
theorem rd8_num8 (g : UInt64) (t : By) : rd8 (num8 g ++ t) = g := by
 have e : (num8 g ++ t).take 8 = num8 g := List.take_left' (length_num8 g)
 have hg := g.toNat_lt
 rw [rd8_eq, rdN, e, num8_list]
 simp only [List.foldl_cons, List.foldl_nil, UInt8.toNat_ofNat']
 rw [← UInt64.toNat_inj, UInt64.toNat_ofNat']
 omega
def nextF (g s : UInt64) (b : By) : Option By :=
 if b.length < 64 then none else
 if (rd8 (b.drop 49)).toNat < 1 ∨ b.length - 57 < (rd8 (b.drop 49)).toNat then none else
 if (recB g s ((b.drop 57).take (rd8 (b.drop 49)).toNat)).length ≤ b.length ∧ recB g s ((b.drop 57).take (rd8 (b.drop 49)).toNat) = b.take (recB g s ((b.drop 57).take (rd8 (b.drop 49)).toNat)).length then some ((b.drop 57).take (rd8 (b.drop 49)).toNat) else none
theorem nextF_len {g s : UInt64} {b x : By} (h : nextF g s b = some x) : 1 ≤ x.length ∧ recL x.length ≤ b.length ∧ b.take (recL x.length) = recB g s x ∧ 64 ≤ recL x.length ∧ x.length ≤ b.length := by
 unfold nextF at h
 split at h
 ·cases h
 ·split at h
  ·cases h
  ·split at h
   ·rename_i h1 h2 h3
    cases h
    have hl : ((b.drop 57).take (rd8 (b.drop 49)).toNat).length = (rd8 (b.drop 49)).toNat := by rw [List.length_take, List.length_drop]; omega
    rw [length_recB] at h3
    refine ⟨by omega, h3.1, h3.2.symm, ?_, by omega⟩
    rw [hl, recL]
    omega
   ·cases h
theorem nextF_rec {g s : UInt64} {x t : By} (h1 : 1 ≤ x.length) (h2 : x.length < 18446744073709551616) : nextF g s (recB g s x ++ t) = some x := by
 have hlen : (recB g s x ++ t).length = recL x.length + t.length := by rw [List.length_append, length_recB]
 have hn : (UInt64.ofNat x.length).toNat = x.length := by rw [UInt64.toNat_ofNat', Nat.mod_eq_of_lt h2]
 obtain ⟨z, hz⟩ : ∃ z, recB g s x = 74 :: (num8 g ++ (num8 s ++ (sum (textB g s x) ++ (num8 (UInt64.ofNat x.length) ++ (x ++ z))))) := ⟨_, by simp only [recB, pad64, List.cons_append, List.append_assoc]; rfl⟩
 have e49 : (recB g s x ++ t).drop 49 = num8 (UInt64.ofNat x.length) ++ (x ++ (z ++ t)) := by
  rw [hz]
  have e : (74 :: (num8 g ++ (num8 s ++ (sum (textB g s x) ++ (num8 (UInt64.ofNat x.length) ++ (x ++ z)))))) ++ t = (74 :: (num8 g ++ (num8 s ++ sum (textB g s x)))) ++ (num8 (UInt64.ofNat x.length) ++ (x ++ (z ++ t))) := by simp
  rw [e]
  exact List.drop_left' (by simp [length_num8, length_sum])
 have e57 : (recB g s x ++ t).drop 57 = x ++ (z ++ t) := by
  have : (recB g s x ++ t).drop 57 = ((recB g s x ++ t).drop 49).drop 8 := by rw [List.drop_drop]
  rw [this, e49]
  exact List.drop_left' (length_num8 _)
 have er : rd8 ((recB g s x ++ t).drop 49) = UInt64.ofNat x.length := by rw [e49]; exact rd8_num8 _ _
 have ex : ((recB g s x ++ t).drop 57).take (rd8 ((recB g s x ++ t).drop 49)).toNat = x := by rw [er, hn, e57]; exact List.take_left' rfl
 unfold nextF
 rw [if_neg (by rw [hlen, recL]; omega), if_neg (by rw [er, hn, hlen, recL]; omega), ex, if_pos ⟨by rw [hlen, length_recB]; omega, by rw [List.take_left' rfl]⟩]
theorem nextF_zero {g s : UInt64} {b : By} (h : (rd8 (b.drop 49)).toNat = 0) : nextF g s b = none := by
 unfold nextF
 split
 ·rfl
 ·rw [if_pos (by omega)]
theorem nextF_short {g s : UInt64} {b : By} (h : b.length < 64) : nextF g s b = none := by
 unfold nextF
 rw [if_pos h]
theorem rd8_zero {k : Nat} : rd8 (List.replicate k 0) = 0 := by
 rw [rd8, List.take_replicate]
 induction min 8 k with
 | zero => rfl
 | succ n ih => rw [List.replicate_succ, List.foldl_cons]; exact ih
def recsF (g : UInt64) : Nat → Nat → By → List By
 | 0, _, _ => []
 | f + 1, k, b => match nextF g (UInt64.ofNat k) b with
  | none => []
  | some x => x :: recsF g f (k + 1) (b.drop (recL x.length))
theorem recsF_none {g : UInt64} {f k : Nat} {b : By} (h : nextF g (UInt64.ofNat k) b = none) : recsF g f k b = [] := by
 cases f with
 | zero => rfl
 | succ f => rw [recsF, h]
theorem recsF_some {g : UInt64} {f k : Nat} {b x : By} (h : nextF g (UInt64.ofNat k) b = some x) : recsF g (f + 1) k b = x :: recsF g f (k + 1) (b.drop (recL x.length)) := by rw [recsF, h]
def sizeL (l : List By) : Nat := (l.map fun x => recL x.length).sum
theorem sizeL_snoc {l : List By} {x : By} : sizeL (l ++ [x]) = sizeL l + recL x.length := by simp [sizeL]
theorem sizeL_cons {l : List By} {x : By} : sizeL (x :: l) = recL x.length + sizeL l := by simp [sizeL]
theorem sizeL_ge {l : List By} : l.length * 64 ≤ sizeL l := by
 induction l with
 | nil => simp
 | cons x l ih => rw [sizeL_cons, List.length_cons]; unfold recL; omega
theorem sizeL_mod {l : List By} : sizeL l % 64 = 0 := by
 induction l with
 | nil => rfl
 | cons x l ih => rw [sizeL_cons]; unfold recL; omega
def recs (g : UInt64) (half : By) : List By := recsF g half.length 0 (half.drop 64)
def allB (g : UInt64) : Nat → List By → By
 | _, [] => []
 | k, x :: l => recB g (UInt64.ofNat k) x ++ allB g (k + 1) l
theorem length_allB {g : UInt64} : ∀ {k : Nat} {l : List By}, (allB g k l).length = sizeL l
 | _, [] => rfl
 | k, x :: l => by rw [allB, List.length_append, length_recB, length_allB, sizeL_cons]
theorem allB_snoc {g : UInt64} : ∀ {k : Nat} {l : List By} {x : By}, allB g k (l ++ [x]) = allB g k l ++ recB g (UInt64.ofNat (k + l.length)) x
 | k, [], x => by simp [allB]
 | k, y :: l, x => by
  rw [List.cons_append, allB, allB, allB_snoc, List.append_assoc, List.length_cons, show k + 1 + l.length = k + (l.length + 1) by omega]
def Okr (l : List By) : Prop := ∀ x ∈ l, 1 ≤ x.length ∧ x.length ≤ 1048576
theorem recs_all {g : UInt64} : ∀ {l : List By} {f k : Nat} {t : By}, (∀ x ∈ l, 1 ≤ x.length ∧ x.length < 18446744073709551616) → nextF g (UInt64.ofNat (k + l.length)) t = none → l.length ≤ f → recsF g f k (allB g k l ++ t) = l
 | [], f, k, t, _, ht, _ => recsF_none ht
 | x :: l, f, k, t, hl, ht, hf => by
  obtain ⟨f, rfl⟩ : ∃ f', f = f' + 1 := ⟨f - 1, by simp at hf; omega⟩
  obtain ⟨h1, h2⟩ := hl x List.mem_cons_self
  rw [allB, List.append_assoc, recsF_some (nextF_rec h1 h2), List.drop_left' (length_recB _ _ _)]
  rw [recs_all (fun y hy => hl y (List.mem_cons_of_mem _ hy)) (by rw [show k + 1 + l.length = k + (x :: l).length by simp; omega]; exact ht) (by simp at hf; omega)]
theorem recs_there {g : UInt64} : ∀ {f k : Nat} {b : By}, b.length ≤ f → sizeL (recsF g f k b) ≤ b.length ∧ b.take (sizeL (recsF g f k b)) = allB g k (recsF g f k b) ∧ nextF g (UInt64.ofNat (k + (recsF g f k b).length)) (b.drop (sizeL (recsF g f k b))) = none ∧ ∀ x ∈ recsF g f k b, 1 ≤ x.length ∧ x.length ≤ b.length
 | 0, k, b, hb => by
  have : b = [] := List.eq_nil_of_length_eq_zero (by omega)
  subst this
  exact ⟨Nat.le_refl _, rfl, nextF_short (by simp), by simp [recsF]⟩
 | f + 1, k, b, hb => by
  cases h : nextF g (UInt64.ofNat k) b with
  | none =>
   rw [recsF_none h]
   exact ⟨Nat.zero_le _, rfl, by simpa [sizeL] using h, by simp⟩
  | some x =>
   rw [recsF_some h]
   obtain ⟨h1, h2, h3, h4, h5⟩ := nextF_len h
   obtain ⟨i1, i2, i3, i4⟩ := recs_there (g := g) (f := f) (k := k + 1) (b := b.drop (recL x.length)) (by rw [List.length_drop]; omega)
   rw [List.length_drop] at i1 i4
   rw [sizeL_cons]
   refine ⟨by omega, ?_, ?_, fun y hy => ?_⟩
   ·rw [allB, List.take_add, h3, i2]
   ·rw [← List.drop_drop, List.length_cons, show k + ((recsF g f (k + 1) (b.drop (recL x.length))).length + 1) = k + 1 + (recsF g f (k + 1) (b.drop (recL x.length))).length by omega]
    exact i3
   ·rcases List.mem_cons.1 hy with rfl | hy
    ·exact ⟨h1, h5⟩
    ·have := i4 y hy; exact ⟨this.1, by omega⟩
def begF (h : By) : UInt64 := if 0 < (rd8 (h.drop 1)).toNat ∧ h.take 64 = headB (rd8 (h.drop 1)) then rd8 (h.drop 1) else 0
theorem begF_head {g : UInt64} {t : By} (h : 0 < g.toNat) : begF (headB g ++ t) = g := by
 obtain ⟨z, hz⟩ : ∃ z, headB g = 72 :: (num8 g ++ z) := ⟨_, by simp only [headB, pad64, List.cons_append, List.append_assoc]; rfl⟩
 have e : rd8 ((headB g ++ t).drop 1) = g := by
  rw [hz, List.cons_append, List.drop_succ_cons, List.drop_zero, List.append_assoc]
  exact rd8_num8 _ _
 unfold begF
 rw [e, if_pos ⟨h, List.take_left' (length_headB g)⟩]
theorem begF_is {h : By} {g : UInt64} (hb : begF h = g) (h0 : 0 < g.toNat) : h.take 64 = headB g := by
 unfold begF at hb
 split at hb
 ·rename_i h1
  rw [← hb]
  exact h1.2
 ·rw [← hb] at h0; exact absurd h0 (by decide)
def halfB (b : By) (n k : Nat) : By := (b.drop (k * n)).take n
def pickF (b : By) (n : Nat) : Nat × UInt64 := if begF (halfB b n 0) < begF (halfB b n 1) then (1, begF (halfB b n 1)) else (0, begF (halfB b n 0))
def readF (b : By) : UInt64 × List By × Nat :=
 if b.length % 64 ≠ 0 ∨ b.length < 512 then (0, [], 1) else
 if (pickF b (b.length / 64 / 2 * 64)).2 = 0 then (0, [], 0) else
 ((pickF b (b.length / 64 / 2 * 64)).2, recs (pickF b (b.length / 64 / 2 * 64)).2 (halfB b (b.length / 64 / 2 * 64) (pickF b (b.length / 64 / 2 * 64)).1), 0)
end JR
end Go.Proofs.Ytnaoafogdplnaaa

namespace Go.Proofs.Ytnaoafogdplnaaa
open Go Go.RowKit K SH
theorem ret3 {P : Program} {R : Value → World → Prop} {r : Fr} {w : World} {t u s : Nat} {v v' v'' : Value} (ht : r t = v) (hu : r u = v') (hs : r s = v'') (h : R (.tuple #[v, v', v'']) w) : bodyQ P [.tmp t, .tmp u, .tmp s] R .ret r w :=
 ⟨[v, v', v''], ⟨ht, hu, hs, trivial⟩, h⟩
section
variable {m : Mem} {wI : World}
theorem c_same17 {av bv : Value} {a b : List UInt8} (him : Im m wI) (ha : SlM m av 1 a.length (bs a)) (hb : SlM m bv 1 b.length (bs b)) :
  Ret Try.prog 27 #[av, bv] wI fun v w' => Tch wI w' [] [] ∧ v = .bool (decide (a = b)) := by
 refine ret_of Try.call27 Try.func27 rfl Try.ntmps27 Try.results27 rfl ?_
 refine wc_seq ?_
 refine wc_region ?_
 refine wl_val (v_assign' (by conv => (lhs; whnf))) rfl ?_
 refine wl_nil ?_
 refine then_go ?_
 refine wc_seq ?_
 refine wc_region ?_
 refine wl_val (v_move' (by conv => (lhs; whnf))) rfl ?_
 refine wl_val (v_b2s Try.underlying30 Try.underlying5 Try.underlying9 him ha rfl) rfl ?_
 refine wl_val (v_move' (by conv => (lhs; whnf))) rfl ?_
 refine wl_val (v_b2s Try.underlying30 Try.underlying5 Try.underlying9 him hb rfl) rfl ?_
 refine wl_val (v_eqs rfl rfl) rfl ?_
 refine wl_val (v_assign' (by conv => (lhs; whnf))) rfl ?_
 refine wl_nil ?_
 refine then_go ?_
 refine wc_ret ?_
 exact ret1 rfl ⟨Tch.refl _ _, rfl⟩
theorem c_sametexts {av bv : Value} {A B : List (List UInt8 × Value)} (him : Im m wI) (ha : PcsM m av A) (hb : PcsM m bv B) (hAB : A.map (·.1) = B.map (·.1)) (hA : A.length ≤ 1000000000) :
  Ret Try.prog 41 #[av, bv] wI fun v w' => Tch wI w' [] [] ∧ v = .bool true := by
 have st := St.start him
 have hlen : A.length = B.length := by have := congrArg List.length hAB; simpa using this
 obtain ⟨na, nc, hlv⟩ : ∃ a c, av = .slice a A.length c := by obtain ⟨⟨_, a, c, h, _⟩, _⟩ := ha; exact ⟨a, c, h⟩
 obtain ⟨nb, nd, hlb⟩ : ∃ a c, bv = .slice a B.length c := by obtain ⟨⟨_, a, c, h, _⟩, _⟩ := hb; exact ⟨a, c, h⟩
 subst hlv hlb
 refine ret_of Try.call41 Try.func41 rfl Try.ntmps41 Try.results41 rfl ?_
 refine wc_seq ?_
 refine wc_region ?_
 refine wl_val (v_assign' (by conv => (lhs; whnf))) rfl ?_
 refine wl_nil ?_
 refine then_go ?_
 refine wc_seq ?_
 refine wc_seq ?_
 refine wc_region ?_
 refine wl_val (v_move' (by conv => (lhs; whnf))) rfl ?_
 refine wl_val (v_len_s Try.underlying29 rfl) rfl ?_
 refine wl_val (v_move' (by conv => (lhs; whnf))) rfl ?_
 refine wl_val (v_len_s Try.underlying29 rfl) rfl ?_
 refine wl_val (v_neqF (a := (A.length : Int)) (b := (B.length : Int)) (by omega) rfl rfl) rfl ?_
 refine wl_nil ?_
 refine then_go ?_
 refine wc_false rfl ?_
 refine wc_skip ?_
 refine then_go ?_
 refine wc_seq ?_
 refine wc_seq ?_
 refine wc_region ?_
 refine wl_val (v_assign' (by conv => (lhs; whnf))) rfl ?_
 refine wl_nil ?_
 refine then_go ?_
 refine wc_block ?_
 refine wc_loop (S := Nat) (fun q r w' => ∃ (i : Nat), q + i = A.length ∧ r 0 = .slice na A.length nc ∧ r 1 = .slice nb B.length nd ∧ r 5 = .int .i64 i ∧ St m m [] wI w' []) id A.length ⟨0, by omega, rfl, rfl, rfl, st⟩ ?_
 clear st
 rintro q r w2 ⟨i, hqi, g0, g1, g5, st⟩
 refine wc_o 0 g0 (wc_o 1 g1 (wc_o 5 g5 ?_))
 refine wc_seq ?_
 refine wc_seq ?_
 refine wc_region ?_
 refine wl_val (v_move' (by conv => (lhs; whnf))) rfl ?_
 refine wl_val (v_move' (by conv => (lhs; whnf))) rfl ?_
 refine wl_val (v_len_s Try.underlying29 rfl) rfl ?_
 refine wl_val (v_lss rfl rfl) rfl ?_
 refine wl_nil ?_
 refine then_go ?_
 refine wc_if rfl (fun h14 => ?_) (fun h14 => ?_)
 ·refine wc_skip ?_
  refine then_go ?_
  refine wc_seq ?_
  refine wc_block ?_
  refine wc_seq ?_
  have hi : i < A.length := by omega
  have hj : i < B.length := by omega
  obtain ⟨ab, ao, _, hav, hs0, hra⟩ := ha.elem hi
  obtain ⟨bb, bo, _, hbv, hs1, hrb⟩ := hb.elem hj
  cases hav
  cases hbv
  have heq : A[i].1 = B[i].1 := by
   have := congrArg (fun l => l[i]?) hAB
   simpa [hi, hj] using this
  refine wc_draw TF.mixed ?_
  have st := st.pure (touch_drew _)
  refine fl_val 0 rfl (fun _ => (v_move' (by conv => (lhs; whnf)))) rfl (by kernel_rfl) ?_
  refine fl_val 1 rfl (fun _ => (v_move' (by conv => (lhs; whnf)))) rfl (by kernel_rfl) ?_
  refine fl_val 2 rfl (fun _ => (v_ias i Try.underlying29 TF.t30 rfl rfl (by first | rfl | omega) (by first | omega | (dsimp only at *; omega)))) rfl (by kernel_rfl) ?_
  refine fl_ld 3 rfl (v_load rfl (hra st.im)) (by kernel_rfl) ?_
  refine fl_val 4 rfl (fun _ => (v_move' (by conv => (lhs; whnf)))) rfl (by kernel_rfl) ?_
  refine fl_val 5 rfl (fun _ => (v_move' (by conv => (lhs; whnf)))) rfl (by kernel_rfl) ?_
  refine fl_val 6 rfl (fun _ => (v_ias i Try.underlying29 TF.t30 rfl rfl (by first | rfl | omega) (by first | omega | (dsimp only at *; omega)))) rfl (by kernel_rfl) ?_
  refine fl_ld 7 rfl (v_load rfl (hrb st.im)) (by kernel_rfl) ?_
  refine fl_eff1 8 [6, 5, 4, 2, 1, 0] [] (by kernel_rfl) ⟨obl_ld rfl rfl rfl (v_load rfl (hrb st.im)), obl_ld rfl rfl rfl (v_load rfl (hra st.im)), trivial⟩ rfl ?_
  refine wl_call rfl (c_same17 st.im hs0 hs1) rfl ?_
  rintro v25 w ⟨t25, rfl⟩
  have st := st.pure t25
  refine wl_nil ⟨rfl, ?_⟩
  refine fl_val 9 rfl (fun _ => (v_not rfl)) rfl (by kernel_rfl) ?_
  refine fl_nil (by kernel_rfl) trivial ?_
  refine then_go ?_
  refine wc_false (by rw [heq]; simp; rfl) ?_
  refine wc_skip ?_
  refine block_go (then_go ?_)
  refine wc_region ?_
  refine wl_val (v_move' (by conv => (lhs; whnf))) rfl ?_
  refine wl_val (v_add' (c := ((i + 1 : Nat) : Int)) rfl rfl (by omega) (by omega) (by omega)) rfl ?_
  refine wl_val (v_assign' (by conv => (lhs; whnf))) rfl ?_
  refine wl_nil ?_
  refine then_go ?_
  exact ⟨q - 1, by simp; omega, i + 1, by omega, rfl, rfl, rfl, st⟩
 ·refine wc_exit (then_exit (then_exit (block_hit ?_)))
  refine then_go ?_
  refine wc_seq ?_
  refine wc_region ?_
  refine wl_val (v_assign' (by conv => (lhs; whnf))) rfl ?_
  refine wl_nil ?_
  refine then_go ?_
  refine wc_ret ?_
  exact ret1 rfl ⟨st.touch, rfl⟩
theorem c_bclone {v : Value} {l : List UInt8} (him : Im m wI) (hv : SlM m v 1 l.length (bs l)) (hL : l.length ≤ 1099511627776) :
  Ret Try.prog 40 #[v] wI fun v' w' => Out m wI w' fun m' => SlM m' v' 1 l.length (bs l) := by
 have st := St.start him
 obtain ⟨_, a, cap, rfl, _⟩ := id hv
 refine ret_of Try.call40 Try.func40 rfl Try.ntmps40 Try.results40 rfl ?_
 refine wc_seq ?_
 refine wc_region ?_
 refine wl_val (v_assign' (by conv => (lhs; whnf))) rfl ?_
 refine wl_nil ?_
 refine then_go ?_
 refine wc_seq ?_
 refine wc_seq ?_
 refine wc_region ?_
 refine wl_val (v_move' (by conv => (lhs; whnf))) rfl ?_
 refine wl_val (v_eq_nilS Try.underlying30 rfl rfl) rfl ?_
 refine wl_nil ?_
 refine then_go ?_
 refine wc_cond rfl (fun h4 => ?_) (fun h4 => ?_)
 ·refine wc_seq ?_
  refine wc_region ?_
  refine wl_val (v_assign' (by conv => (lhs; whnf))) rfl ?_
  refine wl_nil ?_
  refine then_go ?_
  refine wc_ret (then_ret ?_)
  have hL0 : l = [] := by
   obtain ⟨_, a', c', he, hk, hn, _⟩ := hv
   cases he
   have := hn (by simpa using h4)
   exact List.eq_nil_of_length_eq_zero (by omega)
  subst hL0
  exact ret1 rfl (st.out SlM.nil)
 ·refine wc_skip ?_
  refine then_go ?_
  refine wc_seq ?_
  refine wc_region ?_
  refine wl_buildSlice0 (size := 1) Try.underlying30 TF.t5 st rfl ?_
  intro v5 w st
  have st : St m m [] wI w [rowE v5 5 1 ([] : List UInt8).length (bs [])] := st
  refine wl_val (v_move' (by conv => (lhs; whnf))) rfl ?_
  refine wl_appB (l2 := l) st Try.underlying30 Try.underlying30 (.inr ⟨_, rfl⟩) TF.t5 TF.z5 rfl rfl (hv.src st.im (one_bs _)) (by simp; omega) (by simp; omega) rfl ?_
  intro v7 w st hv7
  refine wl_val (v_assign' (by conv => (lhs; whnf))) rfl ?_
  refine wl_nil ?_
  refine then_go ?_
  refine wc_ret ?_
  exact ret1 rfl st.bytesOut
theorem c_bequal {av bv : Value} {a b : List UInt8} (him : Im m wI) (ha : SlM m av 1 a.length (bs a)) (hb : SlM m bv 1 b.length (bs b)) :
  Ret Try.prog 70 #[av, bv] wI fun v w' => Tch wI w' [] [] ∧ v = .bool (decide (a = b)) := by
 have st := St.start him
 refine ret_of Try.call70 Try.func70 rfl Try.ntmps70 Try.results70 rfl ?_
 refine wc_seq ?_
 refine wc_region ?_
 refine wl_val (v_assign' (by conv => (lhs; whnf))) rfl ?_
 refine wl_nil ?_
 refine then_go ?_
 refine wc_seq ?_
 refine wc_region ?_
 refine wl_val (v_move' (by conv => (lhs; whnf))) rfl ?_
 refine wl_val (v_b2s Try.underlying30 Try.underlying5 Try.underlying9 st.im ha rfl) rfl ?_
 refine wl_val (v_move' (by conv => (lhs; whnf))) rfl ?_
 refine wl_val (v_b2s Try.underlying30 Try.underlying5 Try.underlying9 st.im hb rfl) rfl ?_
 refine wl_val (v_eqs rfl rfl) rfl ?_
 refine wl_val (v_assign' (by conv => (lhs; whnf))) rfl ?_
 refine wl_nil ?_
 refine then_go ?_
 refine wc_ret ?_
 exact ret1 rfl ⟨st.touch, rfl⟩
end
end Go.Proofs.Ytnaoafogdplnaaa

namespace Go.Proofs.Ytnaoafogdplnaaa
open Go Go.RowKit K
def New (w0 : World) (v : Value) : Prop := ∀ k, v.ownBlock = some k → w0.heap.size ≤ k
theorem New.nil {w0 : World} : New w0 (.slice none 0 0) := fun k h => by simp [Value.ownBlock] at h
theorem New.of {w0 : World} {b : Nat} {n c : Nat} (h : w0.heap.size ≤ b) : New w0 (.slice (some ⟨b, 0, none⟩) n c) := fun k hk => by
 simp only [Value.ownBlock, Option.some.injEq] at hk
 omega
section
variable {m0 m : Mem} {F : List Nat} {w0 w w' : World} {Es : List Ent}
theorem row_sl {v : Value} {e size n : Nat} {xs : List Value} (h : (rowE v e size n xs).holds w) : ∃ a c, v = .slice a n c := by
 rcases h.2 with ⟨rfl, rfl⟩ | ⟨g, cap, cur, rfl, _⟩ <;> exact ⟨_, _, rfl⟩
theorem K.St.keepN (st : St m0 m F w0 w Es) {i : Nat} {v : Value} {E size : Nat} {k : Nat} {xs : List Value} (hi : Es[i]? = some (rowE v E size k xs)) (hF : ∀ k ∈ F, k < w0.heap.size) (hN : New w0 v) :
  ∃ m', Grow m m' w0.heap.size ∧ SlM m' v size k xs ∧ St m0 m' F w0 w (Es.eraseIdx i) := by
 obtain ⟨m2, hg2, hm2, st2⟩ := st.freezeR hi (fun b hb he => by have := hN b he; have := hF b hb; omega)
 exact ⟨m2, hg2, row_SlM (m := m2) (st.at hi) hm2, st2⟩
end
end Go.Proofs.Ytnaoafogdplnaaa

namespace Go.Proofs.Ytnaoafogdplnaaa
open Go Go.RowKit K SH DK JR
section
variable {P : Program} {r : Fr} {w : World} {ty T U : TypeId} {x y : Operand} {p q : UInt64}
theorem bv64 (a : UInt64) : BitVec.ofInt 64 (a.toNat : Int) = a.toBitVec := by
 apply BitVec.eq_of_toNat_eq
 rw [BitVec.ofInt_natCast, BitVec.toNat_ofNat, Nat.mod_eq_of_lt a.toNat_lt]
 rfl
theorem v_or64 (hx : ev r x = u64 p) (hy : ev r y = u64 q) : Val P (.binOp .or T x y U) ty r w (u64 (p ||| q)) w := by
 have h := v_or (P := P) (w := w) (ty := ty) (T := T) (U := U) hx hy
 rw [show IntKind.u64.bits = 64 from rfl, bv64, bv64, wrap_u64] at h
 rw [show p ||| q = UInt64.ofNat (p.toBitVec ||| q.toBitVec).toNat by
  apply UInt64.toNat_inj.mp
  rw [UInt64.toNat_ofNat', Nat.mod_eq_of_lt (p.toBitVec ||| q.toBitVec).isLt]
  rfl]
 exact h
theorem v_lss64 (hx : ev r x = u64 p) (hy : ev r y = u64 q) : Val P (.binOp .lss T x y U) ty r w (.bool (decide (p.toNat < q.toNat))) w := wl_valD (v_lss hx hy) (by simp)
theorem v_gtr64 (hx : ev r x = u64 p) (hy : ev r y = u64 q) : Val P (.binOp .gtr T x y U) ty r w (.bool (decide (q.toNat < p.toNat))) w := wl_valD (v_gtr hx hy) (by simp)
theorem v_eql64 (hx : ev r x = u64 p) (hy : ev r y = u64 q) : Val P (.binOp .eql T x y U) ty r w (.bool (decide (p = q))) w := wl_valD (v_eql hx hy) (by rw [decide_eq_decide, ← UInt64.toNat_inj]; omega)
theorem v_conv64i {D : TypeDesc} (hT : P.underlying T = some D) (hU : P.underlying U = some (.int .i64)) (hx : ev r x = u64 p) (hp : p.toNat < 9223372036854775808) : Val P (.convert T U x) ty r w (.int .i64 p.toNat) w := by
 have h := v_conv (P := P) (w := w) (ty := ty) hT hU hx
 rwa [wrap_i64 (by omega) (by omega)] at h
end
theorem shl_or (p : UInt64) (c : UInt8) : shl64 p 8 ||| UInt64.ofNat c.toNat = p * 256 + UInt64.ofNat c.toNat := by
 rw [← UInt64.toNat_inj, UInt64.toNat_or, UInt64.toNat_add, UInt64.toNat_mul]
 unfold shl64
 rw [UInt64.toNat_ofNat', UInt64.toNat_ofNat']
 have hc : c.toNat < 256 := c.toNat_lt
 have e : p.toNat * 2 ^ 8 % 2 ^ 64 = (p.toNat % 2 ^ 56) <<< 8 := by
  rw [Nat.shiftLeft_eq]
  omega
 have hc2 : c.toNat % 2 ^ 64 = c.toNat := by omega
 rw [e, hc2, ← Nat.shiftLeft_add_eq_or_of_lt (by omega : c.toNat < 2 ^ 8), Nat.shiftLeft_eq]
 rw [show (256 : UInt64).toNat = 256 from rfl]
 omega
abbrev byE (v : Value) (l : List UInt8) : Ent := rowE v 5 1 l.length (bs l)
theorem byE_SlM {m0 m : Mem} {F : List Nat} {w0 w : World} {Es : List Ent} {v : Value} {l : List UInt8} (st : St m0 m F w0 w Es) (i : Nat) (hi : Es[i]? = some (byE v l)) : SlM (heapM w) v 1 l.length (bs l) := row_SlM (m := heapM w) (st.at hi) (fun _ _ _ h => h)
theorem byE_one {m0 m : Mem} {F : List Nat} {w0 w : World} {Es : List Ent} {v : Value} {l : List UInt8} (st : St m0 m F w0 w Es) (i : Nat) (hi : Es[i]? = some (byE v l)) : v.oneCell' = true := SlM.one1 (byE_SlM st i hi)
section
variable {m0 m : Mem} {F : List Nat} {w0 w : World} {Es : List Ent}
theorem c_jnumber {n : UInt64} (st : St m0 m F w0 w Es) : Ret Try.prog 52 #[u64 n] w fun v w' => St m0 m F w0 w' (byE v (num8 n) :: Es) := by
 refine ret_of Try.call52 Try.func52 rfl Try.ntmps52 Try.results52 rfl ?_
 refine wc_seq ?_
 refine wc_region ?_
 refine wl_val (v_assign' (by conv => (lhs; whnf))) rfl ?_
 refine wl_nil ?_
 refine then_go ?_
 refine wc_seq ?_
 refine wc_region ?_
 refine wl_make (l := 8) (c := 8) Try.underlying30 TF.t5 TF.z5 rfl rfl rfl rfl (by omega) (by omega) (by omega) (by omega) st rfl ?_
 intro b5 w st
 have st : St m0 m F w0 w (K.blk b5 (bs ((num8 n).take 0) ++ List.replicate (8 - 0) (u8 0)).toArray 5 :: Es) := by
  have e : madeCells (Value.int .u8 0).cells (8 * 1) = (List.replicate 8 (u8 0)).toArray := by
   rw [show (Value.int .u8 0).cells = Array.replicate (0 + 1) (Value.int .u8 0) from rfl, madeCells_rep]
   rfl
  rw [e] at st
  exact st
 refine wl_val (v_assign' (by conv => (lhs; whnf))) rfl ?_
 refine wl_nil ?_
 refine then_go ?_
 refine wc_seq ?_
 refine wc_seq ?_
 refine wc_region ?_
 refine wl_val (v_move' (by conv => (lhs; whnf))) rfl ?_
 refine wl_val (v_len_s Try.underlying30 rfl) rfl ?_
 refine wl_val (v_move' (by conv => (lhs; whnf))) rfl ?_
 refine wl_nil ?_
 refine then_go ?_
 refine wc_block ?_
 refine wc_loop (S := Nat) (fun q r w' => ∃ i, q + i = 8 ∧ r 0 = u64 n ∧ r 3 = .slice (some ⟨b5, 0, none⟩) 8 8 ∧ r 7 = .int .i64 8 ∧ r 8 = .int .i64 i ∧ St m0 m F w0 w' (K.blk b5 (bs ((num8 n).take i) ++ List.replicate (8 - i) (u8 0)).toArray 5 :: Es)) id 8 ⟨0, rfl, rfl, rfl, rfl, rfl, st⟩ ?_
 clear st
 rintro q r w2 ⟨i, hqi, h0, h3, h7, h8, st⟩
 refine wc_o 0 h0 (wc_o 3 h3 (wc_o 7 h7 (wc_o 8 h8 ?_)))
 refine wc_seq ?_
 refine wc_region ?_
 refine wl_val (v_lss rfl rfl) rfl ?_
 refine wl_nil ?_
 refine then_go ?_
 refine wc_seq ?_
 refine wc_if rfl (fun h9 => ?_) (fun h9 => ?_)
 ·refine wc_skip ?_
  refine then_go ?_
  refine wc_seq ?_
  refine wc_block ?_
  refine wc_seq ?_
  refine wc_region ?_
  refine wl_val (v_move' (by conv => (lhs; whnf))) rfl ?_
  refine wl_val (v_assign' (by conv => (lhs; whnf))) rfl ?_
  refine wl_nil ?_
  refine then_go ?_
  have hi : i < 8 := by omega
  have hni : i < (num8 n).length := by rw [length_num8]; exact hi
  have hb : UInt8.ofNat (shr64 n (56 - 8 * i)).toNat = (num8 n)[i] := by
   unfold shr64
   rw [UInt64.toNat_ofNat', Nat.mod_eq_of_lt (Nat.lt_of_le_of_lt (Nat.div_le_self _ _) n.toNat_lt)]
   simp [num8]
  refine wc_region ?_
  refine wl_val (v_move' (by conv => (lhs; whnf))) rfl ?_
  refine wl_val (v_move' (by conv => (lhs; whnf))) rfl ?_
  refine wl_val (v_move' (by conv => (lhs; whnf))) rfl ?_
  refine wl_val (v_move' (by conv => (lhs; whnf))) rfl ?_
  refine wl_val (v_mul' (c := ((8 * i : Nat) : Int)) rfl rfl (by omega) (by omega) (by omega)) rfl ?_
  refine wl_val (v_sub' (c := ((56 - 8 * i : Nat) : Int)) rfl rfl (by omega) (by omega) (by omega)) rfl ?_
  refine wl_val (v_shr64 (p := n) (56 - 8 * i) rfl rfl (by omega)) rfl ?_
  refine wl_val (v_conv64_8 Try.underlying42 Try.underlying5 rfl) rfl ?_
  refine wl_val (v_ias i Try.underlying30 TF.t5 rfl rfl (by first | rfl | omega) (by first | omega | (dsimp only at *; omega))) rfl ?_
  refine wl_store1 (off := 0 + i * 1) 0 st rfl TF.t5 rfl (by conv => (lhs; whnf)) rfl (by simp [length_bs, length_num8]; omega) ?_
  intro w st
  refine wl_nil ?_
  refine block_go (then_go ?_)
  refine wc_region ?_
  refine wl_val (v_add' rfl rfl rfl (by first | omega | (dsimp only at *; omega)) (by first | omega | (dsimp only at *; omega))) rfl ?_
  refine wl_val (v_move' (by conv => (lhs; whnf))) rfl ?_
  refine wl_nil ?_
  refine then_go ?_
  refine ⟨q - 1, by simp; omega, i + 1, by omega, rfl, rfl, rfl, rfl, ?_⟩
  rw [show 8 - i = (8 - (i + 1)) + 1 by omega, List.replicate_succ] at st
  change St _ _ _ _ _ (K.blk b5 (((bs ((num8 n).take i) ++ u8 0 :: List.replicate (8 - (i + 1)) (u8 0)).toArray).setIfInBounds (0 + i * 1) (u8 _)) _ :: Es) at st
  rw [set_app (by rw [length_bs, List.length_take, length_num8]; omega), hb] at st
  rw [List.take_succ_eq_append_getElem hni, bs, List.map_append]
  simpa [bs] using st
 ·refine wc_exit (then_exit (then_exit (block_hit ?_)))
  refine then_go ?_
  refine wc_seq ?_
  refine wc_region ?_
  refine wl_val (v_move' (by conv => (lhs; whnf))) rfl ?_
  refine wl_val (v_assign' (by conv => (lhs; whnf))) rfl ?_
  refine wl_nil ?_
  refine then_go ?_
  refine wc_ret ?_
  have hi8 : i = 8 := by omega
  subst hi8
  rw [List.take_of_length_le (by rw [length_num8]; omega)] at st
  exact ret1 rfl (st.rowShut 0 (b := b5) (k := 8) (cap := 8) (size := 1) (xs := bs (num8 n)) rfl (by omega) (by simp [length_bs, length_num8]) (by omega) (by simp [← length_num8 n, ← length_bs (num8 n)]))
theorem c_whole {v : Value} {l : By} (st : St m0 m F w0 w (byE v l :: Es)) (hl : l.length ≤ 1099511627776) : Ret Try.prog 53 #[v] w fun v' w' => St m0 m F w0 w' (byE v' (pad64 l) :: Es) := by
 refine ret_of Try.call53 Try.func53 rfl Try.ntmps53 Try.results53 rfl ?_
 refine wc_seq ?_
 refine wc_region ?_
 refine wl_val (v_assign' (by conv => (lhs; whnf))) rfl ?_
 refine wl_nil ?_
 refine then_go ?_
 refine wc_seq ?_
 refine wc_block ?_
 refine wc_loop (S := Nat) (fun q r w' => ∃ (i : Nat) (v : Value), q + i = (64 - l.length % 64) % 64 ∧ r 0 = v ∧ St m0 m F w0 w' (byE v (l ++ List.replicate i 0) :: Es)) id ((64 - l.length % 64) % 64) ⟨0, v, by omega, rfl, by simpa using st⟩ ?_
 clear st
 rintro q r w2 ⟨i, v, hqi, h0, st⟩
 obtain ⟨va, vc, hv⟩ := row_sl (st.at (i := 0) rfl)
 subst hv
 refine wc_o 0 h0 ?_
 have hll : (l ++ List.replicate i (0 : UInt8)).length = l.length + i := by simp
 refine wc_seq ?_
 refine wc_seq ?_
 refine wc_region ?_
 refine wl_val (v_move' (by conv => (lhs; whnf))) rfl ?_
 refine wl_val (v_len_s Try.underlying30 rfl) rfl ?_
 refine wl_val (v_rem' (c := (((l.length + i) % 64 : Nat) : Int)) rfl rfl (by omega) (by omega) (by rw [hll]; omega)) rfl ?_
 refine wl_val (v_neq rfl rfl) rfl ?_
 refine wl_nil ?_
 refine then_go ?_
 refine wc_if rfl (fun h6 => ?_) (fun h6 => ?_)
 ·refine wc_skip ?_
  refine then_go ?_
  refine wc_block ?_
  refine wc_region ?_
  refine wl_val (v_move' (by conv => (lhs; whnf))) rfl ?_
  refine wl_byte1 0 Try.underlying30 TF.t5 TF.z5 rfl st rfl ?_
  intro b8 w st
  refine wl_app1 st Try.underlying30 TF.t5 TF.z5 rfl rfl (by omega) (by omega) rfl ?_
  intro v9 w st hv9
  have e9 : l ++ List.replicate i (0 : UInt8) ++ [0] = l ++ List.replicate (i + 1) 0 := by rw [List.append_assoc, List.replicate_succ']
  rw [e9] at st
  refine wl_val (v_assign' (by conv => (lhs; whnf))) rfl ?_
  refine wl_nil ?_
  refine block_go (then_go ?_)
  exact ⟨q - 1, by simp; omega, i + 1, v9, by omega, rfl, st⟩
 ·refine wc_exit (then_exit (then_exit (block_hit ?_)))
  refine then_go ?_
  refine wc_seq ?_
  refine wc_region ?_
  refine wl_val (v_move' (by conv => (lhs; whnf))) rfl ?_
  refine wl_val (v_assign' (by conv => (lhs; whnf))) rfl ?_
  refine wl_nil ?_
  refine then_go ?_
  refine wc_ret ?_
  have hi : i = (64 - l.length % 64) % 64 := by omega
  subst hi
  exact ret1 rfl st
theorem c_cdigest {v : Value} {l d : By} (st : St m0 m F w0 w (byE v l :: Es)) (hd : d.length = 32) (hl : l.length ≤ 1099511627776) : Ret Try.prog 54 #[v, arr d] w fun v' w' => St m0 m F w0 w' (byE v' (l ++ d) :: Es) := by
 refine ret_of Try.call54 Try.func54 rfl Try.ntmps54 Try.results54 rfl ?_
 refine wc_seq ?_
 refine wc_region ?_
 refine wl_box (v := arr d) rfl st rfl ?_
 intro b3 w st
 refine wl_val (v_assign' (by conv => (lhs; whnf))) rfl ?_
 refine wl_nil ?_
 refine then_go ?_
 refine wc_seq ?_
 refine wc_region ?_
 refine wl_val (v_move' (by conv => (lhs; whnf))) rfl ?_
 refine wl_val (v_sla 0 32 Try.underlying87 TF.t5 rfl rfl rfl (by omega) (by omega) (by omega)) rfl ?_
 refine wl_appBi (l2 := d) 1 st rfl Try.underlying30 Try.underlying30 (.inr ⟨_, rfl⟩) TF.t5 TF.z5 rfl rfl (st.srcArr (off := 0) (k := 32) 0 rfl (by rw [length_bs, hd]) (fun j u hj => by simpa [arr, Value.cells] using hj) (one_bs _)) (by omega) (by omega) rfl ?_
 intro v7 w st hv7
 refine wl_val (v_assign' (by conv => (lhs; whnf))) rfl ?_
 refine wl_nil ?_
 refine then_go ?_
 refine wc_ret ?_
 exact ret1 rfl (st.drop 0)
theorem c_jhead {g : UInt64} (st : St m0 m F w0 w Es) : Ret Try.prog 28 #[u64 g] w fun v w' => St m0 m F w0 w' (byE v (headB g) :: Es) := by
 have h8 := length_num8 g
 refine ret_of Try.call28 Try.func28 rfl Try.ntmps28 Try.results28 rfl ?_
 refine wc_seq ?_
 refine wc_region ?_
 refine wl_val (v_assign' (by conv => (lhs; whnf))) rfl ?_
 refine wl_nil ?_
 refine then_go ?_
 refine wc_seq ?_
 refine wc_region ?_
 refine wl_byteR 72 Try.underlying30 TF.t5 TF.z5 rfl st rfl ?_
 intro b4 w st
 refine wl_val (v_move' (by conv => (lhs; whnf))) rfl ?_
 refine wl_call rfl (c_jnumber st) rfl ?_
 intro v6 w st
 refine wl_appBi (l2 := num8 g) 1 st rfl Try.underlying30 Try.underlying30 (.inr ⟨_, rfl⟩) TF.t5 TF.z5 rfl rfl ((byE_SlM st 0 rfl).src (im_heapM _) (one_bs _)) (by simp; omega) (by simp; omega) rfl ?_
 intro v7 w st hv7
 have st : St m0 m F w0 w (byE v7 (72 :: num8 g) :: Es) := st.drop 0
 refine wl_val (v_assign' (by conv => (lhs; whnf))) rfl ?_
 refine wl_nil ?_
 refine then_go ?_
 refine wc_seq ?_
 refine wc_region ?_
 refine wl_val (v_move' (by conv => (lhs; whnf))) rfl ?_
 refine wl_val (v_move' (by conv => (lhs; whnf))) rfl ?_
 refine wl_call rfl (c_tagsof (im_heapM _) (byE_SlM st 0 rfl) (by simp; omega)) rfl ?_
 rintro v10 w ⟨t10, rfl⟩
 have st := st.pure t10
 refine wl_call rfl (c_cdigest st (length_sum _) (by simp; omega)) rfl ?_
 intro v11 w st
 refine wl_call rfl (c_whole st (by simp [length_sum]; omega)) rfl ?_
 intro v12 w st
 refine wl_val (v_assign' (by conv => (lhs; whnf))) rfl ?_
 refine wl_nil ?_
 refine then_go ?_
 refine wc_ret ?_
 exact ret1 rfl st
theorem c_jtext {g s : UInt64} {v : Value} {b : By} (st : St m0 m F w0 w Es) (hb : SlM m v 1 b.length (bs b)) (hl : b.length ≤ 1000000000) : Ret Try.prog 32 #[u64 g, u64 s, v] w fun v' w' => St m0 m F w0 w' (byE v' (textB g s b) :: Es) := by
 have h8 := length_num8 g
 have h9 := length_num8 s
 refine ret_of Try.call32 Try.func32 rfl Try.ntmps32 Try.results32 rfl ?_
 refine wc_seq ?_
 refine wc_region ?_
 refine wl_val (v_assign' (by conv => (lhs; whnf))) rfl ?_
 refine wl_nil ?_
 refine then_go ?_
 refine wc_seq ?_
 refine wc_region ?_
 refine wl_byteR 74 Try.underlying30 TF.t5 TF.z5 rfl st rfl ?_
 intro b7 w st
 refine wl_val (v_move' (by conv => (lhs; whnf))) rfl ?_
 refine wl_call rfl (c_jnumber st) rfl ?_
 intro v9 w st
 refine wl_appBi (l2 := num8 g) 1 st rfl Try.underlying30 Try.underlying30 (.inr ⟨_, rfl⟩) TF.t5 TF.z5 rfl rfl ((byE_SlM st 0 rfl).src (im_heapM _) (one_bs _)) (by simp; omega) (by simp; omega) rfl ?_
 intro v10 w st hv10
 have st : St m0 m F w0 w (byE v10 (74 :: num8 g) :: Es) := st.drop 0
 refine wl_val (v_move' (by conv => (lhs; whnf))) rfl ?_
 refine wl_call rfl (c_jnumber st) rfl ?_
 intro v12 w st
 refine wl_appBi (l2 := num8 s) 1 st rfl Try.underlying30 Try.underlying30 (.inr ⟨_, rfl⟩) TF.t5 TF.z5 rfl rfl ((byE_SlM st 0 rfl).src (im_heapM _) (one_bs _)) (by simp; omega) (by simp; omega) rfl ?_
 intro v13 w st hv13
 have st : St m0 m F w0 w (byE v13 (74 :: num8 g ++ num8 s) :: Es) := st.drop 0
 refine wl_val (v_move' (by conv => (lhs; whnf))) rfl ?_
 refine wl_appB (l2 := b) st Try.underlying30 Try.underlying30 (.inr ⟨_, rfl⟩) TF.t5 TF.z5 rfl rfl (hb.src st.im (one_bs _)) (by simp; omega) (by simp; omega) rfl ?_
 intro v15 w st hv15
 have e : 74 :: num8 g ++ num8 s ++ b = textB g s b := by simp [textB]
 rw [e] at st
 refine wl_val (v_assign' (by conv => (lhs; whnf))) rfl ?_
 refine wl_nil ?_
 refine then_go ?_
 refine wc_ret ?_
 exact ret1 rfl st
theorem c_jrecord {g s : UInt64} {v : Value} {b : By} (st : St m0 m F w0 w Es) (hb : SlM m v 1 b.length (bs b)) (hl : b.length ≤ 1000000000) : Ret Try.prog 30 #[u64 g, u64 s, v] w fun v' w' => St m0 m F w0 w' (byE v' (recB g s b) :: Es) := by
 have h8 := length_num8 g
 have h9 := length_num8 s
 obtain ⟨ba, bc, hbv⟩ : ∃ a c, v = .slice a b.length c := by obtain ⟨_, a, c, h, _⟩ := hb; exact ⟨a, c, h⟩
 subst hbv
 refine ret_of Try.call30 Try.func30 rfl Try.ntmps30 Try.results30 rfl ?_
 refine wc_seq ?_
 refine wc_region ?_
 refine wl_val (v_assign' (by conv => (lhs; whnf))) rfl ?_
 refine wl_nil ?_
 refine then_go ?_
 refine wc_seq ?_
 refine wc_region ?_
 refine wl_val (v_move' (by conv => (lhs; whnf))) rfl ?_
 refine wl_val (v_move' (by conv => (lhs; whnf))) rfl ?_
 refine wl_call rfl (c_jtext (b := []) st SlM.nil (by decide)) rfl ?_
 intro v10 w st
 have st : St m0 m F w0 w (byE v10 (74 :: (num8 g ++ (num8 s ++ []))) :: Es) := st
 refine wl_val (v_assign' (by conv => (lhs; whnf))) rfl ?_
 refine wl_nil ?_
 refine then_go ?_
 refine wc_seq ?_
 refine wc_region ?_
 refine wl_val (v_move' (by conv => (lhs; whnf))) rfl ?_
 refine wl_val (v_move' (by conv => (lhs; whnf))) rfl ?_
 refine wl_val (v_move' (by conv => (lhs; whnf))) rfl ?_
 refine wl_val (v_move' (by conv => (lhs; whnf))) rfl ?_
 refine wl_call rfl (c_jtext st hb hl) rfl ?_
 intro v15 w st
 refine wl_call rfl (c_tagsof (im_heapM _) (byE_SlM st 0 rfl) (by rw [length_textB]; omega)) rfl ?_
 rintro v16 w ⟨t16, rfl⟩
 have st := st.pure t16
 have st : St m0 m F w0 w (byE v10 (74 :: (num8 g ++ (num8 s ++ []))) :: Es) := st.drop 0
 refine wl_call rfl (c_cdigest st (length_sum _) (by simp; omega)) rfl ?_
 intro v17 w st
 refine wl_val (v_assign' (by conv => (lhs; whnf))) rfl ?_
 refine wl_nil ?_
 refine then_go ?_
 refine wc_seq ?_
 refine wc_region ?_
 refine wl_val (v_move' (by conv => (lhs; whnf))) rfl ?_
 refine wl_val (v_move' (by conv => (lhs; whnf))) rfl ?_
 refine wl_val (v_len_s Try.underlying30 rfl) rfl ?_
 refine wl_val (v_convi_64 Try.underlying3 Try.underlying42 rfl) rfl ?_
 refine wl_call rfl (c_jnumber st) rfl ?_
 intro v22 w st
 have h10 := length_num8 (UInt64.ofNat b.length)
 have hsl := length_sum (textB g s b)
 refine wl_appBi (l2 := num8 (UInt64.ofNat b.length)) 1 st rfl Try.underlying30 Try.underlying30 (.inr ⟨_, rfl⟩) TF.t5 TF.z5 rfl rfl ((byE_SlM st 0 rfl).src (im_heapM _) (one_bs _)) (by simp; omega) (by simp; omega) rfl ?_
 intro v23 w st hv23
 have st : St m0 m F w0 w (byE v23 _ :: Es) := st.drop 0
 refine wl_val (v_move' (by conv => (lhs; whnf))) rfl ?_
 refine wl_appB (l2 := b) st Try.underlying30 Try.underlying30 (.inr ⟨_, rfl⟩) TF.t5 TF.z5 rfl rfl (hb.src st.im (one_bs _)) (by simp; omega) (by simp; omega) rfl ?_
 intro v25 w st hv25
 refine wl_call rfl (c_whole st (by simp; omega)) rfl ?_
 intro v26 w st
 have e : pad64 (74 :: (num8 g ++ (num8 s ++ [])) ++ sum (textB g s b) ++ num8 (UInt64.ofNat b.length) ++ b) = recB g s b := by simp [recB]
 rw [e] at st
 refine wl_val (v_assign' (by conv => (lhs; whnf))) rfl ?_
 refine wl_nil ?_
 refine then_go ?_
 refine wc_ret ?_
 exact ret1 rfl st
theorem c_length {v : Value} {b : By} (him : Im m w) (hb : SlM m v 1 b.length (bs b)) (hl : 8 ≤ b.length) : Ret Try.prog 69 #[v] w fun v' w' => Tch w w' [] [] ∧ v' = u64 (rd8 b) := by
 have st := St.start him
 obtain ⟨b0, o0, cap, rfl, hcap⟩ := hb.ptr1 (by omega) (by decide)
 have hb8 := SlM.subB 0 8 hb (by omega) hl
 have hl8 : ((b.drop 0).take (8 - 0)).length = 8 := by simp; omega
 have hrd : rd8 b = ((b.drop 0).take (8 - 0)).foldl (fun n c => n * 256 + UInt64.ofNat c.toNat) 0 := rfl
 obtain ⟨b8, hb8e⟩ : ∃ b8, b8 = (b.drop 0).take (8 - 0) := ⟨_, rfl⟩
 rw [← hb8e] at hb8 hl8 hrd
 obtain ⟨b1, o1, c1, he, _⟩ := hb8.ptr1 (by omega) (by decide)
 rw [he] at hb8
 have hb8 : SlM m (.slice (some ⟨b1, o1, none⟩) 8 c1) 1 8 (bs b8) := hb8
 refine ret_of Try.call69 Try.func69 rfl Try.ntmps69 Try.results69 rfl ?_
 refine wc_seq ?_
 refine wc_region ?_
 refine wl_val (v_assign' (by conv => (lhs; whnf))) rfl ?_
 refine wl_nil ?_
 refine then_go ?_
 refine wc_seq ?_
 refine wc_region ?_
 refine wl_val (v_assign' (by conv => (lhs; whnf))) rfl ?_
 refine wl_nil ?_
 refine then_go ?_
 refine wc_seq ?_
 refine wc_seq ?_
 refine wc_region ?_
 refine wl_val (v_move' (by conv => (lhs; whnf))) rfl ?_
 refine wl_val (v_to (v' := .slice (some ⟨b1, o1, none⟩) 8 c1) (v_sls 0 8 Try.underlying30 TF.t5 rfl rfl ⟨_, _, rfl, rfl⟩ (by omega) (by omega)) he) rfl ?_
 refine wl_val (v_len_s Try.underlying30 rfl) rfl ?_
 refine wl_val (v_move' (by conv => (lhs; whnf))) rfl ?_
 refine wl_nil ?_
 refine then_go ?_
 refine wc_block ?_
 refine wc_loop (S := Nat) (fun q r w' => ∃ i, q + i = 8 ∧ r 3 = u64 ((b8.take i).foldl (fun n c => n * 256 + UInt64.ofNat c.toNat) 0) ∧ r 7 = .slice (some ⟨b1, o1, none⟩) 8 c1 ∧ r 8 = .int .i64 8 ∧ r 9 = .int .i64 i ∧ St m m [] w w' []) id 8 ⟨0, rfl, rfl, rfl, rfl, rfl, st⟩ ?_
 clear st
 rintro q r w2 ⟨i, hqi, h3, h7, h8, h9, st⟩
 refine wc_o 3 h3 (wc_o 7 h7 (wc_o 8 h8 (wc_o 9 h9 ?_)))
 refine wc_seq ?_
 refine wc_region ?_
 refine wl_val (v_lss rfl rfl) rfl ?_
 refine wl_nil ?_
 refine then_go ?_
 refine wc_seq ?_
 refine wc_if rfl (fun h10 => ?_) (fun h10 => ?_)
 ·refine wc_skip ?_
  refine then_go ?_
  refine wc_seq ?_
  refine wc_block ?_
  refine wc_seq ?_
  have hi : i < b8.length := by omega
  refine wc_region ?_
  refine wl_val (v_ias i Try.underlying30 TF.t5 rfl rfl (by first | rfl | omega) (by first | omega | (dsimp only at *; omega))) rfl ?_
  refine wl_val (v_load rfl (SlM.rdB TF.t5 i hb8 hi st.im)) rfl ?_
  refine wl_val (v_assign' (by conv => (lhs; whnf))) rfl ?_
  refine wl_nil ?_
  refine then_go ?_
  refine wc_region ?_
  refine wl_val (v_move' (by conv => (lhs; whnf))) rfl ?_
  refine wl_val (v_shl64 (p := (b8.take i).foldl (fun n c => n * 256 + UInt64.ofNat c.toNat) 0) 8 rfl rfl (by omega)) rfl ?_
  refine wl_val (v_move' (by conv => (lhs; whnf))) rfl ?_
  refine wl_val (v_convi_64 (n := b8[i].toNat) Try.underlying5 Try.underlying42 rfl) rfl ?_
  refine wl_val (v_or64 rfl rfl) rfl ?_
  refine wl_val (v_assign' (by conv => (lhs; whnf))) rfl ?_
  refine wl_nil ?_
  refine block_go (then_go ?_)
  refine wc_region ?_
  refine wl_val (v_add' rfl rfl rfl (by first | omega | (dsimp only at *; omega)) (by first | omega | (dsimp only at *; omega))) rfl ?_
  refine wl_val (v_move' (by conv => (lhs; whnf))) rfl ?_
  refine wl_nil ?_
  refine then_go ?_
  refine ⟨q - 1, by simp; omega, i + 1, by omega, ?_, rfl, rfl, rfl, st⟩
  rw [List.take_succ_eq_append_getElem hi, List.foldl_append, List.foldl_cons, List.foldl_nil, ← shl_or]
  rfl
 ·refine wc_exit (then_exit (then_exit (block_hit ?_)))
  refine then_go ?_
  refine wc_seq ?_
  refine wc_region ?_
  refine wl_val (v_move' (by conv => (lhs; whnf))) rfl ?_
  refine wl_val (v_assign' (by conv => (lhs; whnf))) rfl ?_
  refine wl_nil ?_
  refine then_go ?_
  refine wc_ret ?_
  have hi8 : i = 8 := by omega
  subst hi8
  have e8 : b8.take 8 = b8 := List.take_of_length_le (by omega)
  exact ret1 rfl ⟨st.touch, by rw [hrd, e8]; rfl⟩
end
end Go.Proofs.Ytnaoafogdplnaaa

namespace Go.Proofs.Ytnaoafogdplnaaa
open Go Go.RowKit K SH DK JR
theorem K.SlM.opn {m : Mem} {v : Value} {l : List UInt8} (h : SlM m v 1 l.length (bs l)) : ∃ a c, v = .slice a l.length c ∧ l.length ≤ c := by obtain ⟨_, a, c, h, hk, _⟩ := h; exact ⟨a, c, h, hk⟩
theorem K.SlM.tailB {m : Mem} {a : Option Addr} {cap : Nat} {l : List UInt8} (i : Nat) (hx : SlM m (.slice a l.length cap) 1 l.length (bs l)) (hi : i ≤ l.length) : SlM m (.slice (sliceOff a cap i 1) (l.length - i) (cap - i)) 1 (l.drop i).length (bs (l.drop i)) := by
 have h := SlM.subB i l.length hx hi (Nat.le_refl _)
 rw [List.take_of_length_le (by simp)] at h
 rw [List.length_drop]
 exact h
theorem K.SlM.partB {m : Mem} {a : Option Addr} {cap : Nat} {l : List UInt8} (i j : Nat) (hx : SlM m (.slice a l.length cap) 1 l.length (bs l)) (hij : i ≤ j) (hj : j ≤ l.length) : SlM m (.slice (sliceOff a cap i 1) (j - i) (cap - i)) 1 ((l.drop i).take (j - i)).length (bs ((l.drop i).take (j - i))) := by
 have h := SlM.subB i j hx hij hj
 rw [List.length_take, List.length_drop, Nat.min_eq_left (by omega)]
 exact h
section
variable {m : Mem} {w : World}
def NextOut (m : Mem) (v : Value) (o : Option By) : Prop := match o with
 | none => v = .tuple #[.slice none 0 0, .int .i64 0]
 | some x => ∃ xv, v = .tuple #[xv, .int .i64 (recL x.length : Nat)] ∧ SlM m xv 1 x.length (bs x)
theorem c_next {g s : UInt64} {v : Value} {b : By} (him : Im m w) (hb : SlM m v 1 b.length (bs b)) (hl : b.length ≤ 500000000) : Ret Try.prog 62 #[u64 g, u64 s, v] w fun v' w' => Out m w w' fun m' => NextOut m' v' (nextF g s b) := by
 have st := St.start him
 obtain ⟨ba, bc, rfl, hbc⟩ := hb.opn
 refine ret_of Try.call62 Try.func62 rfl Try.ntmps62 Try.results62 rfl ?_
 refine wc_seq ?_
 refine wc_region ?_
 refine wl_val (v_assign' (by conv => (lhs; whnf))) rfl ?_
 refine wl_val (v_assign' (by conv => (lhs; whnf))) rfl ?_
 refine wl_nil ?_
 refine then_go ?_
 refine wc_seq ?_
 refine wc_seq ?_
 refine wc_region ?_
 refine wl_val (v_move' (by conv => (lhs; whnf))) rfl ?_
 refine wl_val (v_len_s Try.underlying30 rfl) rfl ?_
 refine wl_val (v_lss rfl rfl) rfl ?_
 refine wl_nil ?_
 refine then_go ?_
 refine wc_if rfl (fun h13 => ?_) (fun h13 => ?_)
 ·refine wc_seq ?_
  refine wc_region ?_
  refine wl_val (v_assign' (by conv => (lhs; whnf))) rfl ?_
  refine wl_val (v_assign' (by conv => (lhs; whnf))) rfl ?_
  refine wl_nil ?_
  refine then_go ?_
  refine wc_ret (then_ret ?_)
  refine ret2 rfl rfl ((st.keepOnly (l := []) (List.nil_sublist _)).out ?_)
  rw [nextF_short (by omega)]
  rfl
 ·refine wc_skip ?_
  refine then_go ?_
  refine wc_seq ?_
  refine wc_region ?_
  refine wl_val (v_move' (by conv => (lhs; whnf))) rfl ?_
  refine wl_val (v_sls 49 b.length Try.underlying30 TF.t5 rfl ⟨_, _, rfl, rfl⟩ rfl (by omega) hbc) rfl ?_
  have h49 := hb.tailB 49 (by omega)
  refine wl_call rfl (c_length st.im h49 (by rw [List.length_drop]; omega)) rfl ?_
  rintro v16 w ⟨t16, rfl⟩
  have st := st.pure t16
  obtain ⟨q, hq⟩ : ∃ q, q = rd8 (b.drop 49) := ⟨_, rfl⟩
  rw [← hq]
  refine wl_val (v_assign' (by conv => (lhs; whnf))) rfl ?_
  refine wl_nil ?_
  refine then_go ?_
  refine wc_seq ?_
  refine wc_seq ?_
  refine wc_region ?_
  refine wl_val (v_move' (by conv => (lhs; whnf))) rfl ?_
  refine wl_val (v_lss64 (q := 1) rfl rfl) rfl ?_
  refine wl_val (v_move' (by conv => (lhs; whnf))) rfl ?_
  refine wl_valg rfl rfl (fun e => (v_move' (by conv => (lhs; whnf)))) rfl ?_
  refine wl_valg rfl rfl (fun e => (v_move' (by conv => (lhs; whnf)))) rfl ?_
  refine wl_valg rfl rfl (fun e => (v_len_s Try.underlying30 (by first | rfl | exact gx e rfl))) rfl ?_
  refine wl_valg rfl rfl (fun e => (v_sub' (c := ((b.length - 57 : Nat) : Int)) (by first | rfl | exact gx e rfl) (by first | rfl | exact gx e rfl) (by omega) (by omega) (by omega))) rfl ?_
  refine wl_valg rfl rfl (fun e => (v_convi_64 (n := b.length - 57) Try.underlying3 Try.underlying42 (by first | rfl | exact gx e rfl))) rfl ?_
  refine wl_valg rfl rfl (fun e => (v_gtr64 (q := UInt64.ofNat (b.length - 57)) (by first | rfl | exact gx e rfl) (by first | rfl | exact gx e rfl))) rfl ?_
  refine wl_val (v_pickO rfl rfl rfl) rfl ?_
  refine wl_nil ?_
  refine then_go ?_
  refine wc_cond rfl (fun h26 => ?_) (fun h26 => ?_)
  ·refine wc_seq ?_
   refine wc_region ?_
   refine wl_val (v_assign' (by conv => (lhs; whnf))) rfl ?_
   refine wl_val (v_assign' (by conv => (lhs; whnf))) rfl ?_
   refine wl_nil ?_
   refine then_go ?_
   refine wc_ret (then_ret ?_)
   refine ret2 rfl rfl ((st.keepOnly (l := []) (List.nil_sublist _)).out ?_)
   have e : nextF g s b = none := by
    unfold nextF
    rw [if_neg (by omega), if_pos]
    rw [← hq]
    simp only [Bool.or_eq_true, decide_eq_true_eq, UInt64.toNat_ofNat'] at h26
    rw [Nat.mod_eq_of_lt (by omega)] at h26
    exact h26
   rw [e]
   rfl
  ·refine wc_skip ?_
   refine then_go ?_
   refine wc_seq ?_
   have hn : ¬ (q.toNat < 1 ∨ b.length - 57 < q.toNat) := by
    simp only [Bool.or_eq_false_iff, decide_eq_false_iff_not, UInt64.toNat_ofNat'] at h26
    rw [Nat.mod_eq_of_lt (by omega)] at h26
    intro h
    exact h.elim h26.1 h26.2
   refine wc_region ?_
   refine wl_val (v_move' (by conv => (lhs; whnf))) rfl ?_
   refine wl_val (v_move' (by conv => (lhs; whnf))) rfl ?_
   refine wl_val (v_conv64i Try.underlying42 Try.underlying3 rfl (by omega)) rfl ?_
   refine wl_val (v_add' (c := ((57 + q.toNat : Nat) : Int)) rfl rfl (by omega) (by omega) (by omega)) rfl ?_
   refine wl_val (v_sls 57 (57 + q.toNat) Try.underlying30 TF.t5 rfl ⟨_, _, rfl, rfl⟩ ⟨_, _, rfl, rfl⟩ (by omega) (by omega)) rfl ?_
   refine wl_val (v_assign' (by conv => (lhs; whnf))) rfl ?_
   refine wl_nil ?_
   refine then_go ?_
   refine wc_seq ?_
   refine wc_region ?_
   refine wl_val (v_move' (by conv => (lhs; whnf))) rfl ?_
   refine wl_val (v_move' (by conv => (lhs; whnf))) rfl ?_
   refine wl_val (v_move' (by conv => (lhs; whnf))) rfl ?_
   have hx := hb.partB 57 (57 + q.toNat) (by omega) (by omega)
   have hxe : (b.drop 57).take (57 + q.toNat - 57) = (b.drop 57).take (rd8 (b.drop 49)).toNat := by rw [← hq]; congr 1; omega
   have hnx : nextF g s b = if (recB g s ((b.drop 57).take (57 + q.toNat - 57))).length ≤ b.length ∧ recB g s ((b.drop 57).take (57 + q.toNat - 57)) = b.take (recB g s ((b.drop 57).take (57 + q.toNat - 57))).length then some ((b.drop 57).take (57 + q.toNat - 57)) else none := by
    rw [hxe]
    unfold nextF
    rw [if_neg (by omega), if_neg (by rw [← hq]; exact hn)]
   have hxl : ((b.drop 57).take (57 + q.toNat - 57)).length = q.toNat := by rw [List.length_take, List.length_drop]; omega
   obtain ⟨x, hxx⟩ : ∃ x, x = (b.drop 57).take (57 + q.toNat - 57) := ⟨_, rfl⟩
   rw [← hxx] at hx hnx hxl
   refine wl_call rfl (c_jrecord st hx (by omega)) rfl ?_
   intro v35 w st
   have hrl := length_recB g s x
   obtain ⟨ra, rc, hv35, hrc⟩ := (byE_SlM st 0 rfl).opn
   subst hv35
   refine wl_val (v_assign' (by conv => (lhs; whnf))) rfl ?_
   refine wl_nil ?_
   refine then_go ?_
   refine wc_seq ?_
   refine wc_seq ?_
   refine wc_region ?_
   refine wl_val (v_move' (by conv => (lhs; whnf))) rfl ?_
   refine wl_val (v_len_s Try.underlying30 rfl) rfl ?_
   refine wl_val (v_move' (by conv => (lhs; whnf))) rfl ?_
   refine wl_val (v_len_s Try.underlying30 rfl) rfl ?_
   refine wl_val (v_gtr rfl rfl) rfl ?_
   refine wl_val (v_move' (by conv => (lhs; whnf))) rfl ?_
   rcases Bool.eq_false_or_eq_true (decide ((b.length : Int) < ((recB g s x).length : Int))) with hg5 | hg5
   ·rw [hg5]
    refine wl_off rfl rfl rfl rfl ?_
    refine wl_off rfl rfl rfl rfl ?_
    refine wl_off rfl rfl rfl rfl ?_
    refine wl_off rfl rfl rfl rfl ?_
    refine wl_off rfl rfl rfl rfl ?_
    refine wl_off rfl rfl rfl rfl ?_
    refine wl_off rfl rfl rfl rfl ?_
    refine wl_val (v_pick rfl) rfl ?_
    refine wl_nil ?_
    refine then_go ?_
    refine wc_true rfl ?_
    refine wc_seq ?_
    refine wc_region ?_
    refine wl_val (v_assign' (by conv => (lhs; whnf))) rfl ?_
    refine wl_val (v_assign' (by conv => (lhs; whnf))) rfl ?_
    refine wl_nil ?_
    refine then_go ?_
    refine wc_ret (then_ret ?_)
    refine ret2 rfl rfl ((st.keepOnly (l := []) (List.nil_sublist _)).out ?_)
    rw [hnx, if_neg (fun h => by have := of_decide_eq_true hg5; omega)]
    rfl
   ·rw [hg5]
    refine wl_on rfl rfl ?_
    refine wl_val (v_move' (by conv => (lhs; whnf))) rfl ?_
    refine wl_on rfl rfl ?_
    refine wl_val (v_move' (by conv => (lhs; whnf))) rfl ?_
    refine wl_on rfl rfl ?_
    refine wl_val (v_move' (by conv => (lhs; whnf))) rfl ?_
    refine wl_on rfl rfl ?_
    refine wl_val (v_len_s Try.underlying30 rfl) rfl ?_
    refine wl_on rfl rfl ?_
    refine wl_val (v_sls 0 (recB g s x).length Try.underlying30 TF.t5 rfl rfl ⟨_, _, rfl, rfl⟩ (Nat.zero_le _) (by have := of_decide_eq_false hg5; omega)) rfl ?_
    have hle : (recB g s x).length ≤ b.length := by have := of_decide_eq_false hg5; omega
    have hfr := hb.partB 0 (recB g s x).length (Nat.zero_le _) hle
    rw [List.drop_zero, Nat.sub_zero] at hfr
    refine wl_on rfl rfl ?_
    refine wl_call rfl (c_bequal (im_heapM _) (byE_SlM st 0 rfl) (hfr.mono fun k o h => st.im k o h)) rfl ?_
    rintro v47 w ⟨t47, rfl⟩
    have st := st.pure t47
    refine wl_on rfl rfl ?_
    refine wl_val (v_not rfl) rfl ?_
    refine wl_val (v_pick rfl) rfl ?_
    refine wl_nil ?_
    refine then_go ?_
    refine wc_cond rfl (fun h49 => ?_) (fun h49 => ?_)
    ·refine wc_seq ?_
     refine wc_region ?_
     refine wl_val (v_assign' (by conv => (lhs; whnf))) rfl ?_
     refine wl_val (v_assign' (by conv => (lhs; whnf))) rfl ?_
     refine wl_nil ?_
     refine then_go ?_
     refine wc_ret (then_ret ?_)
     refine ret2 rfl rfl ((st.keepOnly (l := []) (List.nil_sublist _)).out ?_)
     rw [hnx, if_neg (fun h => by simp at h49; exact h49 h.2)]
     rfl
    ·refine wc_skip ?_
     refine then_go ?_
     refine wc_seq ?_
     refine wc_region ?_
     refine wl_val (v_move' (by conv => (lhs; whnf))) rfl ?_
     refine wl_call rfl (c_bclone st.im hx (by omega)) rfl ?_
     rintro v51 w ⟨t51, m1, hg1, hi1, hxv⟩
     have st := st.grown hg1 t51 hi1
     refine wl_val (v_move' (by conv => (lhs; whnf))) rfl ?_
     refine wl_val (v_len_s Try.underlying30 rfl) rfl ?_
     refine wl_val (v_assign' (by conv => (lhs; whnf))) rfl ?_
     refine wl_val (v_assign' (by conv => (lhs; whnf))) rfl ?_
     refine wl_nil ?_
     refine then_go ?_
     refine wc_ret ?_
     refine ret2 (v := v51) (v' := .int .i64 (recL x.length : Nat)) rfl (by rw [← hrl]; rfl) ((st.keepOnly (l := []) (List.nil_sublist _)).out ?_)
     rw [hnx, if_pos ⟨hle, by simpa using h49⟩]
     exact ⟨v51, rfl, hxv⟩
theorem c_begun {v : Value} {b : By} (him : Im m w) (hb : SlM m v 1 b.length (bs b)) (hl : 64 ≤ b.length) (hl2 : b.length ≤ 500000000) : Ret Try.prog 60 #[v] w fun v' w' => Tch w w' [] [] ∧ v' = u64 (begF b) := by
 have st := St.start him
 obtain ⟨ba, bc, rfl, hbc⟩ := hb.opn
 refine ret_of Try.call60 Try.func60 rfl Try.ntmps60 Try.results60 rfl ?_
 refine wc_seq ?_
 refine wc_region ?_
 refine wl_val (v_assign' (by conv => (lhs; whnf))) rfl ?_
 refine wl_nil ?_
 refine then_go ?_
 refine wc_seq ?_
 refine wc_seq ?_
 refine wc_region ?_
 refine wl_val (v_move' (by conv => (lhs; whnf))) rfl ?_
 refine wl_val (v_sls 1 b.length Try.underlying30 TF.t5 rfl ⟨_, _, rfl, rfl⟩ rfl (by omega) hbc) rfl ?_
 have h1 := hb.tailB 1 (by omega)
 refine wl_call rfl (c_length st.im h1 (by rw [List.length_drop]; omega)) rfl ?_
 rintro v6 w ⟨t6, rfl⟩
 have st := st.pure t6
 obtain ⟨q, hq⟩ : ∃ q, q = rd8 (b.drop 1) := ⟨_, rfl⟩
 rw [← hq]
 refine wl_val (v_assign' (by conv => (lhs; whnf))) rfl ?_
 refine wl_nil ?_
 refine then_go ?_
 refine wc_seq ?_
 rcases Nat.eq_zero_or_pos q.toNat with hq0 | hq0
 ·refine wc_draw TF.mixed ?_
  have st := st.pure (touch_drew _)
  refine fl_val 0 rfl (fun _ => (v_move' (by conv => (lhs; whnf)))) rfl (by kernel_rfl) ?_
  refine fl_val 1 rfl (fun _ => (wl_valD (v_gtr64 (q := 0) rfl rfl) (q := false) (decide_eq_false (by rw [hq0]; decide)))) rfl (by kernel_rfl) ?_
  refine fl_val 2 rfl (fun _ => (v_move' (by conv => (lhs; whnf)))) rfl (by kernel_rfl) ?_
  refine fl_off 3 rfl rfl rfl rfl rfl rfl (by kernel_rfl) ?_
  refine fl_off 4 rfl rfl rfl rfl rfl rfl (by kernel_rfl) ?_
  refine fl_off 5 rfl rfl rfl rfl rfl rfl (by kernel_rfl) ?_
  refine fl_eff1 6 [4, 3, 1, 0] [] (by kernel_rfl) trivial rfl ?_
  refine wl_off rfl rfl rfl rfl ?_
  refine wl_nil ⟨rfl, ?_⟩
  refine fl_eff1 7 [3, 1, 0] [] (by kernel_rfl) trivial rfl ?_
  refine wl_off rfl rfl rfl rfl ?_
  refine wl_nil ⟨rfl, ?_⟩
  refine fl_val 8 rfl (fun _ => (v_pick rfl)) rfl (by kernel_rfl) ?_
  refine fl_nil (by kernel_rfl) trivial ?_
  refine then_go ?_
  refine wc_false rfl ?_
  refine wc_skip ?_
  refine then_go ?_
  refine wc_seq ?_
  refine wc_region ?_
  refine wl_val (v_assign' (by conv => (lhs; whnf))) rfl ?_
  refine wl_nil ?_
  refine then_go ?_
  refine wc_ret ?_
  refine ret1 (v := u64 0) rfl ⟨(st.keepOnly (l := []) (List.nil_sublist _)).touch, ?_⟩
  unfold begF
  rw [← hq, if_neg (fun h => by omega)]
 ·refine wc_draw TF.mixed ?_
  have st := st.pure (touch_drew _)
  refine fl_val 0 rfl (fun _ => (v_move' (by conv => (lhs; whnf)))) rfl (by kernel_rfl) ?_
  refine fl_val 1 rfl (fun _ => (wl_valD (v_gtr64 (q := 0) rfl rfl) (q := true) (decide_eq_true hq0))) rfl (by kernel_rfl) ?_
  refine fl_val 2 rfl (fun _ => (v_move' (by conv => (lhs; whnf)))) rfl (by kernel_rfl) ?_
  refine fl_on 3 rfl rfl rfl rfl (fun _ => (v_move' (by conv => (lhs; whnf)))) rfl (by kernel_rfl) ?_
  refine fl_on 4 rfl rfl rfl rfl (fun _ => (v_sls 0 64 Try.underlying30 TF.t5 rfl rfl ⟨_, _, rfl, rfl⟩ (by omega) (by omega))) rfl (by kernel_rfl) ?_
  refine fl_on 5 rfl rfl rfl rfl (fun _ => (v_move' (by conv => (lhs; whnf)))) rfl (by kernel_rfl) ?_
  refine fl_eff1 6 [4, 3, 1, 0] [] (by kernel_rfl) trivial rfl ?_
  refine wl_on rfl rfl ?_
  refine wl_call rfl (c_jhead st) rfl ?_
  intro v13 w st
  refine wl_nil ⟨rfl, ?_⟩
  refine fl_eff1 7 [3, 1, 0] [] (by kernel_rfl) trivial rfl ?_
  have hfr := hb.partB 0 64 (by omega) hl
  rw [List.drop_zero, Nat.sub_zero] at hfr
  refine wl_on rfl rfl ?_
  refine wl_call rfl (c_bequal (im_heapM _) (hfr.mono fun k o h => st.im k o h) (byE_SlM st 0 rfl)) rfl ?_
  rintro v14 w ⟨t14, rfl⟩
  have st := st.pure t14
  refine wl_nil ⟨rfl, ?_⟩
  refine fl_val 8 rfl (fun _ => (v_pick rfl)) rfl (by kernel_rfl) ?_
  refine fl_nil (by kernel_rfl) trivial ?_
  refine then_go ?_
  refine wc_cond rfl (fun h15 => ?_) (fun h15 => ?_)
  ·refine wc_seq ?_
   refine wc_region ?_
   refine wl_val (v_move' (by conv => (lhs; whnf))) rfl ?_
   refine wl_val (v_assign' (by conv => (lhs; whnf))) rfl ?_
   refine wl_nil ?_
   refine then_go ?_
   refine wc_ret (then_ret ?_)
   refine ret1 (v := u64 q) rfl ⟨(st.keepOnly (l := []) (List.nil_sublist _)).touch, ?_⟩
   unfold begF
   rw [← hq, if_pos ⟨hq0, of_decide_eq_true h15⟩]
  ·refine wc_skip ?_
   refine then_go ?_
   refine wc_seq ?_
   refine wc_region ?_
   refine wl_val (v_assign' (by conv => (lhs; whnf))) rfl ?_
   refine wl_nil ?_
   refine then_go ?_
   refine wc_ret ?_
   refine ret1 (v := u64 0) rfl ⟨(st.keepOnly (l := []) (List.nil_sublist _)).touch, ?_⟩
   unfold begF
   rw [← hq, if_neg (fun h => of_decide_eq_false h15 h.2)]
end
end Go.Proofs.Ytnaoafogdplnaaa

namespace Go.Proofs.Ytnaoafogdplnaaa
open Go Go.RowKit K SH DK JR
abbrev lrE (v : Value) (N : List (By × Value)) : Ent := rowE v 30 1 N.length (N.map (·.2))
def Pcs (m : Mem) (N : List (By × Value)) : Prop := ∀ x ∈ N, SlM m x.2 1 x.1.length (bs x.1)
theorem Pcs.mono {m m' : Mem} {N : List (By × Value)} (h : Pcs m N) (hm : ∀ k o, m k = some o → m' k = some o) : Pcs m' N := fun x hx => (h x hx).mono hm
theorem Pcs.snoc {m : Mem} {N : List (By × Value)} {x : By × Value} (h : Pcs m N) (hx : SlM m x.2 1 x.1.length (bs x.1)) : Pcs m (N ++ [x]) := fun y hy => (List.mem_append.1 hy).elim (h y) fun hy => by rw [List.mem_singleton.1 hy]; exact hx
def Apart (m m' : Mem) (v : Value) (l : By) : Prop := ∃ m1, (∀ k o, m1 k = some o → m' k = some o ∧ m k = none) ∧ SlM m1 v 1 l.length (bs l)
def PcsN (m m' : Mem) (N N' : List (By × Value)) : Prop := ∀ y ∈ N', y ∈ N ∨ Apart m m' y.2 y.1
theorem Apart.mono {m n m' m'' : Mem} {v : Value} {l : By} (h : Apart m m' v l) (hn : ∀ k o, n k = some o → m k = some o) (hm : ∀ k o, m' k = some o → m'' k = some o) : Apart n m'' v l := by
 obtain ⟨m1, h1, h2⟩ := h
 refine ⟨m1, fun k o hk => ⟨hm k o (h1 k o hk).1, ?_⟩, h2⟩
 cases hq : n k with
 | none => rfl
 | some q => have := hn k q hq; rw [(h1 k o hk).2] at this; cases this
theorem PcsN.refl {m m' : Mem} {N : List (By × Value)} : PcsN m m' N N := fun _ h => .inl h
theorem lr_PcsM {m0 m : Mem} {F : List Nat} {w0 w : World} {Es : List Ent} {v : Value} {N : List (By × Value)} (st : St m0 m F w0 w Es) (i : Nat) (hi : Es[i]? = some (lrE v N)) (h : Pcs m N) : PcsM (heapM w) v N := ⟨row_SlM (m := heapM w) (st.at hi) (fun _ _ _ h => h), fun x hx => (h x hx).mono fun k o h => st.im k o h⟩
section
variable {P : Program} {n : Nat} {ops : Array Oper} {Q : Po} {rest : List Oper} {r : Fr} {w : World} {d : Nat} {ty : TypeId} {pos : String} {after : Array Edge} {m0 m : Mem} {F : List Nat} {w0 : World} {Es : List Ent}
theorem wl_lrApp (i : Nat) {b cap : Nat} {v xv : Value} {s y : Operand} {N : List (By × Value)} {x : By} (st : St m0 m F w0 w (K.blk b #[xv] 30 :: Es)) (hi : Es[i]? = some (lrE v N)) (ho : xv.oneCell' = true) (hs : ev r s = v) (hy : ev r y = .slice (some ⟨b, 0, none⟩) 1 cap) (hN : N.length ≤ 1000000000) (hd : Nat.blt d n = true)
  (k : ∀ v' w', St m0 m F w0 w' (Es.set i (lrE v' (N ++ [(x, xv)]))) → WL Try.prog n ops Q rest (upd d v' r) w') :
  WL Try.prog n ops Q (⟨some d, .call ⟨.builtin .append, #[s, y], #[29, 29]⟩, ty, pos, after, none⟩ :: rest) r w := by
 refine wl_append (news := [xv]) (i + 1) st hi Try.underlying29 Try.underlying29 (.inr ⟨_, rfl⟩) TF.t30 TF.z30 rfl hs hy (st.srcArr (off := 0) 0 rfl rfl (fun j u hj => by simpa using hj) (fun u hu => by rw [List.mem_singleton.1 hu]; exact ho)) (by omega) (by omega) hd ?_
 intro v' w' _ st'
 have e1 : N.map (·.2) ++ [xv] = (N ++ [(x, xv)]).map (·.2) := by simp
 have e2 : N.length + 1 = (N ++ [(x, xv)]).length := by simp
 have st2 := st'.drop 0
 rw [e1, e2] at st2
 exact k v' w' st2
end
theorem halfB0 {b : By} {n : Nat} : halfB b n 0 = (b.drop 0).take (n - 0) := by simp [halfB]
theorem halfB1 {b : By} {n : Nat} : halfB b n 1 = (b.drop n).take (2 * n - n) := by unfold halfB; rw [Nat.one_mul]; congr 1; omega
section
variable {m : Mem} {w : World}
theorem c_pick {v : Value} {b : By} {n : Nat} (him : Im m w) (hb : SlM m v 1 b.length (bs b)) (hl : b.length ≤ 500000000) (hn : 64 ≤ n) (hn2 : 2 * n ≤ b.length) : Ret Try.prog 43 #[v, .int .i64 n] w fun v' w' => Tch w w' [] [] ∧ v' = .tuple #[.int .i64 ((pickF b n).1 : Nat), u64 (pickF b n).2] := by
 have st := St.start him
 obtain ⟨ba, bc, rfl, hbc⟩ := hb.opn
 have h0 := hb.partB 0 n (by omega) (by omega)
 have h1 := hb.partB n (2 * n) (by omega) (by omega)
 have hl0 : ((b.drop 0).take (n - 0)).length = n := by rw [List.length_take, List.length_drop]; omega
 have hl1 : ((b.drop n).take (2 * n - n)).length = n := by rw [List.length_take, List.length_drop]; omega
 refine ret_of Try.call43 Try.func43 rfl Try.ntmps43 Try.results43 rfl ?_
 refine wc_seq ?_
 refine wc_region ?_
 refine wl_val (v_assign' (by conv => (lhs; whnf))) rfl ?_
 refine wl_val (v_assign' (by conv => (lhs; whnf))) rfl ?_
 refine wl_nil ?_
 refine then_go ?_
 refine wc_seq ?_
 refine wc_draw TF.mixed ?_
 have st := st.pure (touch_drew _)
 refine fl_val 0 rfl (fun _ => (v_move' (by conv => (lhs; whnf)))) rfl (by kernel_rfl) ?_
 refine fl_val 1 rfl (fun _ => (v_move' (by conv => (lhs; whnf)))) rfl (by kernel_rfl) ?_
 refine fl_val 2 rfl (fun _ => (v_sls 0 n Try.underlying30 TF.t5 rfl rfl ⟨_, _, rfl, rfl⟩ (by omega) (by omega))) rfl (by kernel_rfl) ?_
 refine fl_val 4 rfl (fun _ => (v_move' (by conv => (lhs; whnf)))) rfl (by kernel_rfl) ?_
 refine fl_val 5 rfl (fun _ => (v_move' (by conv => (lhs; whnf)))) rfl (by kernel_rfl) ?_
 refine fl_val 6 rfl (fun _ => (v_move' (by conv => (lhs; whnf)))) rfl (by kernel_rfl) ?_
 refine fl_val 7 rfl (fun _ => (v_mul' (c := ((2 * n : Nat) : Int)) rfl rfl (by omega) (by omega) (by omega))) rfl (by kernel_rfl) ?_
 refine fl_val 8 rfl (fun _ => (v_sls n (2 * n) Try.underlying30 TF.t5 rfl ⟨_, _, rfl, rfl⟩ ⟨_, _, rfl, rfl⟩ (by omega) (by omega))) rfl (by kernel_rfl) ?_
 refine fl_eff1 3 [8, 7, 6, 5, 4, 1, 0] [] (by kernel_rfl) trivial rfl ?_
 refine wl_call rfl (c_begun st.im h0 (by omega) (by omega)) rfl ?_
 rintro v11 w ⟨t11, rfl⟩
 have st := st.pure t11
 refine wl_nil ⟨rfl, ?_⟩
 refine fl_eff1 9 [7, 6, 5, 4, 1, 0] [] (by kernel_rfl) trivial rfl ?_
 refine wl_call rfl (c_begun st.im h1 (by omega) (by omega)) rfl ?_
 rintro v17 w ⟨t17, rfl⟩
 have st := st.pure t17
 refine wl_nil ⟨rfl, ?_⟩
 refine fl_eff1 10 [7, 6, 5, 4] [] (by kernel_rfl) trivial rfl ?_
 refine wl_val (v_assign' (by conv => (lhs; whnf))) rfl ?_
 refine wl_nil ⟨rfl, ?_⟩
 refine fl_eff1 11 [] [] (by kernel_rfl) trivial rfl ?_
 refine wl_val (v_assign' (by conv => (lhs; whnf))) rfl ?_
 refine wl_nil ⟨rfl, ?_⟩
 refine fl_nil (by kernel_rfl) trivial ?_
 refine then_go ?_
 refine wc_seq ?_
 refine wc_seq ?_
 refine wc_region ?_
 refine wl_val (v_move' (by conv => (lhs; whnf))) rfl ?_
 refine wl_val (v_move' (by conv => (lhs; whnf))) rfl ?_
 refine wl_val (v_gtr64 rfl rfl) rfl ?_
 refine wl_nil ?_
 refine then_go ?_
 refine wc_if rfl (fun h20 => ?_) (fun h20 => ?_)
 ·refine wc_seq ?_
  refine wc_region ?_
  refine wl_val (v_move' (by conv => (lhs; whnf))) rfl ?_
  refine wl_val (v_assign' (by conv => (lhs; whnf))) rfl ?_
  refine wl_val (v_assign' (by conv => (lhs; whnf))) rfl ?_
  refine wl_nil ?_
  refine then_go ?_
  refine wc_ret (then_ret ?_)
  refine ret2 rfl rfl ⟨st.touch, ?_⟩
  unfold pickF
  rw [halfB0, halfB1, if_pos (UInt64.lt_iff_toNat_lt.2 h20)]
  rfl
 ·refine wc_skip ?_
  refine then_go ?_
  refine wc_seq ?_
  refine wc_region ?_
  refine wl_val (v_move' (by conv => (lhs; whnf))) rfl ?_
  refine wl_val (v_assign' (by conv => (lhs; whnf))) rfl ?_
  refine wl_val (v_assign' (by conv => (lhs; whnf))) rfl ?_
  refine wl_nil ?_
  refine then_go ?_
  refine wc_ret ?_
  refine ret2 rfl rfl ⟨st.touch, ?_⟩
  unfold pickF
  rw [halfB0, halfB1, if_neg (fun h => h20 (UInt64.lt_iff_toNat_lt.1 h))]
  rfl
theorem c_jcheck {v : Value} {b : By} (him : Im m w) (hb : SlM m v 1 b.length (bs b)) : Ret Try.prog 34 #[v] w fun v' w' => Tch w w' [] [] ∧ v' = .int .i64 (if 1 ≤ b.length ∧ b.length ≤ 1048576 then 0 else 1) := by
 have st := St.start him
 obtain ⟨ba, bc, rfl, hbc⟩ := hb.opn
 refine ret_of Try.call34 Try.func34 rfl Try.ntmps34 Try.results34 rfl ?_
 refine wc_seq ?_
 refine wc_region ?_
 refine wl_val (v_assign' (by conv => (lhs; whnf))) rfl ?_
 refine wl_nil ?_
 refine then_go ?_
 refine wc_seq ?_
 refine wc_seq ?_
 refine wc_region ?_
 refine wl_val (v_move' (by conv => (lhs; whnf))) rfl ?_
 refine wl_val (v_len_s Try.underlying30 rfl) rfl ?_
 refine wl_val (v_eql rfl rfl) rfl ?_
 refine wl_val (v_move' (by conv => (lhs; whnf))) rfl ?_
 refine wl_valg rfl rfl (fun e => (v_move' (by conv => (lhs; whnf)))) rfl ?_
 refine wl_valg rfl rfl (fun e => (v_len_s Try.underlying30 (by first | rfl | exact gx e rfl))) rfl ?_
 refine wl_valg rfl rfl (fun e => (v_gtr (by first | rfl | exact gx e rfl) (by first | rfl | exact gx e rfl))) rfl ?_
 refine wl_val (v_pickO rfl rfl rfl) rfl ?_
 refine wl_nil ?_
 refine then_go ?_
 refine wc_cond rfl (fun h10 => ?_) (fun h10 => ?_)
 ·refine wc_seq ?_
  refine wc_region ?_
  refine wl_val (v_assign' (by conv => (lhs; whnf))) rfl ?_
  refine wl_nil ?_
  refine then_go ?_
  refine wc_ret (then_ret ?_)
  exact ret1 rfl ⟨st.touch, by rw [if_neg (fun h => by rw [Bool.or_eq_true, decide_eq_true_eq, decide_eq_true_eq] at h10; omega)]; rfl⟩
 ·refine wc_skip ?_
  refine then_go ?_
  refine wc_seq ?_
  refine wc_region ?_
  refine wl_val (v_assign' (by conv => (lhs; whnf))) rfl ?_
  refine wl_nil ?_
  refine then_go ?_
  refine wc_ret ?_
  exact ret1 rfl ⟨st.touch, by rw [if_pos (by rw [Bool.or_eq_false_iff, decide_eq_false_iff_not, decide_eq_false_iff_not] at h10; omega)]; rfl⟩
end
section
variable {m0 m : Mem} {F : List Nat} {w0 w : World} {Es : List Ent}
theorem c_jread {g : UInt64} {v : Value} {half : By} (st : St m0 m F w0 w Es) (hb : SlM m v 1 half.length (bs half)) (h64 : 64 ≤ half.length) (hl : half.length ≤ 500000000) :
  Ret Try.prog 45 #[u64 g, v] w fun v' w' => ∃ m' lv N, St m0 m' F w0 w' (lrE lv N :: Es) ∧ (∀ k o, m k = some o → m' k = some o) ∧ Pcs m' N ∧ N.map (·.1) = recs g half ∧ v' = .tuple #[lv, .int .i64 ((64 + sizeL (recs g half) : Nat) : Int)] := by
 obtain ⟨ba, bc, rfl, hbc⟩ := hb.opn
 refine ret_of Try.call45 Try.func45 rfl Try.ntmps45 Try.results45 rfl ?_
 refine wc_seq ?_
 refine wc_region ?_
 refine wl_val (v_assign' (by conv => (lhs; whnf))) rfl ?_
 refine wl_val (v_assign' (by conv => (lhs; whnf))) rfl ?_
 refine wl_nil ?_
 refine then_go ?_
 refine wc_seq ?_
 refine wc_region ?_
 refine wl_val (v_assign' (by conv => (lhs; whnf))) rfl ?_
 refine wl_nil ?_
 refine then_go ?_
 refine wc_seq ?_
 refine wc_region ?_
 refine wl_val (v_assign' (by conv => (lhs; whnf))) rfl ?_
 refine wl_nil ?_
 refine then_go ?_
 refine wc_block ?_
 have st := nilRow st 30 1
 refine wc_loop (S := Nat) (fun q r w' => ∃ (m' : Mem) (lv : Value) (N : List (By × Value)), (half.drop (64 + sizeL (N.map (·.1)))).length ≤ q ∧ 64 + sizeL (N.map (·.1)) ≤ half.length ∧ N.length * 64 + 64 ≤ half.length ∧ recs g half = N.map (·.1) ++ recsF g q N.length (half.drop (64 + sizeL (N.map (·.1)))) ∧ r 0 = u64 g ∧ r 1 = .slice ba half.length bc ∧ r 6 = lv ∧ r 7 = .int .i64 ((64 + sizeL (N.map (·.1)) : Nat) : Int) ∧ St m0 m' F w0 w' (lrE lv N :: Es) ∧ (∀ k o, m k = some o → m' k = some o) ∧ Pcs m' N) id half.length ⟨m, _, [], by simp, by simpa [sizeL] using h64, by simpa using h64, rfl, rfl, rfl, rfl, rfl, st, fun _ _ h => h, by intro x hx; cases hx⟩ ?_
 clear st
 rintro q r w2 ⟨m', lv, N, hq, hat, hN64, hrec, g0, g1, g6, g7, st, hmm, hN⟩
 refine wc_o 0 g0 (wc_o 1 g1 (wc_o 6 g6 (wc_o 7 g7 ?_)))
 obtain ⟨la, lc, hlv⟩ := row_sl (st.at (i := 0) rfl)
 subst hlv
 obtain ⟨at', hate⟩ : ∃ a, a = 64 + sizeL (N.map (·.1)) := ⟨_, rfl⟩
 rw [← hate] at hq hat hrec ⊢
 have htl := (hb.mono hmm).tailB at' hat
 refine wc_block ?_
 refine wc_seq ?_
 rcases hnx : nextF g (UInt64.ofNat N.length) (half.drop at') with _ | x
 ·refine wc_region ?_
  refine wl_val (v_move' (by conv => (lhs; whnf))) rfl ?_
  refine wl_val (v_move' (by conv => (lhs; whnf))) rfl ?_
  refine wl_val (v_len_s Try.underlying29 rfl) rfl ?_
  refine wl_val (v_convi_64 Try.underlying3 Try.underlying42 rfl) rfl ?_
  refine wl_val (v_move' (by conv => (lhs; whnf))) rfl ?_
  refine wl_val (v_move' (by conv => (lhs; whnf))) rfl ?_
  refine wl_val (v_sls at' half.length Try.underlying30 TF.t5 rfl ⟨_, _, rfl, rfl⟩ rfl hat hbc) rfl ?_
  refine wl_call rfl (c_next st.im htl (by rw [List.length_drop]; omega)) rfl ?_
  rintro v18 w ⟨t18, m2, hg2, hi2, hno⟩
  have st := st.grown hg2 t18 hi2
  have hN := hN.mono hg2.le
  rw [hnx] at hno
  have hmm : ∀ k o, m k = some o → m2 k = some o := fun k o h => hg2.le k o (hmm k o h)
  have hno : v18 = .tuple #[.slice none 0 0, .int .i64 0] := hno
  subst hno
  refine wl_val (v_move' (by conv => (lhs; whnf))) rfl ?_
  refine wl_val (v_extract rfl rfl) rfl ?_
  refine wl_val (v_extract rfl rfl) rfl ?_
  refine wl_val (v_assign' (by conv => (lhs; whnf))) rfl ?_
  refine wl_val (v_assign' (by conv => (lhs; whnf))) rfl ?_
  refine wl_nil ?_
  refine then_go ?_
  refine wc_seq ?_
  refine wc_seq ?_
  refine wc_region ?_
  refine wl_val (v_move' (by conv => (lhs; whnf))) rfl ?_
  refine wl_val (v_eql rfl rfl) rfl ?_
  refine wl_nil ?_
  refine then_go ?_
  refine wc_true rfl ?_
  refine wc_seq ?_
  refine wc_region ?_
  refine wl_val (v_move' (by conv => (lhs; whnf))) rfl ?_
  refine wl_val (v_move' (by conv => (lhs; whnf))) rfl ?_
  refine wl_val (v_assign' (by conv => (lhs; whnf))) rfl ?_
  refine wl_val (v_assign' (by conv => (lhs; whnf))) rfl ?_
  refine wl_nil ?_
  refine then_go ?_
  refine wc_ret (then_ret (block_ret (then_ret (block_ret ?_))))
  rw [recsF_none hnx, List.append_nil] at hrec
  exact ret2 rfl rfl ⟨m2, _, N, st, hmm, hN, hrec.symm, by rw [hrec, ← hate]; rfl⟩
 ·refine wc_region ?_
  refine wl_val (v_move' (by conv => (lhs; whnf))) rfl ?_
  refine wl_val (v_move' (by conv => (lhs; whnf))) rfl ?_
  refine wl_val (v_len_s Try.underlying29 rfl) rfl ?_
  refine wl_val (v_convi_64 Try.underlying3 Try.underlying42 rfl) rfl ?_
  refine wl_val (v_move' (by conv => (lhs; whnf))) rfl ?_
  refine wl_val (v_move' (by conv => (lhs; whnf))) rfl ?_
  refine wl_val (v_sls at' half.length Try.underlying30 TF.t5 rfl ⟨_, _, rfl, rfl⟩ rfl hat hbc) rfl ?_
  refine wl_call rfl (c_next st.im htl (by rw [List.length_drop]; omega)) rfl ?_
  rintro v18 w ⟨t18, m2, hg2, hi2, hno⟩
  have st := st.grown hg2 t18 hi2
  have hN := hN.mono hg2.le
  rw [hnx] at hno
  have hmm : ∀ k o, m k = some o → m2 k = some o := fun k o h => hg2.le k o (hmm k o h)
  obtain ⟨xv, rfl, hxv⟩ := hno
  obtain ⟨k1, k2, k3, k4, k5⟩ := nextF_len hnx
  rw [List.length_drop] at k2 k5
  refine wl_val (v_move' (by conv => (lhs; whnf))) rfl ?_
  refine wl_val (v_extract rfl rfl) rfl ?_
  refine wl_val (v_extract rfl rfl) rfl ?_
  refine wl_val (v_assign' (by conv => (lhs; whnf))) rfl ?_
  refine wl_val (v_assign' (by conv => (lhs; whnf))) rfl ?_
  refine wl_nil ?_
  refine then_go ?_
  refine wc_seq ?_
  refine wc_seq ?_
  refine wc_region ?_
  refine wl_val (v_move' (by conv => (lhs; whnf))) rfl ?_
  refine wl_val (v_eql rfl rfl) rfl ?_
  refine wl_nil ?_
  refine then_go ?_
  refine wc_false (congrArg Value.bool (decide_eq_false (by omega))) ?_
  refine wc_skip ?_
  refine then_go ?_
  refine wc_region ?_
  refine wl_val (v_move' (by conv => (lhs; whnf))) rfl ?_
  refine wl_val (v_move' (by conv => (lhs; whnf))) rfl ?_
  refine wl_svOne (v := xv) Try.underlying29 TF.t30 TF.z30 (SlM.one1 hxv) rfl st rfl ?_
  intro b27 w st
  refine wl_lrApp (x := x) 0 st rfl (SlM.one1 hxv) rfl rfl (by omega) rfl ?_
  intro v28 w st
  refine wl_val (v_move' (by conv => (lhs; whnf))) rfl ?_
  refine wl_val (v_move' (by conv => (lhs; whnf))) rfl ?_
  refine wl_val (v_add' (c := ((at' + recL x.length : Nat) : Int)) rfl rfl (by omega) (by omega) (by omega)) rfl ?_
  refine wl_val (v_assign' (by conv => (lhs; whnf))) rfl ?_
  refine wl_val (v_assign' (by conv => (lhs; whnf))) rfl ?_
  refine wl_nil ?_
  refine block_go (then_go ?_)
  obtain ⟨q, rfl⟩ : ∃ q', q = q' + 1 := ⟨q - 1, by rw [List.length_drop] at hq; omega⟩
  rw [recsF_some hnx, List.drop_drop] at hrec
  have e2 : 64 + sizeL ((N ++ [(x, xv)]).map (·.1)) = at' + recL x.length := by rw [List.map_append, List.map_singleton, sizeL_snoc]; show 64 + (sizeL (N.map (·.1)) + recL x.length) = _; omega
  refine ⟨q, by simp, m2, v28, N ++ [(x, xv)], by rw [e2, List.length_drop]; rw [List.length_drop] at hq; omega, by rw [e2]; omega, ?_, ?_, rfl, rfl, rfl, by rw [e2]; rfl, st, hmm, hN.snoc hxv⟩
  ·rw [List.length_append]
   have := sizeL_ge (l := N.map (·.1))
   rw [List.length_map] at this
   show (N.length + 1) * 64 + 64 ≤ _
   omega
  ·rw [e2, hrec, List.map_append, List.length_append, List.append_assoc]
   rfl
end
end Go.Proofs.Ytnaoafogdplnaaa

namespace Go.Proofs.Ytnaoafogdplnaaa
open Go Go.RowKit K SH DK JR
end Go.Proofs.Ytnaoafogdplnaaa

namespace Go.Proofs.Ytnaoafogdplnaaa
open Go Go.RowKit K SH DK JR
section
variable {m : Mem} {wI : World}
theorem pickF_le {b : By} {n : Nat} : (pickF b n).1 ≤ 1 := by unfold pickF; split; exact Nat.le_refl _; exact Nat.zero_le _
end
end Go.Proofs.Ytnaoafogdplnaaa

namespace Go.Proofs.Ytnaoafogdplnaaa
open Go Go.RowKit K SH DK JR
def checkE (b : By) : Nat := if 1 ≤ b.length ∧ b.length ≤ 1048576 then 0 else 1
def appR (L : List By) (b : By) (n : Nat) : Nat := if checkE b ≠ 0 then 1 else if sizeL (L ++ [b]) ≤ n / 2 * 64 - 64 then 0 else 13
def resR (M : List By) (n : Nat) : Nat := if ∃ b ∈ M, checkE b ≠ 0 then 1 else if sizeL M ≤ n / 2 * 64 - 64 then 0 else 13
theorem sizeL_le {L : List By} (h : ∀ x ∈ L, x.length ≤ 1000000000) : sizeL L ≤ L.length * 1000000120 := by
 induction L with
 | nil => simp [sizeL]
 | cons x L ih =>
  have h1 := h x List.mem_cons_self
  have h2 := ih fun y hy => h y (List.mem_cons_of_mem _ hy)
  rw [sizeL_cons, List.length_cons]
  unfold recL
  omega
section
variable {m : Mem} {wI : World}
theorem c_rsize {v : Value} {N : List (By × Value)} (him : Im m wI) (hN : PcsM m v N) (hNl : ∀ x ∈ N, x.1.length ≤ 1000000000) (hNn : N.length ≤ 1048577) : Ret Try.prog 48 #[v] wI fun v' w' => Tch wI w' [] [] ∧ v' = .int .i64 (sizeL (N.map (·.1)) : Nat) := by
 have st := St.start him
 obtain ⟨na, nc, hlv⟩ : ∃ a c, v = .slice a N.length c := by obtain ⟨⟨_, a, c, h, _⟩, _⟩ := hN; exact ⟨a, c, h⟩
 subst hlv
 refine ret_of Try.call48 Try.func48 rfl Try.ntmps48 Try.results48 rfl ?_
 refine wc_seq ?_
 refine wc_region ?_
 refine wl_val (v_assign' (by conv => (lhs; whnf))) rfl ?_
 refine wl_nil ?_
 refine then_go ?_
 refine wc_seq ?_
 refine wc_region ?_
 refine wl_val (v_assign' (by conv => (lhs; whnf))) rfl ?_
 refine wl_nil ?_
 refine then_go ?_
 refine wc_seq ?_
 refine wc_seq ?_
 refine wc_region ?_
 refine wl_val (v_assign' (by conv => (lhs; whnf))) rfl ?_
 refine wl_nil ?_
 refine then_go ?_
 refine wc_block ?_
 refine wc_loop (S := Nat) (fun q r w' => ∃ (i : Nat), q + i = N.length ∧ r 0 = .slice na N.length nc ∧ r 3 = .int .i64 ((sizeL ((N.take i).map (·.1)) : Nat) : Int) ∧ r 4 = .int .i64 i ∧ St m m [] wI w' []) id N.length ⟨0, by omega, rfl, rfl, rfl, st⟩ ?_
 clear st
 rintro q r w2 ⟨i, hqi, g0, g3, g4, st⟩
 refine wc_o 0 g0 (wc_o 3 g3 (wc_o 4 g4 ?_))
 refine wc_seq ?_
 refine wc_seq ?_
 refine wc_region ?_
 refine wl_val (v_move' (by conv => (lhs; whnf))) rfl ?_
 refine wl_val (v_move' (by conv => (lhs; whnf))) rfl ?_
 refine wl_val (v_len_s Try.underlying29 rfl) rfl ?_
 refine wl_val (v_lss rfl rfl) rfl ?_
 refine wl_nil ?_
 refine then_go ?_
 refine wc_if rfl (fun h8 => ?_) (fun h8 => ?_)
 ·refine wc_skip ?_
  refine then_go ?_
  refine wc_seq ?_
  refine wc_block ?_
  have hi : i < N.length := by omega
  obtain ⟨nb, no, _, hnv, hsk, hrk⟩ := hN.elem hi
  cases hnv
  have hxl := hNl _ (List.getElem_mem hi)
  obtain ⟨_, qa, qc, hqv, _⟩ := id hsk
  rw [hqv] at hrk
  have hsz : sizeL ((N.take i).map (·.1)) ≤ 1048577 * 1000000120 := Nat.le_trans (sizeL_le fun x hx => by obtain ⟨y, hy, rfl⟩ := List.mem_map.1 hx; exact hNl y (List.mem_of_mem_take hy)) (Nat.mul_le_mul_right _ (by rw [List.length_map, List.length_take]; omega))
  have hrl : recL N[i].1.length ≤ N[i].1.length + 120 := by unfold recL; omega
  refine wc_region ?_
  refine wl_val (v_move' (by conv => (lhs; whnf))) rfl ?_
  refine wl_val (v_move' (by conv => (lhs; whnf))) rfl ?_
  refine wl_val (v_move' (by conv => (lhs; whnf))) rfl ?_
  refine wl_val (v_ias i Try.underlying29 TF.t30 rfl rfl (by first | rfl | omega) (by first | omega | (dsimp only at *; omega))) rfl ?_
  refine wl_val (v_load rfl (hrk st.im)) rfl ?_
  refine wl_val (v_len_s Try.underlying30 rfl) rfl ?_
  refine wl_val (v_add' (c := ((N[i].1.length + 57 : Nat) : Int)) rfl rfl (by omega) (by omega) (by omega)) rfl ?_
  refine wl_val (v_add' (c := ((N[i].1.length + 120 : Nat) : Int)) rfl rfl (by omega) (by omega) (by omega)) rfl ?_
  refine wl_val (v_to (v' := .int .i64 (((N[i].1.length + 120) / 64 : Nat) : Int)) (v_quo' rfl rfl (by omega) (by omega) rfl (by omega)) (by rw [Int.natCast_ediv]; rfl)) rfl ?_
  refine wl_val (v_mul' (c := ((recL N[i].1.length : Nat) : Int)) rfl rfl (by unfold recL; omega) (by omega) (by omega)) rfl ?_
  refine wl_val (v_add' (c := ((sizeL ((N.take i).map (·.1)) + recL N[i].1.length : Nat) : Int)) rfl rfl (by omega) (by omega) (by omega)) rfl ?_
  refine wl_val (v_assign' (by conv => (lhs; whnf))) rfl ?_
  refine wl_nil ?_
  refine block_go (then_go ?_)
  refine wc_region ?_
  refine wl_val (v_move' (by conv => (lhs; whnf))) rfl ?_
  refine wl_val (v_add' (c := ((i + 1 : Nat) : Int)) rfl rfl (by omega) (by omega) (by omega)) rfl ?_
  refine wl_val (v_assign' (by conv => (lhs; whnf))) rfl ?_
  refine wl_nil ?_
  refine then_go ?_
  refine ⟨q - 1, by simp; omega, i + 1, by omega, rfl, ?_, rfl, st⟩
  rw [List.take_succ_eq_append_getElem hi, List.map_append, List.map_singleton, sizeL_snoc]
  rfl
 ·refine wc_exit (then_exit (then_exit (block_hit ?_)))
  refine then_go ?_
  refine wc_seq ?_
  refine wc_region ?_
  refine wl_val (v_move' (by conv => (lhs; whnf))) rfl ?_
  refine wl_val (v_assign' (by conv => (lhs; whnf))) rfl ?_
  refine wl_nil ?_
  refine then_go ?_
  refine wc_ret ?_
  have hiN : i = N.length := by omega
  subst hiN
  exact ret1 rfl ⟨st.touch, by rw [List.take_length]; rfl⟩
theorem c_fits {v : Value} {N : List (By × Value)} {n : Nat} (him : Im m wI) (hN : PcsM m v N) (hNl : ∀ x ∈ N, x.1.length ≤ 1000000000) (hNn : N.length ≤ 1048577) (hn : n ≤ 1000000) (hn2 : 2 ≤ n) : Ret Try.prog 46 #[v, .int .i64 n] wI fun v' w' => Tch wI w' [] [] ∧ v' = .bool (decide (sizeL (N.map (·.1)) ≤ n / 2 * 64 - 64)) := by
 have st := St.start him
 refine ret_of Try.call46 Try.func46 rfl Try.ntmps46 Try.results46 rfl ?_
 refine wc_seq ?_
 refine wc_region ?_
 refine wl_val (v_assign' (by conv => (lhs; whnf))) rfl ?_
 refine wl_nil ?_
 refine then_go ?_
 refine wc_seq ?_
 refine wc_region ?_
 refine wl_val (v_move' (by conv => (lhs; whnf))) rfl ?_
 refine wl_call rfl (c_rsize st.im hN hNl hNn) rfl ?_
 rintro v6 w ⟨t6, rfl⟩
 have st := st.pure t6
 refine wl_val (v_move' (by conv => (lhs; whnf))) rfl ?_
 refine wl_val (v_to (v' := .int .i64 ((n / 2 : Nat) : Int)) (v_quo' rfl rfl (by omega) (by omega) rfl (by omega)) (by rw [Int.natCast_ediv]; rfl)) rfl ?_
 refine wl_val (v_mul' (c := ((n / 2 * 64 : Nat) : Int)) rfl rfl (by omega) (by omega) (by omega)) rfl ?_
 refine wl_val (v_sub' (c := ((n / 2 * 64 - 64 : Nat) : Int)) rfl rfl (by omega) (by omega) (by omega)) rfl ?_
 refine wl_val (wl_valD (v_leq rfl rfl) (q := decide (sizeL (N.map (·.1)) ≤ n / 2 * 64 - 64)) (by rw [decide_eq_decide]; omega)) rfl ?_
 refine wl_val (v_assign' (by conv => (lhs; whnf))) rfl ?_
 refine wl_nil ?_
 refine then_go ?_
 refine wc_ret ?_
 exact ret1 rfl ⟨st.touch, rfl⟩
theorem c_rcheck {v : Value} {b : By} (him : Im m wI) (hb : SlM m v 1 b.length (bs b)) : Ret Try.prog 35 #[v] wI fun v' w' => Tch wI w' [] [] ∧ v' = .int .i64 (checkE b) := by
 have st := St.start him
 obtain ⟨ba, bc, rfl, hbc⟩ := hb.opn
 refine ret_of Try.call35 Try.func35 rfl Try.ntmps35 Try.results35 rfl ?_
 refine wc_seq ?_
 refine wc_region ?_
 refine wl_val (v_assign' (by conv => (lhs; whnf))) rfl ?_
 refine wl_nil ?_
 refine then_go ?_
 refine wc_seq ?_
 refine wc_seq ?_
 refine wc_region ?_
 refine wl_val (v_move' (by conv => (lhs; whnf))) rfl ?_
 refine wl_val (v_len_s Try.underlying30 rfl) rfl ?_
 refine wl_val (v_eql rfl rfl) rfl ?_
 refine wl_val (v_move' (by conv => (lhs; whnf))) rfl ?_
 refine wl_valg rfl rfl (fun e => (v_move' (by conv => (lhs; whnf)))) rfl ?_
 refine wl_valg rfl rfl (fun e => (v_len_s Try.underlying30 (by first | rfl | exact gx e rfl))) rfl ?_
 refine wl_valg rfl rfl (fun e => (v_gtr (by first | rfl | exact gx e rfl) (by first | rfl | exact gx e rfl))) rfl ?_
 refine wl_val (v_pickO rfl rfl rfl) rfl ?_
 refine wl_nil ?_
 refine then_go ?_
 refine wc_cond rfl (fun h10 => ?_) (fun h10 => ?_)
 ·refine wc_seq ?_
  refine wc_region ?_
  refine wl_val (v_assign' (by conv => (lhs; whnf))) rfl ?_
  refine wl_nil ?_
  refine then_go ?_
  refine wc_ret (then_ret ?_)
  exact ret1 rfl ⟨st.touch, by unfold checkE; rw [if_neg (fun h => by rw [Bool.or_eq_true, decide_eq_true_eq, decide_eq_true_eq] at h10; omega)]; rfl⟩
 ·refine wc_skip ?_
  refine then_go ?_
  refine wc_seq ?_
  refine wc_region ?_
  refine wl_val (v_assign' (by conv => (lhs; whnf))) rfl ?_
  refine wl_nil ?_
  refine then_go ?_
  refine wc_ret ?_
  exact ret1 rfl ⟨st.touch, by unfold checkE; rw [if_pos (by rw [Bool.or_eq_false_iff, decide_eq_false_iff_not, decide_eq_false_iff_not] at h10; omega)]; rfl⟩
end
end Go.Proofs.Ytnaoafogdplnaaa

namespace Go.Proofs.Ytnaoafogdplnaaa
open Go Go.RowKit K SH DK JR
namespace JR
def writesD (n : Nat) : DS → Nat → List By → DS × Int
 | d, _, [] => syncD d
 | d, i, c :: cs => if (writeD d n i c).2 ≠ 0 then writeD d n i c else writesD n (writeD d n i c).1 (i + 1) cs
def chunk (b : By) : List By := (List.range (b.length / 64)).map fun j => (b.drop (64 * j)).take 64
def putD (n : Nat) (d : DS) (i : Nat) (b : By) : DS × Int := writesD n d i (chunk b)
structure LG where
 half : Nat
 gen : UInt64
 fin : Nat
def overD (n : Nat) (d : DS) (s : LG) (L : List By) : DS × LG × Int :=
 if n / 2 * 64 - 64 < sizeL L then (d, s, 13) else
 if (putD n d ((1 - s.half) * (n / 2)) (List.replicate (n / 2 * 64) 0)).2 ≠ 0 then ((putD n d ((1 - s.half) * (n / 2)) (List.replicate (n / 2 * 64) 0)).1, s, (putD n d ((1 - s.half) * (n / 2)) (List.replicate (n / 2 * 64) 0)).2) else
 if (putD n (putD n d ((1 - s.half) * (n / 2)) (List.replicate (n / 2 * 64) 0)).1 ((1 - s.half) * (n / 2) + 1) (allB (s.gen + 1) 0 L)).2 ≠ 0 then ((putD n (putD n d ((1 - s.half) * (n / 2)) (List.replicate (n / 2 * 64) 0)).1 ((1 - s.half) * (n / 2) + 1) (allB (s.gen + 1) 0 L)).1, s, (putD n (putD n d ((1 - s.half) * (n / 2)) (List.replicate (n / 2 * 64) 0)).1 ((1 - s.half) * (n / 2) + 1) (allB (s.gen + 1) 0 L)).2) else
 if (putD n (putD n (putD n d ((1 - s.half) * (n / 2)) (List.replicate (n / 2 * 64) 0)).1 ((1 - s.half) * (n / 2) + 1) (allB (s.gen + 1) 0 L)).1 ((1 - s.half) * (n / 2)) (headB (s.gen + 1))).2 ≠ 0 then ((putD n (putD n (putD n d ((1 - s.half) * (n / 2)) (List.replicate (n / 2 * 64) 0)).1 ((1 - s.half) * (n / 2) + 1) (allB (s.gen + 1) 0 L)).1 ((1 - s.half) * (n / 2)) (headB (s.gen + 1))).1, s, (putD n (putD n (putD n d ((1 - s.half) * (n / 2)) (List.replicate (n / 2 * 64) 0)).1 ((1 - s.half) * (n / 2) + 1) (allB (s.gen + 1) 0 L)).1 ((1 - s.half) * (n / 2)) (headB (s.gen + 1))).2) else
 ((putD n (putD n (putD n d ((1 - s.half) * (n / 2)) (List.replicate (n / 2 * 64) 0)).1 ((1 - s.half) * (n / 2) + 1) (allB (s.gen + 1) 0 L)).1 ((1 - s.half) * (n / 2)) (headB (s.gen + 1))).1, ⟨1 - s.half, s.gen + 1, 64 + sizeL L⟩, 0)
def appD (n : Nat) (d : DS) (s : LG) (L : List By) (b : By) : DS × LG × Int :=
 if checkE b ≠ 0 then (d, s, 1) else
 if n / 2 * 64 < s.fin + recL b.length then (d, s, 13) else
 if (putD n d ((s.half * (n / 2 * 64) + s.fin) / 64) (recB s.gen (UInt64.ofNat L.length) b)).2 ≠ 0 then ((putD n d ((s.half * (n / 2 * 64) + s.fin) / 64) (recB s.gen (UInt64.ofNat L.length) b)).1, s, (putD n d ((s.half * (n / 2 * 64) + s.fin) / 64) (recB s.gen (UInt64.ofNat L.length) b)).2) else
 ((putD n d ((s.half * (n / 2 * 64) + s.fin) / 64) (recB s.gen (UInt64.ofNat L.length) b)).1, { s with fin := s.fin + recL b.length }, 0)
theorem chunk_len {b : By} : (chunk b).length = b.length / 64 := by simp [chunk]
theorem chunk_64 {b : By} : ∀ c ∈ chunk b, c.length = 64 := fun c hc => by
 obtain ⟨j, hj, rfl⟩ := List.mem_map.1 hc
 have := List.mem_range.1 hj
 rw [List.length_take, List.length_drop]
 omega
theorem chunk_at {b : By} {j : Nat} (hj : j < (chunk b).length) : (chunk b)[j] = (b.drop (64 * j)).take 64 := by simp [chunk]
theorem chunk_join {b : By} (h : b.length % 64 = 0) : (chunk b).flatten = b := by
 have key : ∀ k, k ≤ b.length / 64 → ((List.range k).map fun j => (b.drop (64 * j)).take 64).flatten = b.take (64 * k) := by
  intro k
  induction k with
  | zero => intro _; simp
  | succ k ih =>
   intro hk
   rw [List.range_succ, List.map_append, List.flatten_append, ih (by omega), Nat.mul_succ, List.take_add]
   simp
 unfold chunk
 rw [key _ (Nat.le_refl _), List.take_of_length_le (by omega)]
def calm (S : By) : DS := ⟨S, [], -1, false⟩
def spl : By → Nat → List By → By
 | S, _, [] => S
 | S, i, c :: cs => spl (splice S (64 * i) c) (i + 1) cs
theorem writes_calm {n : Nat} : ∀ {cs : List By} {S : By} {W : List (Nat × By)} {i : Nat}, (∀ c ∈ cs, c.length = 64) → i + cs.length ≤ n → writesD n ⟨S, W, -1, false⟩ i cs = (calm (spl (dump ⟨S, W, -1, false⟩) i cs), 0)
 | [], S, W, i, _, _ => by simp [writesD, syncD, burn, calm, spl, dump]
 | c :: cs, S, W, i, hc, hn => by
  rw [List.length_cons] at hn
  have h64 := hc c List.mem_cons_self
  have hw : writeD ⟨S, W, -1, false⟩ n i c = (⟨S, W ++ [(i, c)], -1, false⟩, 0) := by
   unfold writeD
   rw [if_neg (by simp), if_neg (by omega), if_neg (by omega)]
   simp [burn]
  rw [writesD, hw, if_neg (by simp)]
  rw [writes_calm (fun x hx => hc x (List.mem_cons_of_mem _ hx)) (by omega)]
  simp [spl, dump]
theorem splice_splice {S a b : By} {o : Nat} (h : o + a.length + b.length ≤ S.length) : splice (splice S o a) (o + a.length) b = splice S o (a ++ b) := by
 have h1 : (S.take o ++ a).length = o + a.length := by simp; omega
 unfold splice
 have e : (S.take o ++ a ++ S.drop (o + a.length)).drop (o + a.length) = S.drop (o + a.length) := List.drop_left' h1
 rw [List.take_left' h1, ← List.drop_drop, e, List.drop_drop, List.length_append]
 simp only [List.append_assoc, Nat.add_assoc]
theorem spl_eq : ∀ {cs : List By} {S : By} {i : Nat}, (∀ c ∈ cs, c.length = 64) → 64 * (i + cs.length) ≤ S.length → spl S i cs = splice S (64 * i) cs.flatten
 | [], S, i, _, _ => by simp [spl, splice_nil]
 | c :: cs, S, i, hc, hn => by
  have h64 := hc c List.mem_cons_self
  have hfl : cs.flatten.length = 64 * cs.length := by
   have : ∀ l : List By, (∀ c ∈ l, c.length = 64) → l.flatten.length = 64 * l.length := by
    intro l
    induction l with
    | nil => intro _; rfl
    | cons x l ih => intro h; rw [List.flatten_cons, List.length_append, ih fun y hy => h y (List.mem_cons_of_mem _ hy), h x List.mem_cons_self, List.length_cons]; omega
   exact this cs fun x hx => hc x (List.mem_cons_of_mem _ hx)
  rw [List.length_cons] at hn
  rw [spl, spl_eq (fun x hx => hc x (List.mem_cons_of_mem _ hx)) (by rw [length_splice (by omega)]; omega), List.flatten_cons]
  have e : 64 * (i + 1) = 64 * i + c.length := by omega
  rw [e, splice_splice (by omega)]
theorem put_calm {n i : Nat} {S b : By} (hS : S.length = 64 * n) (hb : b.length % 64 = 0) (hi : 64 * i + b.length ≤ 64 * n) : putD n (calm S) i b = (calm (splice S (64 * i) b), 0) := by
 have hc := chunk_len (b := b)
 unfold putD calm
 rw [writes_calm chunk_64 (by omega)]
 have : dump ⟨S, [], -1, false⟩ = S := rfl
 rw [this, spl_eq chunk_64 (by omega), chunk_join hb]
 rfl
theorem ok_burn {d : DS} {n : Nat} (h : d.ok n) : (burn d).ok n := ⟨h.pos, h.len, h.le, h.wt⟩
theorem length_foldl_splice : ∀ {W : List (Nat × By)} {S : By} {n : Nat}, S.length = 64 * n → (∀ x ∈ W, x.1 < n ∧ x.2.length = 64) → (W.foldl (fun S x => splice S (64 * x.1) x.2) S).length = 64 * n
 | [], S, n, h, _ => h
 | x :: W, S, n, h, hW => by
  obtain ⟨h1, h2⟩ := hW x List.mem_cons_self
  rw [List.foldl_cons]
  exact length_foldl_splice (by rw [length_splice (by omega)]; exact h) fun y hy => hW y (List.mem_cons_of_mem _ hy)
theorem length_dump {d : DS} {n : Nat} (h : d.ok n) : (dump d).length = 64 * n := length_foldl_splice h.len h.wt
theorem ok_write {d : DS} {n i : Nat} {c : By} (h : d.ok n) : (writeD d n i c).1.ok n := by
 unfold writeD
 split
 ·exact h
 ·split
  ·exact h
  ·split
   ·exact h
   ·rename_i h1 h2 h3
    refine ok_burn ⟨h.pos, h.len, h.le, fun x hx => ?_⟩
    rcases List.mem_append.1 hx with hx | hx
    ·exact h.wt x hx
    ·rw [List.mem_singleton.1 hx]
     exact ⟨by simp; omega, by simpa using h3⟩
theorem ok_sync {d : DS} {n : Nat} (h : d.ok n) : (syncD d).1.ok n := by
 unfold syncD
 split
 ·exact h
 ·split
  ·exact ok_burn h
  ·exact ⟨h.pos, length_dump h, h.le, by intro x hx; cases hx⟩
def Fz (d : DS) : Prop := -1 ≤ d.fuse ∧ d.fuse ≤ 9223372036854775807
theorem fz_burn {d : DS} (h : Fz d) : Fz (burn d) := by
 unfold Fz burn at *
 dsimp only
 split <;> omega
theorem fz_write {d : DS} {n i : Nat} {c : By} (h : Fz d) : Fz (writeD d n i c).1 := by
 unfold writeD
 split
 ·exact h
 ·split
  ·exact h
  ·split
   ·exact h
   ·exact fz_burn (d := { d with wt := d.wt ++ [((i : Int).toNat, c)] }) h
theorem fz_sync {d : DS} (h : Fz d) : Fz (syncD d).1 := by
 unfold syncD
 split
 ·exact h
 ·split
  ·exact fz_burn h
  ·exact fz_burn h
theorem wt_write {d : DS} {n i : Nat} {c : By} : (writeD d n i c).1.wt.length ≤ d.wt.length + 1 := by
 unfold writeD
 split
 ·simp
 ·split
  ·simp
  ·split
   ·simp
   ·simp [burn]
theorem wt_sync {d : DS} : (syncD d).1.wt.length ≤ d.wt.length := by
 unfold syncD
 split
 ·simp
 ·split
  ·simp [burn]
  ·simp
theorem sync_done {d : DS} (h : (syncD d).2 = 0) : (syncD d).1.wt = [] := by
 unfold syncD at *
 split at h
 ·cases h
 ·split at h
  ·cases h
  ·rename_i h1 h2; rw [if_neg h1, if_neg h2]
structure Rdy (n : Nat) (d : DS) (k : Nat) : Prop where
 ok : d.ok n
 fz : Fz d
 few : d.wt.length ≤ k
theorem rdy_writes {n : Nat} : ∀ {cs : List By} {d : DS} {i k : Nat}, Rdy n d k → Rdy n (writesD n d i cs).1 (k + cs.length) ∧ ((writesD n d i cs).2 = 0 → (writesD n d i cs).1.wt = [])
 | [], d, i, k, h => ⟨⟨ok_sync h.ok, fz_sync h.fz, Nat.le_trans wt_sync h.few⟩, sync_done⟩
 | c :: cs, d, i, k, h => by
  have h1 : Rdy n (writeD d n i c).1 (k + 1) := ⟨ok_write h.ok, fz_write h.fz, Nat.le_trans wt_write (by have := h.few; omega)⟩
  rw [writesD]
  split
  ·rename_i hz
   exact ⟨⟨h1.ok, h1.fz, by have := h1.few; rw [List.length_cons]; omega⟩, fun h0 => (hz h0).elim⟩
  ·have := rdy_writes (cs := cs) (i := i + 1) h1
   rw [List.length_cons]
   exact ⟨⟨this.1.ok, this.1.fz, by have := this.1.few; omega⟩, this.2⟩
theorem rdy_put {n : Nat} {d : DS} {i k : Nat} {b : By} (h : Rdy n d k) : Rdy n (putD n d i b).1 (k + b.length / 64) ∧ ((putD n d i b).2 = 0 → (putD n d i b).1.wt = []) := by
 have := rdy_writes (cs := chunk b) (i := i) h
 rwa [chunk_len] at this
end JR
end Go.Proofs.Ytnaoafogdplnaaa

namespace Go.Proofs.Ytnaoafogdplnaaa
open Go Go.RowKit K DK
def wtCells (l : List (Nat × By)) : List Value := l.flatMap fun x => Value.int .i64 x.1 :: bs x.2
theorem drop_wtCells {l : List (Nat × By)} (h : ∀ x ∈ l, x.2.length = 64) (i : Nat) : (wtCells l).drop (i * 65) = wtCells (l.drop i) := by
 induction l generalizing i with
 | nil => simp [wtCells]
 | cons x l ih =>
  cases i with
  | zero => simp
  | succ i =>
   have h1 := ih (fun y hy => h y (List.mem_cons_of_mem _ hy)) i
   have h2 := h x List.mem_cons_self
   have e : (i + 1) * 65 = (Value.int .i64 x.1 :: bs x.2).length + i * 65 := by simp [length_bs, h2]; omega
   have e2 : wtCells (x :: l) = (Value.int .i64 x.1 :: bs x.2) ++ wtCells l := by simp [wtCells]
   rw [e, e2, ← List.drop_drop, List.drop_left, List.drop_succ_cons]
   exact h1
theorem wt_elem {l : List (Nat × By)} (h : ∀ x ∈ l, x.2.length = 64) {i : Nat} (hi : i < l.length) : cellsAt (wtCells l) 65 i = Value.int .i64 l[i].1 :: bs l[i].2 := by
 unfold cellsAt
 rw [drop_wtCells h, List.drop_eq_getElem_cons hi]
 have h2 := h l[i] (List.getElem_mem hi)
 simp only [wtCells, List.flatMap_cons]
 have e : (65 : Nat) = (Value.int .i64 l[i].1 :: bs l[i].2).length := by simp [length_bs, h2]
 rw [e, List.take_left]
structure diskM (m : Mem) (b n : Nat) (d : DS) : Prop where
 ok : d.ok n
 mem : ∃ s wv, m b = some (.cells #[.slice (some ⟨s, 0, none⟩) n n, wv, .int .i64 d.fuse, .bool d.down] 68 (0, 0)) ∧ m s = some (.cells (bs d.S).toArray 73 (0, 0)) ∧ SlM m wv 65 d.wt.length (wtCells d.wt)
 few : d.wt.length ≤ 9223372036854775807
theorem bs_append (a b : By) : bs (a ++ b) = bs a ++ bs b := by simp [bs]
theorem secs_split (S : By) (i : Nat) : S.take (64 * i) ++ sec S i ++ S.drop (64 * i + 64) = S := by
 unfold sec
 rw [List.append_assoc, ← List.drop_drop, List.take_append_drop, List.take_append_drop]
theorem c_check {m : Mem} {w : World} {b n : Nat} {d : DS} (i : Int) (him : Im m w) (hd : diskM m b n d) :
  Ret Try.prog 71 #[.pointer (some ⟨b, 0, none⟩), .int .i64 i] w fun v w' => w' = w ∧ v = .int .i64 (if d.down then 14 else if i < 0 ∨ i ≥ n then 2 else 0) := by
 obtain ⟨ok, ⟨s, wv, hb, hs, hw⟩, hf⟩ := hd
 have st := St.start him
 refine ret_of Try.call71 Try.func71 rfl Try.ntmps71 Try.results71 rfl ?_
 refine wc_seq ?_
 refine wc_region ?_
 refine wl_val (v_assign' (by conv => (lhs; whnf))) rfl ?_
 refine wl_nil ?_
 refine then_go ?_
 refine wc_seq ?_
 refine wc_block ?_
 refine wc_seq ?_
 refine wc_region ?_
 refine wl_val (v_move' (by conv => (lhs; whnf))) rfl ?_
 refine wl_val (v_nil rfl) rfl ?_
 refine wl_val (v_fa TF.f68_3 rfl) rfl ?_
 refine wl_val (v_load rfl (st.readm hb TF.t4 rfl)) rfl ?_
 refine wl_val (v_assign' (by conv => (lhs; whnf))) rfl ?_
 refine wl_nil ?_
 refine then_go ?_
 refine wc_cond rfl (fun h5 => ?_) (fun h5 => ?_)
 ·refine wc_seq ?_
  refine wc_region ?_
  refine wl_val (v_assign' (by conv => (lhs; whnf))) rfl ?_
  refine wl_nil ?_
  refine then_go ?_
  refine wc_ret (block_ret (then_ret ?_))
  exact ret1 (v := .int .i64 14) rfl ⟨rfl, by simp [h5]⟩
 ·refine wc_seq ?_
  refine wc_region ?_
  refine wl_val (v_move' (by conv => (lhs; whnf))) rfl ?_
  refine wl_val (v_lss rfl rfl) rfl ?_
  refine wl_val (v_move' (by conv => (lhs; whnf))) rfl ?_
  by_cases hg2 : i < 0
  ·rw [show decide (i < 0) = true from decide_eq_true hg2]
   refine wl_off rfl rfl rfl rfl ?_
   refine wl_off rfl rfl rfl rfl ?_
   refine wl_off rfl rfl rfl rfl ?_
   refine wl_off rfl rfl rfl rfl ?_
   refine wl_off rfl rfl rfl rfl ?_
   refine wl_off rfl rfl rfl rfl ?_
   refine wl_off rfl rfl rfl rfl ?_
   refine wl_val (v_pick rfl) rfl ?_
   refine wl_val (v_assign' (by conv => (lhs; whnf))) rfl ?_
   refine wl_nil ?_
   refine then_go ?_
   refine wc_true rfl ?_
   refine wc_seq ?_
   refine wc_region ?_
   refine wl_val (v_assign' (by conv => (lhs; whnf))) rfl ?_
   refine wl_nil ?_
   refine then_go ?_
   refine wc_ret (block_ret (then_ret ?_))
   exact ret1 (v := .int .i64 2) rfl ⟨rfl, by simp [h5, hg2]⟩
  ·rw [show decide (i < 0) = false from decide_eq_false hg2]
   refine wl_on rfl rfl ?_
   refine wl_val (v_move' (by conv => (lhs; whnf))) rfl ?_
   refine wl_on rfl rfl ?_
   refine wl_val (v_move' (by conv => (lhs; whnf))) rfl ?_
   refine wl_on rfl rfl ?_
   refine wl_val (v_nil rfl) rfl ?_
   refine wl_on rfl rfl ?_
   refine wl_val (v_fa TF.f68_0 rfl) rfl ?_
   refine wl_on rfl rfl ?_
   refine wl_val (v_load rfl (st.readm hb TF.t65 rfl)) rfl ?_
   refine wl_on rfl rfl ?_
   refine wl_val (v_len_s Try.underlying65 rfl) rfl ?_
   refine wl_on rfl rfl ?_
   refine wl_val (v_geq rfl rfl) rfl ?_
   refine wl_val (v_pick rfl) rfl ?_
   refine wl_val (v_assign' (by conv => (lhs; whnf))) rfl ?_
   refine wl_nil ?_
   refine then_go ?_
   refine wc_if rfl (fun h10 => ?_) (fun h10 => ?_)
   ·refine wc_seq ?_
    refine wc_region ?_
    refine wl_val (v_assign' (by conv => (lhs; whnf))) rfl ?_
    refine wl_nil ?_
    refine then_go ?_
    refine wc_ret (block_ret (then_ret ?_))
    exact ret1 (v := .int .i64 2) rfl ⟨rfl, by simp [h5, h10]⟩
   ·refine wc_skip ?_
    refine block_go (then_go ?_)
    refine wc_seq ?_
    refine wc_region ?_
    refine wl_val (v_assign' (by conv => (lhs; whnf))) rfl ?_
    refine wl_nil ?_
    refine then_go ?_
    refine wc_ret ?_
    exact ret1 (v := .int .i64 0) rfl ⟨rfl, by simp [h5, hg2]; omega⟩
theorem c_size {m : Mem} {w : World} {b n : Nat} {d : DS} (him : Im m w) (hd : diskM m b n d) :
  Ret Try.prog 12 #[.pointer (some ⟨b, 0, none⟩)] w fun v w' => w' = w ∧ v = .int .i64 n := by
 obtain ⟨ok, ⟨s, wv, hb, hs, hw⟩, hf⟩ := hd
 have st := St.start him
 refine ret_of Try.call12 Try.func12 rfl Try.ntmps12 Try.results12 rfl ?_
 refine wc_seq ?_
 refine wc_region ?_
 refine wl_val (v_assign' (by conv => (lhs; whnf))) rfl ?_
 refine wl_nil ?_
 refine then_go ?_
 refine wc_seq ?_
 refine wc_region ?_
 refine wl_val (v_move' (by conv => (lhs; whnf))) rfl ?_
 refine wl_val (v_nil rfl) rfl ?_
 refine wl_val (v_fa TF.f68_0 rfl) rfl ?_
 refine wl_val (v_load rfl (st.readm hb TF.t65 rfl)) rfl ?_
 refine wl_val (v_len_s Try.underlying65 rfl) rfl ?_
 refine wl_val (v_assign' (by conv => (lhs; whnf))) rfl ?_
 refine wl_nil ?_
 refine then_go ?_
 refine wc_ret ?_
 exact ret1 rfl ⟨rfl, rfl⟩
end Go.Proofs.Ytnaoafogdplnaaa
