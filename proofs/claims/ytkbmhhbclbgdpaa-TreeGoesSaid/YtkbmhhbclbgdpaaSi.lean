/-
  SHA-256: the program's mix.
-/
import Derived.Test.YtkbmhhbclbgdpaaSh
namespace Go.Proofs.Ytkbmhhbclbgdpaa
open Go Go.RowKit K SH

namespace SH
/-- What the program keeps of a hash. -/
def hashC (v : V8) (bk : List UInt8) (hv : Int) (n : UInt64) : Array Value := (ws v.l ++ bs bk ++ [.int .i64 hv, u64 n]).toArray
theorem getV_state (v : V8) (bk : List UInt8) (hv : Int) (n : UInt64) : getV true 8 (hashC v bk hv n) 0 = some (arr32 v.l) :=
  getV_seg (a := []) (b := ws v.l) (c := bs bk ++ [.int .i64 hv, u64 n]) (by simp) rfl rfl
end SH

section
variable {m m0 : Mem} {F : List Nat} {w0 w wI : World} {Es : List Ent}

theorem c_spreadS {b : Nat} {v : V8} {bk : List UInt8} {hv : Int} {n : UInt64} {t : TypeId} (st : St m0 m F w0 w Es) (i : Nat) (hi : Es[i]? = some (K.blk b (hashC v bk hv n) t)) (hl : bk.length = 64) :
    Ret Try.prog 67 #[.pointer (some ⟨b, 8, none⟩)] w fun v w' => Tch w w' [] [] ∧ v = arr32 (sched bk) := by
  obtain ⟨ml, himl, _, hbl, _⟩ := st.lend (i := i) hi
  exact c_spread himl hbl (pre := ws v.l) (post := [.int .i64 hv, u64 n]) rfl rfl hl

theorem c_mix {b : Nat} {v : V8} {bk : List UInt8} {hv : Int} {n : UInt64} (him : Im m wI) (hE : (K.blk b (hashC v bk hv n) 88).holds wI) (hm : m b = none) (hl : bk.length = 64) :
    Ret Try.prog 61 #[.pointer (some ⟨b, 0, none⟩)] wI fun _ w' => Tch wI w' [b] [b] ∧ (K.blk b (hashC (comp v bk) bk 0 n) 88).holds w' := by
  have st := St.startE him hE (by simpa [K.blk] using hm)
  refine ret_of Try.call61 Try.func61 rfl Try.ntmps61 Try.results61 rfl ?_
  refine wc_seq ?_
  refine wc_draw TF.mixed ?_
  have st := st.pure (touch_drew _)
  show FL _ _ ?ops ?post [] [] [] _ _
  have fin : ∀ (r : Fr) (w : World) (b2 b3 b4 : Nat), r 0 = .pointer (some ⟨b, 0, none⟩) → r 2 = .pointer (some ⟨b2, 0, none⟩) → r 3 = .pointer (some ⟨b3, 0, none⟩) → r 4 = .pointer (some ⟨b4, 0, none⟩) → r 15 = arr32 (sched bk) → r 16 = arr32 kk → r 17 = .pointer (some ⟨b, 0, none⟩) → r 18 = .pointer (some ⟨b, 0, none⟩) → r 19 = .pointer (some ⟨b, 0, none⟩) → r 20 = arr32 v.l →
    St m m [b] wI w [K.blk b4 (Array.replicate 8 (u32 0)) 81, K.blk b3 (Array.replicate 64 (u32 0)) 89, K.blk b2 (Array.replicate 64 (u32 0)) 89, K.blk b (hashC v bk hv n) 88] → FL Try.prog 115 ?ops ?post [11, 10, 9, 4, 3, 8, 7, 6, 5, 2, 1, 0] [7, 6, 5, 1, 0] [8] r w := by
    clear st
    rintro r w b2 b3 b4 h0 h2 h3 h4 h15 h16 h17 h18 h19 h20 st
    refine fl_o 0 h0 (fl_o 2 h2 (fl_o 3 h3 (fl_o 4 h4 (fl_o 15 h15 (fl_o 16 h16 (fl_o 17 h17 (fl_o 18 h18 (fl_o 19 h19 (fl_o 20 h20 ?_)))))))))
    refine fl_eff1 12 [7, 6, 5] [8] (by kernel_rfl) ⟨obl_ld rfl rfl rfl (v_load rfl (by first | exact st.reads 0 rfl TF.t81 (getV_state ..) | exact st.reads 1 rfl TF.t81 (getV_state ..) | exact st.reads 2 rfl TF.t81 (getV_state ..) | exact st.reads 3 rfl TF.t81 (getV_state ..))), trivial⟩ rfl ?_
    refine wl_storeW (cs := (ws (sched bk)).toArray) 2 st rfl TF.t89 rfl rfl (by simp [ws, length_sched]) rfl (by simpa using one_ws _) ?_
    intro w st
    refine wl_nil ⟨rfl, ?_⟩
    refine fl_eff1 13 [7, 6, 5] [8] (by kernel_rfl) ⟨obl_ld rfl rfl rfl (v_load rfl (by first | exact st.reads 0 rfl TF.t81 (getV_state ..) | exact st.reads 1 rfl TF.t81 (getV_state ..) | exact st.reads 2 rfl TF.t81 (getV_state ..) | exact st.reads 3 rfl TF.t81 (getV_state ..))), trivial⟩ rfl ?_
    refine wl_storeW (cs := (ws kk).toArray) 1 st rfl TF.t89 rfl rfl rfl rfl (by simpa using one_ws _) ?_
    intro w st
    refine wl_nil ⟨rfl, ?_⟩
    refine fl_eff1 14 [] [] (by kernel_rfl) ⟨obl_ld rfl rfl rfl (v_load rfl (by first | exact st.reads 0 rfl TF.t81 (getV_state ..) | exact st.reads 1 rfl TF.t81 (getV_state ..) | exact st.reads 2 rfl TF.t81 (getV_state ..) | exact st.reads 3 rfl TF.t81 (getV_state ..))), trivial⟩ rfl ?_
    refine wl_storeW (cs := (ws v.l).toArray) 0 st rfl TF.t81 rfl rfl rfl rfl (by simpa using one_ws _) ?_
    intro w st
    refine wl_nil ⟨rfl, ?_⟩
    refine fl_nil (by kernel_rfl) trivial ?_
    refine then_go ?_
    refine wc_seq ?_
    refine wc_seq ?_
    refine wc_region ?_
    refine wl_val (v_move' (by conv => (lhs; whnf))) rfl ?_
    refine wl_nil ?_
    refine then_go ?_
    refine wc_block ?_
    refine wc_loop (S := Nat) (fun q r w' => ∃ j, q + j = 64 ∧ r 0 = .pointer (some ⟨b, 0, none⟩) ∧ r 2 = .pointer (some ⟨b2, 0, none⟩) ∧ r 3 = .pointer (some ⟨b3, 0, none⟩) ∧ r 4 = .pointer (some ⟨b4, 0, none⟩) ∧ r 21 = .int .i64 j ∧
      St m m [b] wI w' [K.blk b4 (ws (rnds j v (sched bk)).l).toArray 81, K.blk b3 (ws kk).toArray 89, K.blk b2 (ws (sched bk)).toArray 89, K.blk b (hashC v bk hv n) 88]) id 64 ⟨0, rfl, rfl, rfl, rfl, rfl, rfl, st⟩ ?_
    rintro q r w2 ⟨j, hqj, h0, h2, h3, h4, h21, st⟩
    refine wc_o 0 h0 (wc_o 2 h2 (wc_o 3 h3 (wc_o 4 h4 (wc_o 21 h21 ?_))))
    refine wc_seq ?_
    refine wc_region ?_
    refine wl_val (v_lss rfl rfl) rfl ?_
    refine wl_nil ?_
    refine then_go ?_
    refine wc_seq ?_
    refine wc_if rfl (fun h22 => ?_) (fun h22 => ?_)
    · refine wc_skip ?_
      refine then_go ?_
      refine wc_seq ?_
      refine wc_block ?_
      refine wc_seq ?_
      refine wc_region ?_
      refine wl_val (v_move' (by conv => (lhs; whnf))) rfl ?_
      refine wl_val (v_assign' (by conv => (lhs; whnf))) rfl ?_
      refine wl_nil ?_
      refine then_go ?_
      refine wc_seq ?_
      have hj : j < 64 := by omega
      obtain ⟨u, hu⟩ : ∃ u, u = rnds j v (sched bk) := ⟨_, rfl⟩
      obtain ⟨kj, hkj⟩ : ∃ x, x = kk.getD j 0 := ⟨_, rfl⟩
      obtain ⟨wj, hwj⟩ : ∃ x, x = (sched bk).getD j 0 := ⟨_, rfl⟩
      rw [← hu] at st
      refine wc_draw TF.mixed ?_
      have st := st.pure (touch_drew _)
      refine fl_val 0 rfl (fun _ => (v_iaa 0 Try.underlying81 TF.t80 rfl rfl (by first | rfl | omega) (by first | omega | (dsimp only at *; omega)))) rfl (by kernel_rfl) ?_
      refine fl_ld 1 rfl (v_load rfl (st.reads (v := u32 u.a) 0 rfl TF.t80 rfl)) (by kernel_rfl) ?_
      refine fl_val 2 rfl (fun _ => (v_iaa 4 Try.underlying81 TF.t80 rfl rfl (by first | rfl | omega) (by first | omega | (dsimp only at *; omega)))) rfl (by kernel_rfl) ?_
      refine fl_ld 3 rfl (v_load rfl (st.reads (v := u32 u.e) 0 rfl TF.t80 rfl)) (by kernel_rfl) ?_
      refine fl_eff1 4 [2] [3] (by kernel_rfl) ⟨obl_ld rfl rfl rfl (v_load rfl (st.reads (v := u32 u.e) 0 rfl TF.t80 rfl)), obl_ld rfl rfl rfl (v_load rfl (st.reads (v := u32 u.a) 0 rfl TF.t80 rfl)), trivial⟩ rfl ?_
      refine wl_val (v_assign' (by conv => (lhs; whnf))) rfl ?_
      refine wl_nil ⟨rfl, ?_⟩
      refine fl_eff1 5 [] [] (by kernel_rfl) ⟨obl_ld rfl rfl rfl (v_load rfl (st.reads (v := u32 u.e) 0 rfl TF.t80 rfl)), trivial⟩ rfl ?_
      refine wl_val (v_assign' (by conv => (lhs; whnf))) rfl ?_
      refine wl_nil ⟨rfl, ?_⟩
      refine fl_nil (by kernel_rfl) trivial ?_
      refine then_go ?_
      refine wc_seq ?_
      refine wc_draw TF.mixed ?_
      have st := st.pure (touch_drew _)
      refine fl_val 0 rfl (fun _ => (v_iaa 7 Try.underlying81 TF.t80 rfl rfl (by first | rfl | omega) (by first | omega | (dsimp only at *; omega)))) rfl (by kernel_rfl) ?_
      refine fl_ld 1 rfl (v_load rfl (st.reads (v := u32 u.h) 0 rfl TF.t80 rfl)) (by kernel_rfl) ?_
      refine fl_val 2 rfl (fun _ => (v_move' (by conv => (lhs; whnf)))) rfl (by kernel_rfl) ?_
      refine fl_val 4 rfl (fun _ => (v_move' (by conv => (lhs; whnf)))) rfl (by kernel_rfl) ?_
      refine fl_val 7 rfl (fun _ => (v_move' (by conv => (lhs; whnf)))) rfl (by kernel_rfl) ?_
      refine fl_val 11 rfl (fun _ => (v_move' (by conv => (lhs; whnf)))) rfl (by kernel_rfl) ?_
      refine fl_val 12 rfl (fun _ => (v_iaa 5 Try.underlying81 TF.t80 rfl rfl (by first | rfl | omega) (by first | omega | (dsimp only at *; omega)))) rfl (by kernel_rfl) ?_
      refine fl_ld 13 rfl (v_load rfl (st.reads (v := u32 u.f) 0 rfl TF.t80 rfl)) (by kernel_rfl) ?_
      refine fl_val 14 rfl (fun _ => (v_and32 rfl rfl)) rfl (by kernel_rfl) ?_
      refine fl_val 15 rfl (fun _ => (v_move' (by conv => (lhs; whnf)))) rfl (by kernel_rfl) ?_
      refine fl_val 16 rfl (fun _ => (v_not32 Try.underlying80 rfl)) rfl (by kernel_rfl) ?_
      refine fl_val 17 rfl (fun _ => (v_iaa 6 Try.underlying81 TF.t80 rfl rfl (by first | rfl | omega) (by first | omega | (dsimp only at *; omega)))) rfl (by kernel_rfl) ?_
      refine fl_ld 18 rfl (v_load rfl (st.reads (v := u32 u.g) 0 rfl TF.t80 rfl)) (by kernel_rfl) ?_
      refine fl_val 19 rfl (fun _ => (v_and32 rfl rfl)) rfl (by kernel_rfl) ?_
      refine fl_val 20 rfl (fun _ => (v_xor32 rfl rfl)) rfl (by kernel_rfl) ?_
      refine fl_val 22 rfl (fun _ => (v_move' (by conv => (lhs; whnf)))) rfl (by kernel_rfl) ?_
      refine fl_val 23 rfl (fun _ => (v_iaa j Try.underlying89 TF.t80 rfl rfl (by first | rfl | omega) (by first | omega | (dsimp only at *; omega)))) rfl (by kernel_rfl) ?_
      refine fl_ld 24 rfl (v_load rfl (st.reads (v := u32 kj) 1 rfl TF.t80 (by rw [hkj]; exact getV_wse (j := j) (by omega) (by rw [length_kk]; omega)))) (by kernel_rfl) ?_
      refine fl_val 26 rfl (fun _ => (v_move' (by conv => (lhs; whnf)))) rfl (by kernel_rfl) ?_
      refine fl_val 27 rfl (fun _ => (v_iaa j Try.underlying89 TF.t80 rfl rfl (by first | rfl | omega) (by first | omega | (dsimp only at *; omega)))) rfl (by kernel_rfl) ?_
      refine fl_ld 28 rfl (v_load rfl (st.reads (v := u32 wj) 2 rfl TF.t80 (by rw [hwj]; exact getV_wse (j := j) (by omega) (by rw [length_sched]; omega)))) (by kernel_rfl) ?_
      refine fl_eff1 3 [27, 26, 23, 22, 20, 19, 17, 16, 15, 14, 12, 11, 7, 4, 0] [28, 24, 18, 13, 1] (by kernel_rfl) ⟨obl_ld rfl rfl rfl (v_load rfl (st.reads (v := u32 wj) 2 rfl TF.t80 (by rw [hwj]; exact getV_wse (j := j) (by omega) (by rw [length_sched]; omega)))), obl_ld rfl rfl rfl (v_load rfl (st.reads (v := u32 kj) 1 rfl TF.t80 (by rw [hkj]; exact getV_wse (j := j) (by omega) (by rw [length_kk]; omega)))), obl_ld rfl rfl rfl (v_load rfl (st.reads (v := u32 u.g) 0 rfl TF.t80 rfl)), obl_ld rfl rfl rfl (v_load rfl (st.reads (v := u32 u.f) 0 rfl TF.t80 rfl)), obl_ld rfl rfl rfl (v_load rfl (st.reads (v := u32 u.h) 0 rfl TF.t80 rfl)), trivial⟩ rfl ?_
      refine wl_call rfl (c_rotl 6 (by decide) (by decide) (by decide)) rfl ?_
      rintro v31 w ⟨rfl, rfl⟩
      refine wl_nil ⟨rfl, ?_⟩
      refine fl_eff1 5 [27, 26, 23, 22, 20, 19, 17, 16, 15, 14, 12, 11, 7, 0] [28, 24, 18, 13, 1] (by kernel_rfl) ⟨obl_ld rfl rfl rfl (v_load rfl (st.reads (v := u32 wj) 2 rfl TF.t80 (by rw [hwj]; exact getV_wse (j := j) (by omega) (by rw [length_sched]; omega)))), obl_ld rfl rfl rfl (v_load rfl (st.reads (v := u32 kj) 1 rfl TF.t80 (by rw [hkj]; exact getV_wse (j := j) (by omega) (by rw [length_kk]; omega)))), obl_ld rfl rfl rfl (v_load rfl (st.reads (v := u32 u.g) 0 rfl TF.t80 rfl)), obl_ld rfl rfl rfl (v_load rfl (st.reads (v := u32 u.f) 0 rfl TF.t80 rfl)), obl_ld rfl rfl rfl (v_load rfl (st.reads (v := u32 u.h) 0 rfl TF.t80 rfl)), trivial⟩ rfl ?_
      refine wl_call rfl (c_rotl 11 (by decide) (by decide) (by decide)) rfl ?_
      rintro v33 w ⟨rfl, rfl⟩
      refine wl_nil ⟨rfl, ?_⟩
      refine fl_val 6 rfl (fun _ => (v_xor32 rfl rfl)) rfl (by kernel_rfl) ?_
      refine fl_eff1 8 [6, 27, 26, 23, 22, 20, 19, 17, 16, 15, 14, 12, 11, 0] [28, 24, 18, 13, 1] (by kernel_rfl) ⟨obl_ld rfl rfl rfl (v_load rfl (st.reads (v := u32 wj) 2 rfl TF.t80 (by rw [hwj]; exact getV_wse (j := j) (by omega) (by rw [length_sched]; omega)))), obl_ld rfl rfl rfl (v_load rfl (st.reads (v := u32 kj) 1 rfl TF.t80 (by rw [hkj]; exact getV_wse (j := j) (by omega) (by rw [length_kk]; omega)))), obl_ld rfl rfl rfl (v_load rfl (st.reads (v := u32 u.g) 0 rfl TF.t80 rfl)), obl_ld rfl rfl rfl (v_load rfl (st.reads (v := u32 u.f) 0 rfl TF.t80 rfl)), obl_ld rfl rfl rfl (v_load rfl (st.reads (v := u32 u.h) 0 rfl TF.t80 rfl)), trivial⟩ rfl ?_
      refine wl_call rfl (c_rotl 25 (by decide) (by decide) (by decide)) rfl ?_
      rintro v36 w ⟨rfl, rfl⟩
      refine wl_nil ⟨rfl, ?_⟩
      refine fl_val 9 rfl (fun _ => (v_xor32 rfl rfl)) rfl (by kernel_rfl) ?_
      refine fl_val 10 rfl (fun _ => (v_add32 rfl rfl)) rfl (by kernel_rfl) ?_
      refine fl_val 21 rfl (fun _ => (v_add32 rfl rfl)) rfl (by kernel_rfl) ?_
      refine fl_val 25 rfl (fun _ => (v_add32 rfl rfl)) rfl (by kernel_rfl) ?_
      refine fl_val 29 rfl (fun _ => (v_add32 rfl rfl)) rfl (by kernel_rfl) ?_
      refine fl_eff1 30 [] [] (by kernel_rfl) ⟨obl_ld rfl rfl rfl (v_load rfl (st.reads (v := u32 wj) 2 rfl TF.t80 (by rw [hwj]; exact getV_wse (j := j) (by omega) (by rw [length_sched]; omega)))), obl_ld rfl rfl rfl (v_load rfl (st.reads (v := u32 kj) 1 rfl TF.t80 (by rw [hkj]; exact getV_wse (j := j) (by omega) (by rw [length_kk]; omega)))), obl_ld rfl rfl rfl (v_load rfl (st.reads (v := u32 u.g) 0 rfl TF.t80 rfl)), obl_ld rfl rfl rfl (v_load rfl (st.reads (v := u32 u.f) 0 rfl TF.t80 rfl)), obl_ld rfl rfl rfl (v_load rfl (st.reads (v := u32 u.h) 0 rfl TF.t80 rfl)), trivial⟩ rfl ?_
      refine wl_val (v_assign' (by conv => (lhs; whnf))) rfl ?_
      refine wl_nil ⟨rfl, ?_⟩
      refine fl_nil (by kernel_rfl) trivial ?_
      refine then_go ?_
      refine wc_seq ?_
      refine wc_draw TF.mixed ?_
      have st := st.pure (touch_drew _)
      refine fl_val 0 rfl (fun _ => (v_move' (by conv => (lhs; whnf)))) rfl (by kernel_rfl) ?_
      refine fl_val 2 rfl (fun _ => (v_move' (by conv => (lhs; whnf)))) rfl (by kernel_rfl) ?_
      refine fl_val 5 rfl (fun _ => (v_move' (by conv => (lhs; whnf)))) rfl (by kernel_rfl) ?_
      refine fl_val 8 rfl (fun _ => (v_move' (by conv => (lhs; whnf)))) rfl (by kernel_rfl) ?_
      refine fl_val 9 rfl (fun _ => (v_iaa 1 Try.underlying81 TF.t80 rfl rfl (by first | rfl | omega) (by first | omega | (dsimp only at *; omega)))) rfl (by kernel_rfl) ?_
      refine fl_ld 10 rfl (v_load rfl (st.reads (v := u32 u.b) 0 rfl TF.t80 rfl)) (by kernel_rfl) ?_
      refine fl_val 11 rfl (fun _ => (v_and32 rfl rfl)) rfl (by kernel_rfl) ?_
      refine fl_val 12 rfl (fun _ => (v_move' (by conv => (lhs; whnf)))) rfl (by kernel_rfl) ?_
      refine fl_val 13 rfl (fun _ => (v_iaa 2 Try.underlying81 TF.t80 rfl rfl (by first | rfl | omega) (by first | omega | (dsimp only at *; omega)))) rfl (by kernel_rfl) ?_
      refine fl_ld 14 rfl (v_load rfl (st.reads (v := u32 u.c) 0 rfl TF.t80 rfl)) (by kernel_rfl) ?_
      refine fl_val 15 rfl (fun _ => (v_and32 rfl rfl)) rfl (by kernel_rfl) ?_
      refine fl_val 16 rfl (fun _ => (v_xor32 rfl rfl)) rfl (by kernel_rfl) ?_
      refine fl_val 17 rfl (fun _ => (v_iaa 1 Try.underlying81 TF.t80 rfl rfl (by first | rfl | omega) (by first | omega | (dsimp only at *; omega)))) rfl (by kernel_rfl) ?_
      refine fl_ld 18 rfl (v_load rfl (st.reads (v := u32 u.b) 0 rfl TF.t80 rfl)) (by kernel_rfl) ?_
      refine fl_val 19 rfl (fun _ => (v_iaa 2 Try.underlying81 TF.t80 rfl rfl (by first | rfl | omega) (by first | omega | (dsimp only at *; omega)))) rfl (by kernel_rfl) ?_
      refine fl_ld 20 rfl (v_load rfl (st.reads (v := u32 u.c) 0 rfl TF.t80 rfl)) (by kernel_rfl) ?_
      refine fl_val 21 rfl (fun _ => (v_and32 rfl rfl)) rfl (by kernel_rfl) ?_
      refine fl_val 22 rfl (fun _ => (v_xor32 rfl rfl)) rfl (by kernel_rfl) ?_
      refine fl_eff1 1 [22, 21, 19, 17, 16, 15, 13, 12, 11, 9, 8, 5, 2] [20, 18, 14, 10] (by kernel_rfl) ⟨obl_ld rfl rfl rfl (v_load rfl (st.reads (v := u32 u.c) 0 rfl TF.t80 rfl)), obl_ld rfl rfl rfl (v_load rfl (st.reads (v := u32 u.b) 0 rfl TF.t80 rfl)), obl_ld rfl rfl rfl (v_load rfl (st.reads (v := u32 u.c) 0 rfl TF.t80 rfl)), obl_ld rfl rfl rfl (v_load rfl (st.reads (v := u32 u.b) 0 rfl TF.t80 rfl)), trivial⟩ rfl ?_
      refine wl_call rfl (c_rotl 2 (by decide) (by decide) (by decide)) rfl ?_
      rintro v59 w ⟨rfl, rfl⟩
      refine wl_nil ⟨rfl, ?_⟩
      refine fl_eff1 3 [22, 21, 19, 17, 16, 15, 13, 12, 11, 9, 8, 5] [20, 18, 14, 10] (by kernel_rfl) ⟨obl_ld rfl rfl rfl (v_load rfl (st.reads (v := u32 u.c) 0 rfl TF.t80 rfl)), obl_ld rfl rfl rfl (v_load rfl (st.reads (v := u32 u.b) 0 rfl TF.t80 rfl)), obl_ld rfl rfl rfl (v_load rfl (st.reads (v := u32 u.c) 0 rfl TF.t80 rfl)), obl_ld rfl rfl rfl (v_load rfl (st.reads (v := u32 u.b) 0 rfl TF.t80 rfl)), trivial⟩ rfl ?_
      refine wl_call rfl (c_rotl 13 (by decide) (by decide) (by decide)) rfl ?_
      rintro v61 w ⟨rfl, rfl⟩
      refine wl_nil ⟨rfl, ?_⟩
      refine fl_val 4 rfl (fun _ => (v_xor32 rfl rfl)) rfl (by kernel_rfl) ?_
      refine fl_eff1 6 [4, 22, 21, 19, 17, 16, 15, 13, 12, 11, 9, 8] [20, 18, 14, 10] (by kernel_rfl) ⟨obl_ld rfl rfl rfl (v_load rfl (st.reads (v := u32 u.c) 0 rfl TF.t80 rfl)), obl_ld rfl rfl rfl (v_load rfl (st.reads (v := u32 u.b) 0 rfl TF.t80 rfl)), obl_ld rfl rfl rfl (v_load rfl (st.reads (v := u32 u.c) 0 rfl TF.t80 rfl)), obl_ld rfl rfl rfl (v_load rfl (st.reads (v := u32 u.b) 0 rfl TF.t80 rfl)), trivial⟩ rfl ?_
      refine wl_call rfl (c_rotl 22 (by decide) (by decide) (by decide)) rfl ?_
      rintro v64 w ⟨rfl, rfl⟩
      refine wl_nil ⟨rfl, ?_⟩
      refine fl_val 7 rfl (fun _ => (v_xor32 rfl rfl)) rfl (by kernel_rfl) ?_
      refine fl_val 23 rfl (fun _ => (v_add32 rfl rfl)) rfl (by kernel_rfl) ?_
      refine fl_eff1 24 [] [] (by kernel_rfl) ⟨obl_ld rfl rfl rfl (v_load rfl (st.reads (v := u32 u.c) 0 rfl TF.t80 rfl)), obl_ld rfl rfl rfl (v_load rfl (st.reads (v := u32 u.b) 0 rfl TF.t80 rfl)), obl_ld rfl rfl rfl (v_load rfl (st.reads (v := u32 u.c) 0 rfl TF.t80 rfl)), obl_ld rfl rfl rfl (v_load rfl (st.reads (v := u32 u.b) 0 rfl TF.t80 rfl)), trivial⟩ rfl ?_
      refine wl_val (v_assign' (by conv => (lhs; whnf))) rfl ?_
      refine wl_nil ⟨rfl, ?_⟩
      refine fl_nil (by kernel_rfl) trivial ?_
      refine then_go ?_
      refine wc_seq ?_
      refine wc_draw TF.mixed ?_
      have st := st.pure (touch_drew _)
      refine fl_val 0 rfl (fun _ => (v_sla 1 8 Try.underlying81 TF.t80 rfl ⟨_, _, rfl, rfl⟩ rfl (by omega) (by omega) (by omega))) rfl (by kernel_rfl) ?_
      refine fl_val 1 rfl (fun _ => (v_sla 0 7 Try.underlying81 TF.t80 rfl rfl ⟨_, _, rfl, rfl⟩ (by omega) (by omega) (by omega))) rfl (by kernel_rfl) ?_
      refine fl_eff1 2 [] [] (by kernel_rfl) trivial rfl ?_
      refine wl_copy (size := 1) (b := b4) (off := 0 + 1 * 1) (len := 8 - 1) (cap := 8 - 1) (j := 7) (news := ws [u.a, u.b, u.c, u.d, u.e, u.f, u.g]) 0 st rfl Try.underlying95 TF.t80 rfl rfl (st.srcArr (off := 0) 0 rfl rfl (fun j x hj => by rw [Nat.zero_add]; match j, hj with | 0, hj => exact hj | 1, hj => exact hj | 2, hj => exact hj | 3, hj => exact hj | 4, hj => exact hj | 5, hj => exact hj | 6, hj => exact hj | j + 7, hj => exact absurd hj (by simp [ws])) (one_ws _)) (by simp [ws, V8.l]) rfl ?_
      intro w st
      refine wl_nil ⟨rfl, ?_⟩
      refine fl_nil (by kernel_rfl) trivial ?_
      have e : setSeg (ws u.l).toArray (0 + 1 * 1) ((ws [u.a, u.b, u.c, u.d, u.e, u.f, u.g]).take (min 7 (8 - 1) * 1)) = (ws [u.a, u.a, u.b, u.c, u.d, u.e, u.f, u.g]).toArray := rfl
      change St _ _ _ _ _ [K.blk b4 (setSeg (ws u.l).toArray (0 + 1 * 1) ((ws [u.a, u.b, u.c, u.d, u.e, u.f, u.g]).take (min 7 (8 - 1) * 1))) _, _, _, _] at st
      rw [e] at st
      refine then_go ?_
      refine wc_region ?_
      refine wl_val (v_move' (by conv => (lhs; whnf))) rfl ?_
      refine wl_val (v_move' (by conv => (lhs; whnf))) rfl ?_
      refine wl_val (v_add32 rfl rfl) rfl ?_
      refine wl_val (v_iaa 4 Try.underlying81 TF.t80 rfl rfl (by first | rfl | omega) (by first | omega | (dsimp only at *; omega))) rfl ?_
      refine wl_val (v_load rfl (st.reads (v := u32 u.d) 0 rfl TF.t80 rfl)) rfl ?_
      refine wl_val (v_move' (by conv => (lhs; whnf))) rfl ?_
      refine wl_val (v_add32 rfl rfl) rfl ?_
      refine wl_val (v_iaa 0 Try.underlying81 TF.t80 rfl rfl (by first | rfl | omega) (by first | omega | (dsimp only at *; omega))) rfl ?_
      refine wl_store1 (v := u32 (t1 u kj wj + t2 u)) 0 st rfl TF.t80 rfl rfl rfl (by simp [ws]) ?_
      intro w st
      refine wl_val (v_iaa 4 Try.underlying81 TF.t80 rfl rfl (by first | rfl | omega) (by first | omega | (dsimp only at *; omega))) rfl ?_
      refine wl_store1 (v := u32 (u.d + t1 u kj wj)) 0 st rfl TF.t80 rfl rfl rfl (by simp [ws]) ?_
      intro w st
      refine wl_nil ?_
      have e : (((ws [u.a, u.a, u.b, u.c, u.d, u.e, u.f, u.g]).toArray.setIfInBounds (0 + 0 * 1) (u32 (t1 u kj wj + t2 u))).setIfInBounds (0 + 4 * 1) (u32 (u.d + t1 u kj wj))) = (ws (rnd u kj wj).l).toArray := rfl
      change St _ _ _ _ _ [K.blk b4 (((ws [u.a, u.a, u.b, u.c, u.d, u.e, u.f, u.g]).toArray.setIfInBounds (0 + 0 * 1) (u32 (t1 u kj wj + t2 u))).setIfInBounds (0 + 4 * 1) (u32 (u.d + t1 u kj wj))) _, _, _, _] at st
      rw [e, show rnd u kj wj = rnds (j + 1) v (sched bk) by rw [hu, hkj, hwj]; rfl] at st
      refine block_go (then_go ?_)
      refine wc_region ?_
      refine wl_val (v_add' rfl rfl rfl (by first | omega | (dsimp only at *; omega)) (by first | omega | (dsimp only at *; omega))) rfl ?_
      refine wl_val (v_move' (by conv => (lhs; whnf))) rfl ?_
      refine wl_nil ?_
      refine then_go ?_
      exact ⟨q - 1, by simp; omega, j + 1, by omega, rfl, rfl, rfl, rfl, rfl, st⟩
    · refine wc_exit (then_exit (then_exit (block_hit ?_)))
      refine then_go ?_
      refine wc_seq ?_
      refine wc_seq ?_
      have hj64 : j = 64 := by omega
      subst hj64
      obtain ⟨u, hu⟩ : ∃ u, u = rnds 64 v (sched bk) := ⟨_, rfl⟩
      rw [← hu] at st
      have e0 : hashC v bk hv n = (ws (addI v u 0) ++ (bs bk ++ [.int .i64 hv, u64 n])).toArray := by simp [hashC, addI_zero]
      rw [e0] at st
      refine wc_region ?_
      refine wl_val (v_load rfl (st.reads 0 rfl TF.t81 (getV_all (c := (ws u.l).toArray) rfl))) rfl ?_
      refine wl_val (v_move' (by conv => (lhs; whnf))) rfl ?_
      refine wl_nil ?_
      refine then_go ?_
      refine wc_block ?_
      refine wc_loop (S := Nat) (fun q r w' => ∃ i, q + i = 8 ∧ r 0 = .pointer (some ⟨b, 0, none⟩) ∧ r 95 = arr32 u.l ∧ r 96 = .int .i64 i ∧
        St m m [b] wI w' [K.blk b4 (ws u.l).toArray 81, K.blk b3 (ws kk).toArray 89, K.blk b2 (ws (sched bk)).toArray 89, K.blk b (ws (addI v u i) ++ (bs bk ++ [.int .i64 hv, u64 n])).toArray 88]) id 8 ⟨0, rfl, rfl, rfl, rfl, st⟩ ?_
      rintro q2 r w3 ⟨i, hqi, h0, h95, h96, st⟩
      refine wc_o 0 h0 (wc_o 95 h95 (wc_o 96 h96 ?_))
      refine wc_seq ?_
      refine wc_region ?_
      refine wl_val (v_lss rfl rfl) rfl ?_
      refine wl_nil ?_
      refine then_go ?_
      refine wc_seq ?_
      refine wc_if rfl (fun h97 => ?_) (fun h97 => ?_)
      · refine wc_skip ?_
        refine then_go ?_
        refine wc_seq ?_
        refine wc_block ?_
        refine wc_seq ?_
        have hi : i < 8 := by omega
        refine wc_region ?_
        refine wl_val (v_move' (by conv => (lhs; whnf))) rfl ?_
        refine wl_val (v_index_a (v := u32 (u.l.getD i 0)) Try.underlying81 TF.t80 rfl rfl (by omega) (by omega) (getV_wse (j := i) (by simp) (by rw [length_l]; omega))) rfl ?_
        refine wl_val (v_assign' (by conv => (lhs; whnf))) rfl ?_
        refine wl_val (v_assign' (by conv => (lhs; whnf))) rfl ?_
        refine wl_nil ?_
        refine then_go ?_
        refine wc_draw TF.mixed ?_
        have st := st.pure (touch_drew _)
        refine fl_val 0 rfl (fun _ => (v_move' (by conv => (lhs; whnf)))) rfl (by kernel_rfl) ?_
        refine fl_val 1 rfl (fun _ => (v_move' (by conv => (lhs; whnf)))) rfl (by kernel_rfl) ?_
        refine fl_val 2 rfl (fun _ => (v_nil rfl)) rfl (by kernel_rfl) ?_
        refine fl_val 3 rfl (fun _ => (v_fa TF.f88_0 rfl)) rfl (by kernel_rfl) ?_
        refine fl_val 4 rfl (fun _ => (v_iaa i Try.underlying81 TF.t80 rfl rfl (by first | rfl | omega) (by first | omega | (dsimp only at *; omega)))) rfl (by kernel_rfl) ?_
        refine fl_ld 5 rfl (v_load rfl (st.reads (v := u32 (v.l.getD i 0)) 3 rfl TF.t80 (by rw [← addI_at v u i hi]; exact getV_ws (j := i) (by omega) (by rw [length_addI]; omega)))) (by kernel_rfl) ?_
        refine fl_val 6 rfl (fun _ => (v_move' (by conv => (lhs; whnf)))) rfl (by kernel_rfl) ?_
        refine fl_val 7 rfl (fun _ => (v_add32 rfl rfl)) rfl (by kernel_rfl) ?_
        refine fl_val 8 rfl (fun _ => (v_nil rfl)) rfl (by kernel_rfl) ?_
        refine fl_val 9 rfl (fun _ => (v_fa TF.f88_0 rfl)) rfl (by kernel_rfl) ?_
        refine fl_val 10 rfl (fun _ => (v_iaa i Try.underlying81 TF.t80 rfl rfl (by first | rfl | omega) (by first | omega | (dsimp only at *; omega)))) rfl (by kernel_rfl) ?_
        refine fl_eff1 11 [9, 8] [] (by kernel_rfl) ⟨obl_ld rfl rfl rfl (v_load rfl (st.reads (v := u32 (v.l.getD i 0)) 3 rfl TF.t80 (by rw [← addI_at v u i hi]; exact getV_ws (j := i) (by omega) (by rw [length_addI]; omega)))), trivial⟩ rfl ?_
        refine wl_store1 (v := u32 (v.l.getD i 0 + u.l.getD i 0)) 3 st rfl TF.t80 rfl rfl rfl (by simp [ws, length_addI]; omega) ?_
        intro w st
        refine wl_nil ⟨rfl, ?_⟩
        refine fl_nil (by kernel_rfl) trivial ?_
        refine block_go (then_go ?_)
        refine wc_region ?_
        refine wl_val (v_add' rfl rfl rfl (by first | omega | (dsimp only at *; omega)) (by first | omega | (dsimp only at *; omega))) rfl ?_
        refine wl_val (v_move' (by conv => (lhs; whnf))) rfl ?_
        refine wl_nil ?_
        refine then_go ?_
        refine ⟨q2 - 1, by simp; omega, i + 1, by omega, rfl, rfl, rfl, ?_⟩
        have e := set_ws (L := addI v u i) (X := bs bk ++ [.int .i64 hv, u64 n]) (o := 0 + 0 + i * 1) (i := i) (y := v.l.getD i 0 + u.l.getD i 0) (by omega) (by rw [length_addI]; omega)
        rw [addI_succ] at e
        rw [← e]
        exact st
      · refine wc_exit (then_exit (then_exit (block_hit ?_)))
        refine then_go ?_
        have hi8 : i = 8 := by omega
        subst hi8
        rw [addI_all, hu] at st
        refine wc_region ?_
        refine wl_val (v_move' (by conv => (lhs; whnf))) rfl ?_
        refine wl_val (v_nil rfl) rfl ?_
        refine wl_val (v_fa TF.f88_2 rfl) rfl ?_
        refine wl_store1 (v := .int .i64 0) 3 st rfl TF.t3 rfl rfl rfl (by simp [ws, bs, hl, length_l]) ?_
        intro w st
        refine wl_nil ?_
        have e : (ws (v.add (rnds 64 v (sched bk))).l ++ (bs bk ++ [.int .i64 hv, u64 n])).toArray.setIfInBounds (0 + 72) (.int .i64 0) = hashC (comp v bk) bk 0 n := by
          have := set_app (A := ws (v.add (rnds 64 v (sched bk))).l ++ bs bk) (B := [u64 n]) (x := .int .i64 0) (y := .int .i64 hv) (n := 0 + 72) (by simp [ws, bs, hl, length_l])
          rw [← List.append_assoc]
          rw [show [Value.int .i64 hv, u64 n] = Value.int .i64 hv :: [u64 n] from rfl, this]
          rfl
        have hfin := st.at (i := 3) rfl
        rw [e] at hfin
        exact end0 ⟨st.touch, hfin⟩
  refine fl_val 0 rfl (fun _ => (v_move' (by conv => (lhs; whnf)))) rfl (by kernel_rfl) ?_
  refine fl_val 1 rfl (fun _ => (v_nil rfl)) rfl (by kernel_rfl) ?_
  refine fl_val 2 rfl (fun _ => (v_fa TF.f88_1 rfl)) rfl (by kernel_rfl) ?_
  refine fl_val 5 rfl (fun _ => (v_move' (by conv => (lhs; whnf)))) rfl (by kernel_rfl) ?_
  refine fl_val 6 rfl (fun _ => (v_nil rfl)) rfl (by kernel_rfl) ?_
  refine fl_val 7 rfl (fun _ => (v_fa TF.f88_0 rfl)) rfl (by kernel_rfl) ?_
  refine fl_ld 8 rfl (v_load rfl (by first | exact st.reads 0 rfl TF.t81 (getV_state ..) | exact st.reads 1 rfl TF.t81 (getV_state ..) | exact st.reads 2 rfl TF.t81 (getV_state ..) | exact st.reads 3 rfl TF.t81 (getV_state ..))) (by kernel_rfl) ?_
  refine fl_effs [3, 9, 10, 11] (by kernel_rfl) ⟨obl_ld rfl rfl rfl (v_load rfl (by first | exact st.reads 0 rfl TF.t81 (getV_state ..) | exact st.reads 1 rfl TF.t81 (getV_state ..) | exact st.reads 2 rfl TF.t81 (getV_state ..) | exact st.reads 3 rfl TF.t81 (getV_state ..))), trivial⟩ (all4 ?_ ?_ ?_ ?_)
  · refine stepE 3 (pure' := [7, 6, 5, 1, 0]) (lds' := [8]) rfl (by kernel_rfl) (by kernel_rfl) ?_
    refine wl_call rfl (by first | exact c_spreadS st 0 rfl hl | exact c_spreadS st 1 rfl hl | exact c_spreadS st 2 rfl hl | exact c_spreadS st 3 rfl hl) rfl ?_
    rintro v15 w ⟨t, rfl⟩
    have st := st.pure t
    refine wl_nil ⟨rfl, ?_⟩
    refine fl_effs [4, 9, 10, 11] (by kernel_rfl) ⟨obl_ld rfl rfl rfl (v_load rfl (by first | exact st.reads 0 rfl TF.t81 (getV_state ..) | exact st.reads 1 rfl TF.t81 (getV_state ..) | exact st.reads 2 rfl TF.t81 (getV_state ..) | exact st.reads 3 rfl TF.t81 (getV_state ..))), trivial⟩ (all4 ?_ ?_ ?_ ?_)
    · refine stepE 4 (pure' := [7, 6, 5, 1, 0]) (lds' := [8]) rfl (by kernel_rfl) (by kernel_rfl) ?_
      refine wl_call rfl (c_factors st.im) rfl ?_
      rintro v16 w ⟨t, rfl⟩
      have st := st.pure t
      refine wl_nil ⟨rfl, ?_⟩
      refine fl_effs [9, 10, 11] (by kernel_rfl) ⟨obl_ld rfl rfl rfl (v_load rfl (by first | exact st.reads 0 rfl TF.t81 (getV_state ..) | exact st.reads 1 rfl TF.t81 (getV_state ..) | exact st.reads 2 rfl TF.t81 (getV_state ..) | exact st.reads 3 rfl TF.t81 (getV_state ..))), trivial⟩ (all3 ?_ ?_ ?_)
      · refine stepE 9 (pure' := [7, 6, 5, 1, 0]) (lds' := [8]) rfl (by kernel_rfl) (by kernel_rfl) ?_
        refine wl_alloc TF.z89 st rfl ?_
        intro b2 w st
        refine wl_nil ⟨rfl, ?_⟩
        refine fl_effs [10, 11] (by kernel_rfl) ⟨obl_ld rfl rfl rfl (v_load rfl (by first | exact st.reads 0 rfl TF.t81 (getV_state ..) | exact st.reads 1 rfl TF.t81 (getV_state ..) | exact st.reads 2 rfl TF.t81 (getV_state ..) | exact st.reads 3 rfl TF.t81 (getV_state ..))), trivial⟩ (all2 ?_ ?_)
        · refine stepE 10 (pure' := [7, 6, 5, 1, 0]) (lds' := [8]) rfl (by kernel_rfl) (by kernel_rfl) ?_
          refine wl_alloc TF.z89 st rfl ?_
          intro b3 w st
          refine wl_nil ⟨rfl, ?_⟩
          refine fl_eff1 11 [7, 6, 5, 1, 0] [8] (by kernel_rfl) ⟨obl_ld rfl rfl rfl (v_load rfl (by first | exact st.reads 0 rfl TF.t81 (getV_state ..) | exact st.reads 1 rfl TF.t81 (getV_state ..) | exact st.reads 2 rfl TF.t81 (getV_state ..) | exact st.reads 3 rfl TF.t81 (getV_state ..))), trivial⟩ rfl ?_
          refine wl_alloc TF.z81 st rfl ?_
          intro b4 w st
          refine wl_nil ⟨rfl, ?_⟩
          refine FL.permB [11, 10, 9, 4, 3, 8, 7, 6, 5, 2, 1, 0] [7, 6, 5, 1, 0] [8] (by kernel_rfl) ?_
          exact fin _ _ _ _ _ rfl rfl rfl rfl rfl rfl rfl rfl rfl rfl (by first | exact st | exact st.perm p3_2 | exact st.perm p3_3 | exact st.perm p3_4 | exact st.perm p3_5 | exact st.perm p3_6)
        · refine stepE 11 (pure' := [7, 6, 5, 1, 0]) (lds' := [8]) rfl (by kernel_rfl) (by kernel_rfl) ?_
          refine wl_alloc TF.z81 st rfl ?_
          intro b4 w st
          refine wl_nil ⟨rfl, ?_⟩
          refine fl_eff1 10 [7, 6, 5, 1, 0] [8] (by kernel_rfl) ⟨obl_ld rfl rfl rfl (v_load rfl (by first | exact st.reads 0 rfl TF.t81 (getV_state ..) | exact st.reads 1 rfl TF.t81 (getV_state ..) | exact st.reads 2 rfl TF.t81 (getV_state ..) | exact st.reads 3 rfl TF.t81 (getV_state ..))), trivial⟩ rfl ?_
          refine wl_alloc TF.z89 st rfl ?_
          intro b3 w st
          refine wl_nil ⟨rfl, ?_⟩
          refine FL.permB [11, 10, 9, 4, 3, 8, 7, 6, 5, 2, 1, 0] [7, 6, 5, 1, 0] [8] (by kernel_rfl) ?_
          exact fin _ _ _ _ _ rfl rfl rfl rfl rfl rfl rfl rfl rfl rfl (by first | exact st | exact st.perm p3_2 | exact st.perm p3_3 | exact st.perm p3_4 | exact st.perm p3_5 | exact st.perm p3_6)
      · refine stepE 10 (pure' := [7, 6, 5, 1, 0]) (lds' := [8]) rfl (by kernel_rfl) (by kernel_rfl) ?_
        refine wl_alloc TF.z89 st rfl ?_
        intro b3 w st
        refine wl_nil ⟨rfl, ?_⟩
        refine fl_effs [9, 11] (by kernel_rfl) ⟨obl_ld rfl rfl rfl (v_load rfl (by first | exact st.reads 0 rfl TF.t81 (getV_state ..) | exact st.reads 1 rfl TF.t81 (getV_state ..) | exact st.reads 2 rfl TF.t81 (getV_state ..) | exact st.reads 3 rfl TF.t81 (getV_state ..))), trivial⟩ (all2 ?_ ?_)
        · refine stepE 9 (pure' := [7, 6, 5, 1, 0]) (lds' := [8]) rfl (by kernel_rfl) (by kernel_rfl) ?_
          refine wl_alloc TF.z89 st rfl ?_
          intro b2 w st
          refine wl_nil ⟨rfl, ?_⟩
          refine fl_eff1 11 [7, 6, 5, 1, 0] [8] (by kernel_rfl) ⟨obl_ld rfl rfl rfl (v_load rfl (by first | exact st.reads 0 rfl TF.t81 (getV_state ..) | exact st.reads 1 rfl TF.t81 (getV_state ..) | exact st.reads 2 rfl TF.t81 (getV_state ..) | exact st.reads 3 rfl TF.t81 (getV_state ..))), trivial⟩ rfl ?_
          refine wl_alloc TF.z81 st rfl ?_
          intro b4 w st
          refine wl_nil ⟨rfl, ?_⟩
          refine FL.permB [11, 10, 9, 4, 3, 8, 7, 6, 5, 2, 1, 0] [7, 6, 5, 1, 0] [8] (by kernel_rfl) ?_
          exact fin _ _ _ _ _ rfl rfl rfl rfl rfl rfl rfl rfl rfl rfl (by first | exact st | exact st.perm p3_2 | exact st.perm p3_3 | exact st.perm p3_4 | exact st.perm p3_5 | exact st.perm p3_6)
        · refine stepE 11 (pure' := [7, 6, 5, 1, 0]) (lds' := [8]) rfl (by kernel_rfl) (by kernel_rfl) ?_
          refine wl_alloc TF.z81 st rfl ?_
          intro b4 w st
          refine wl_nil ⟨rfl, ?_⟩
          refine fl_eff1 9 [7, 6, 5, 1, 0] [8] (by kernel_rfl) ⟨obl_ld rfl rfl rfl (v_load rfl (by first | exact st.reads 0 rfl TF.t81 (getV_state ..) | exact st.reads 1 rfl TF.t81 (getV_state ..) | exact st.reads 2 rfl TF.t81 (getV_state ..) | exact st.reads 3 rfl TF.t81 (getV_state ..))), trivial⟩ rfl ?_
          refine wl_alloc TF.z89 st rfl ?_
          intro b2 w st
          refine wl_nil ⟨rfl, ?_⟩
          refine FL.permB [11, 10, 9, 4, 3, 8, 7, 6, 5, 2, 1, 0] [7, 6, 5, 1, 0] [8] (by kernel_rfl) ?_
          exact fin _ _ _ _ _ rfl rfl rfl rfl rfl rfl rfl rfl rfl rfl (by first | exact st | exact st.perm p3_2 | exact st.perm p3_3 | exact st.perm p3_4 | exact st.perm p3_5 | exact st.perm p3_6)
      · refine stepE 11 (pure' := [7, 6, 5, 1, 0]) (lds' := [8]) rfl (by kernel_rfl) (by kernel_rfl) ?_
        refine wl_alloc TF.z81 st rfl ?_
        intro b4 w st
        refine wl_nil ⟨rfl, ?_⟩
        refine fl_effs [9, 10] (by kernel_rfl) ⟨obl_ld rfl rfl rfl (v_load rfl (by first | exact st.reads 0 rfl TF.t81 (getV_state ..) | exact st.reads 1 rfl TF.t81 (getV_state ..) | exact st.reads 2 rfl TF.t81 (getV_state ..) | exact st.reads 3 rfl TF.t81 (getV_state ..))), trivial⟩ (all2 ?_ ?_)
        · refine stepE 9 (pure' := [7, 6, 5, 1, 0]) (lds' := [8]) rfl (by kernel_rfl) (by kernel_rfl) ?_
          refine wl_alloc TF.z89 st rfl ?_
          intro b2 w st
          refine wl_nil ⟨rfl, ?_⟩
          refine fl_eff1 10 [7, 6, 5, 1, 0] [8] (by kernel_rfl) ⟨obl_ld rfl rfl rfl (v_load rfl (by first | exact st.reads 0 rfl TF.t81 (getV_state ..) | exact st.reads 1 rfl TF.t81 (getV_state ..) | exact st.reads 2 rfl TF.t81 (getV_state ..) | exact st.reads 3 rfl TF.t81 (getV_state ..))), trivial⟩ rfl ?_
          refine wl_alloc TF.z89 st rfl ?_
          intro b3 w st
          refine wl_nil ⟨rfl, ?_⟩
          refine FL.permB [11, 10, 9, 4, 3, 8, 7, 6, 5, 2, 1, 0] [7, 6, 5, 1, 0] [8] (by kernel_rfl) ?_
          exact fin _ _ _ _ _ rfl rfl rfl rfl rfl rfl rfl rfl rfl rfl (by first | exact st | exact st.perm p3_2 | exact st.perm p3_3 | exact st.perm p3_4 | exact st.perm p3_5 | exact st.perm p3_6)
        · refine stepE 10 (pure' := [7, 6, 5, 1, 0]) (lds' := [8]) rfl (by kernel_rfl) (by kernel_rfl) ?_
          refine wl_alloc TF.z89 st rfl ?_
          intro b3 w st
          refine wl_nil ⟨rfl, ?_⟩
          refine fl_eff1 9 [7, 6, 5, 1, 0] [8] (by kernel_rfl) ⟨obl_ld rfl rfl rfl (v_load rfl (by first | exact st.reads 0 rfl TF.t81 (getV_state ..) | exact st.reads 1 rfl TF.t81 (getV_state ..) | exact st.reads 2 rfl TF.t81 (getV_state ..) | exact st.reads 3 rfl TF.t81 (getV_state ..))), trivial⟩ rfl ?_
          refine wl_alloc TF.z89 st rfl ?_
          intro b2 w st
          refine wl_nil ⟨rfl, ?_⟩
          refine FL.permB [11, 10, 9, 4, 3, 8, 7, 6, 5, 2, 1, 0] [7, 6, 5, 1, 0] [8] (by kernel_rfl) ?_
          exact fin _ _ _ _ _ rfl rfl rfl rfl rfl rfl rfl rfl rfl rfl (by first | exact st | exact st.perm p3_2 | exact st.perm p3_3 | exact st.perm p3_4 | exact st.perm p3_5 | exact st.perm p3_6)
    · refine stepE 9 (pure' := [7, 6, 5, 1, 0]) (lds' := [8]) rfl (by kernel_rfl) (by kernel_rfl) ?_
      refine wl_alloc TF.z89 st rfl ?_
      intro b2 w st
      refine wl_nil ⟨rfl, ?_⟩
      refine fl_effs [4, 10, 11] (by kernel_rfl) ⟨obl_ld rfl rfl rfl (v_load rfl (by first | exact st.reads 0 rfl TF.t81 (getV_state ..) | exact st.reads 1 rfl TF.t81 (getV_state ..) | exact st.reads 2 rfl TF.t81 (getV_state ..) | exact st.reads 3 rfl TF.t81 (getV_state ..))), trivial⟩ (all3 ?_ ?_ ?_)
      · refine stepE 4 (pure' := [7, 6, 5, 1, 0]) (lds' := [8]) rfl (by kernel_rfl) (by kernel_rfl) ?_
        refine wl_call rfl (c_factors st.im) rfl ?_
        rintro v16 w ⟨t, rfl⟩
        have st := st.pure t
        refine wl_nil ⟨rfl, ?_⟩
        refine fl_effs [10, 11] (by kernel_rfl) ⟨obl_ld rfl rfl rfl (v_load rfl (by first | exact st.reads 0 rfl TF.t81 (getV_state ..) | exact st.reads 1 rfl TF.t81 (getV_state ..) | exact st.reads 2 rfl TF.t81 (getV_state ..) | exact st.reads 3 rfl TF.t81 (getV_state ..))), trivial⟩ (all2 ?_ ?_)
        · refine stepE 10 (pure' := [7, 6, 5, 1, 0]) (lds' := [8]) rfl (by kernel_rfl) (by kernel_rfl) ?_
          refine wl_alloc TF.z89 st rfl ?_
          intro b3 w st
          refine wl_nil ⟨rfl, ?_⟩
          refine fl_eff1 11 [7, 6, 5, 1, 0] [8] (by kernel_rfl) ⟨obl_ld rfl rfl rfl (v_load rfl (by first | exact st.reads 0 rfl TF.t81 (getV_state ..) | exact st.reads 1 rfl TF.t81 (getV_state ..) | exact st.reads 2 rfl TF.t81 (getV_state ..) | exact st.reads 3 rfl TF.t81 (getV_state ..))), trivial⟩ rfl ?_
          refine wl_alloc TF.z81 st rfl ?_
          intro b4 w st
          refine wl_nil ⟨rfl, ?_⟩
          refine FL.permB [11, 10, 9, 4, 3, 8, 7, 6, 5, 2, 1, 0] [7, 6, 5, 1, 0] [8] (by kernel_rfl) ?_
          exact fin _ _ _ _ _ rfl rfl rfl rfl rfl rfl rfl rfl rfl rfl (by first | exact st | exact st.perm p3_2 | exact st.perm p3_3 | exact st.perm p3_4 | exact st.perm p3_5 | exact st.perm p3_6)
        · refine stepE 11 (pure' := [7, 6, 5, 1, 0]) (lds' := [8]) rfl (by kernel_rfl) (by kernel_rfl) ?_
          refine wl_alloc TF.z81 st rfl ?_
          intro b4 w st
          refine wl_nil ⟨rfl, ?_⟩
          refine fl_eff1 10 [7, 6, 5, 1, 0] [8] (by kernel_rfl) ⟨obl_ld rfl rfl rfl (v_load rfl (by first | exact st.reads 0 rfl TF.t81 (getV_state ..) | exact st.reads 1 rfl TF.t81 (getV_state ..) | exact st.reads 2 rfl TF.t81 (getV_state ..) | exact st.reads 3 rfl TF.t81 (getV_state ..))), trivial⟩ rfl ?_
          refine wl_alloc TF.z89 st rfl ?_
          intro b3 w st
          refine wl_nil ⟨rfl, ?_⟩
          refine FL.permB [11, 10, 9, 4, 3, 8, 7, 6, 5, 2, 1, 0] [7, 6, 5, 1, 0] [8] (by kernel_rfl) ?_
          exact fin _ _ _ _ _ rfl rfl rfl rfl rfl rfl rfl rfl rfl rfl (by first | exact st | exact st.perm p3_2 | exact st.perm p3_3 | exact st.perm p3_4 | exact st.perm p3_5 | exact st.perm p3_6)
      · refine stepE 10 (pure' := [7, 6, 5, 1, 0]) (lds' := [8]) rfl (by kernel_rfl) (by kernel_rfl) ?_
        refine wl_alloc TF.z89 st rfl ?_
        intro b3 w st
        refine wl_nil ⟨rfl, ?_⟩
        refine fl_effs [4, 11] (by kernel_rfl) ⟨obl_ld rfl rfl rfl (v_load rfl (by first | exact st.reads 0 rfl TF.t81 (getV_state ..) | exact st.reads 1 rfl TF.t81 (getV_state ..) | exact st.reads 2 rfl TF.t81 (getV_state ..) | exact st.reads 3 rfl TF.t81 (getV_state ..))), trivial⟩ (all2 ?_ ?_)
        · refine stepE 4 (pure' := [7, 6, 5, 1, 0]) (lds' := [8]) rfl (by kernel_rfl) (by kernel_rfl) ?_
          refine wl_call rfl (c_factors st.im) rfl ?_
          rintro v16 w ⟨t, rfl⟩
          have st := st.pure t
          refine wl_nil ⟨rfl, ?_⟩
          refine fl_eff1 11 [7, 6, 5, 1, 0] [8] (by kernel_rfl) ⟨obl_ld rfl rfl rfl (v_load rfl (by first | exact st.reads 0 rfl TF.t81 (getV_state ..) | exact st.reads 1 rfl TF.t81 (getV_state ..) | exact st.reads 2 rfl TF.t81 (getV_state ..) | exact st.reads 3 rfl TF.t81 (getV_state ..))), trivial⟩ rfl ?_
          refine wl_alloc TF.z81 st rfl ?_
          intro b4 w st
          refine wl_nil ⟨rfl, ?_⟩
          refine FL.permB [11, 10, 9, 4, 3, 8, 7, 6, 5, 2, 1, 0] [7, 6, 5, 1, 0] [8] (by kernel_rfl) ?_
          exact fin _ _ _ _ _ rfl rfl rfl rfl rfl rfl rfl rfl rfl rfl (by first | exact st | exact st.perm p3_2 | exact st.perm p3_3 | exact st.perm p3_4 | exact st.perm p3_5 | exact st.perm p3_6)
        · refine stepE 11 (pure' := [7, 6, 5, 1, 0]) (lds' := [8]) rfl (by kernel_rfl) (by kernel_rfl) ?_
          refine wl_alloc TF.z81 st rfl ?_
          intro b4 w st
          refine wl_nil ⟨rfl, ?_⟩
          refine fl_eff1 4 [7, 6, 5, 1, 0] [8] (by kernel_rfl) ⟨obl_ld rfl rfl rfl (v_load rfl (by first | exact st.reads 0 rfl TF.t81 (getV_state ..) | exact st.reads 1 rfl TF.t81 (getV_state ..) | exact st.reads 2 rfl TF.t81 (getV_state ..) | exact st.reads 3 rfl TF.t81 (getV_state ..))), trivial⟩ rfl ?_
          refine wl_call rfl (c_factors st.im) rfl ?_
          rintro v16 w ⟨t, rfl⟩
          have st := st.pure t
          refine wl_nil ⟨rfl, ?_⟩
          refine FL.permB [11, 10, 9, 4, 3, 8, 7, 6, 5, 2, 1, 0] [7, 6, 5, 1, 0] [8] (by kernel_rfl) ?_
          exact fin _ _ _ _ _ rfl rfl rfl rfl rfl rfl rfl rfl rfl rfl (by first | exact st | exact st.perm p3_2 | exact st.perm p3_3 | exact st.perm p3_4 | exact st.perm p3_5 | exact st.perm p3_6)
      · refine stepE 11 (pure' := [7, 6, 5, 1, 0]) (lds' := [8]) rfl (by kernel_rfl) (by kernel_rfl) ?_
        refine wl_alloc TF.z81 st rfl ?_
        intro b4 w st
        refine wl_nil ⟨rfl, ?_⟩
        refine fl_effs [4, 10] (by kernel_rfl) ⟨obl_ld rfl rfl rfl (v_load rfl (by first | exact st.reads 0 rfl TF.t81 (getV_state ..) | exact st.reads 1 rfl TF.t81 (getV_state ..) | exact st.reads 2 rfl TF.t81 (getV_state ..) | exact st.reads 3 rfl TF.t81 (getV_state ..))), trivial⟩ (all2 ?_ ?_)
        · refine stepE 4 (pure' := [7, 6, 5, 1, 0]) (lds' := [8]) rfl (by kernel_rfl) (by kernel_rfl) ?_
          refine wl_call rfl (c_factors st.im) rfl ?_
          rintro v16 w ⟨t, rfl⟩
          have st := st.pure t
          refine wl_nil ⟨rfl, ?_⟩
          refine fl_eff1 10 [7, 6, 5, 1, 0] [8] (by kernel_rfl) ⟨obl_ld rfl rfl rfl (v_load rfl (by first | exact st.reads 0 rfl TF.t81 (getV_state ..) | exact st.reads 1 rfl TF.t81 (getV_state ..) | exact st.reads 2 rfl TF.t81 (getV_state ..) | exact st.reads 3 rfl TF.t81 (getV_state ..))), trivial⟩ rfl ?_
          refine wl_alloc TF.z89 st rfl ?_
          intro b3 w st
          refine wl_nil ⟨rfl, ?_⟩
          refine FL.permB [11, 10, 9, 4, 3, 8, 7, 6, 5, 2, 1, 0] [7, 6, 5, 1, 0] [8] (by kernel_rfl) ?_
          exact fin _ _ _ _ _ rfl rfl rfl rfl rfl rfl rfl rfl rfl rfl (by first | exact st | exact st.perm p3_2 | exact st.perm p3_3 | exact st.perm p3_4 | exact st.perm p3_5 | exact st.perm p3_6)
        · refine stepE 10 (pure' := [7, 6, 5, 1, 0]) (lds' := [8]) rfl (by kernel_rfl) (by kernel_rfl) ?_
          refine wl_alloc TF.z89 st rfl ?_
          intro b3 w st
          refine wl_nil ⟨rfl, ?_⟩
          refine fl_eff1 4 [7, 6, 5, 1, 0] [8] (by kernel_rfl) ⟨obl_ld rfl rfl rfl (v_load rfl (by first | exact st.reads 0 rfl TF.t81 (getV_state ..) | exact st.reads 1 rfl TF.t81 (getV_state ..) | exact st.reads 2 rfl TF.t81 (getV_state ..) | exact st.reads 3 rfl TF.t81 (getV_state ..))), trivial⟩ rfl ?_
          refine wl_call rfl (c_factors st.im) rfl ?_
          rintro v16 w ⟨t, rfl⟩
          have st := st.pure t
          refine wl_nil ⟨rfl, ?_⟩
          refine FL.permB [11, 10, 9, 4, 3, 8, 7, 6, 5, 2, 1, 0] [7, 6, 5, 1, 0] [8] (by kernel_rfl) ?_
          exact fin _ _ _ _ _ rfl rfl rfl rfl rfl rfl rfl rfl rfl rfl (by first | exact st | exact st.perm p3_2 | exact st.perm p3_3 | exact st.perm p3_4 | exact st.perm p3_5 | exact st.perm p3_6)
    · refine stepE 10 (pure' := [7, 6, 5, 1, 0]) (lds' := [8]) rfl (by kernel_rfl) (by kernel_rfl) ?_
      refine wl_alloc TF.z89 st rfl ?_
      intro b3 w st
      refine wl_nil ⟨rfl, ?_⟩
      refine fl_effs [4, 9, 11] (by kernel_rfl) ⟨obl_ld rfl rfl rfl (v_load rfl (by first | exact st.reads 0 rfl TF.t81 (getV_state ..) | exact st.reads 1 rfl TF.t81 (getV_state ..) | exact st.reads 2 rfl TF.t81 (getV_state ..) | exact st.reads 3 rfl TF.t81 (getV_state ..))), trivial⟩ (all3 ?_ ?_ ?_)
      · refine stepE 4 (pure' := [7, 6, 5, 1, 0]) (lds' := [8]) rfl (by kernel_rfl) (by kernel_rfl) ?_
        refine wl_call rfl (c_factors st.im) rfl ?_
        rintro v16 w ⟨t, rfl⟩
        have st := st.pure t
        refine wl_nil ⟨rfl, ?_⟩
        refine fl_effs [9, 11] (by kernel_rfl) ⟨obl_ld rfl rfl rfl (v_load rfl (by first | exact st.reads 0 rfl TF.t81 (getV_state ..) | exact st.reads 1 rfl TF.t81 (getV_state ..) | exact st.reads 2 rfl TF.t81 (getV_state ..) | exact st.reads 3 rfl TF.t81 (getV_state ..))), trivial⟩ (all2 ?_ ?_)
        · refine stepE 9 (pure' := [7, 6, 5, 1, 0]) (lds' := [8]) rfl (by kernel_rfl) (by kernel_rfl) ?_
          refine wl_alloc TF.z89 st rfl ?_
          intro b2 w st
          refine wl_nil ⟨rfl, ?_⟩
          refine fl_eff1 11 [7, 6, 5, 1, 0] [8] (by kernel_rfl) ⟨obl_ld rfl rfl rfl (v_load rfl (by first | exact st.reads 0 rfl TF.t81 (getV_state ..) | exact st.reads 1 rfl TF.t81 (getV_state ..) | exact st.reads 2 rfl TF.t81 (getV_state ..) | exact st.reads 3 rfl TF.t81 (getV_state ..))), trivial⟩ rfl ?_
          refine wl_alloc TF.z81 st rfl ?_
          intro b4 w st
          refine wl_nil ⟨rfl, ?_⟩
          refine FL.permB [11, 10, 9, 4, 3, 8, 7, 6, 5, 2, 1, 0] [7, 6, 5, 1, 0] [8] (by kernel_rfl) ?_
          exact fin _ _ _ _ _ rfl rfl rfl rfl rfl rfl rfl rfl rfl rfl (by first | exact st | exact st.perm p3_2 | exact st.perm p3_3 | exact st.perm p3_4 | exact st.perm p3_5 | exact st.perm p3_6)
        · refine stepE 11 (pure' := [7, 6, 5, 1, 0]) (lds' := [8]) rfl (by kernel_rfl) (by kernel_rfl) ?_
          refine wl_alloc TF.z81 st rfl ?_
          intro b4 w st
          refine wl_nil ⟨rfl, ?_⟩
          refine fl_eff1 9 [7, 6, 5, 1, 0] [8] (by kernel_rfl) ⟨obl_ld rfl rfl rfl (v_load rfl (by first | exact st.reads 0 rfl TF.t81 (getV_state ..) | exact st.reads 1 rfl TF.t81 (getV_state ..) | exact st.reads 2 rfl TF.t81 (getV_state ..) | exact st.reads 3 rfl TF.t81 (getV_state ..))), trivial⟩ rfl ?_
          refine wl_alloc TF.z89 st rfl ?_
          intro b2 w st
          refine wl_nil ⟨rfl, ?_⟩
          refine FL.permB [11, 10, 9, 4, 3, 8, 7, 6, 5, 2, 1, 0] [7, 6, 5, 1, 0] [8] (by kernel_rfl) ?_
          exact fin _ _ _ _ _ rfl rfl rfl rfl rfl rfl rfl rfl rfl rfl (by first | exact st | exact st.perm p3_2 | exact st.perm p3_3 | exact st.perm p3_4 | exact st.perm p3_5 | exact st.perm p3_6)
      · refine stepE 9 (pure' := [7, 6, 5, 1, 0]) (lds' := [8]) rfl (by kernel_rfl) (by kernel_rfl) ?_
        refine wl_alloc TF.z89 st rfl ?_
        intro b2 w st
        refine wl_nil ⟨rfl, ?_⟩
        refine fl_effs [4, 11] (by kernel_rfl) ⟨obl_ld rfl rfl rfl (v_load rfl (by first | exact st.reads 0 rfl TF.t81 (getV_state ..) | exact st.reads 1 rfl TF.t81 (getV_state ..) | exact st.reads 2 rfl TF.t81 (getV_state ..) | exact st.reads 3 rfl TF.t81 (getV_state ..))), trivial⟩ (all2 ?_ ?_)
        · refine stepE 4 (pure' := [7, 6, 5, 1, 0]) (lds' := [8]) rfl (by kernel_rfl) (by kernel_rfl) ?_
          refine wl_call rfl (c_factors st.im) rfl ?_
          rintro v16 w ⟨t, rfl⟩
          have st := st.pure t
          refine wl_nil ⟨rfl, ?_⟩
          refine fl_eff1 11 [7, 6, 5, 1, 0] [8] (by kernel_rfl) ⟨obl_ld rfl rfl rfl (v_load rfl (by first | exact st.reads 0 rfl TF.t81 (getV_state ..) | exact st.reads 1 rfl TF.t81 (getV_state ..) | exact st.reads 2 rfl TF.t81 (getV_state ..) | exact st.reads 3 rfl TF.t81 (getV_state ..))), trivial⟩ rfl ?_
          refine wl_alloc TF.z81 st rfl ?_
          intro b4 w st
          refine wl_nil ⟨rfl, ?_⟩
          refine FL.permB [11, 10, 9, 4, 3, 8, 7, 6, 5, 2, 1, 0] [7, 6, 5, 1, 0] [8] (by kernel_rfl) ?_
          exact fin _ _ _ _ _ rfl rfl rfl rfl rfl rfl rfl rfl rfl rfl (by first | exact st | exact st.perm p3_2 | exact st.perm p3_3 | exact st.perm p3_4 | exact st.perm p3_5 | exact st.perm p3_6)
        · refine stepE 11 (pure' := [7, 6, 5, 1, 0]) (lds' := [8]) rfl (by kernel_rfl) (by kernel_rfl) ?_
          refine wl_alloc TF.z81 st rfl ?_
          intro b4 w st
          refine wl_nil ⟨rfl, ?_⟩
          refine fl_eff1 4 [7, 6, 5, 1, 0] [8] (by kernel_rfl) ⟨obl_ld rfl rfl rfl (v_load rfl (by first | exact st.reads 0 rfl TF.t81 (getV_state ..) | exact st.reads 1 rfl TF.t81 (getV_state ..) | exact st.reads 2 rfl TF.t81 (getV_state ..) | exact st.reads 3 rfl TF.t81 (getV_state ..))), trivial⟩ rfl ?_
          refine wl_call rfl (c_factors st.im) rfl ?_
          rintro v16 w ⟨t, rfl⟩
          have st := st.pure t
          refine wl_nil ⟨rfl, ?_⟩
          refine FL.permB [11, 10, 9, 4, 3, 8, 7, 6, 5, 2, 1, 0] [7, 6, 5, 1, 0] [8] (by kernel_rfl) ?_
          exact fin _ _ _ _ _ rfl rfl rfl rfl rfl rfl rfl rfl rfl rfl (by first | exact st | exact st.perm p3_2 | exact st.perm p3_3 | exact st.perm p3_4 | exact st.perm p3_5 | exact st.perm p3_6)
      · refine stepE 11 (pure' := [7, 6, 5, 1, 0]) (lds' := [8]) rfl (by kernel_rfl) (by kernel_rfl) ?_
        refine wl_alloc TF.z81 st rfl ?_
        intro b4 w st
        refine wl_nil ⟨rfl, ?_⟩
        refine fl_effs [4, 9] (by kernel_rfl) ⟨obl_ld rfl rfl rfl (v_load rfl (by first | exact st.reads 0 rfl TF.t81 (getV_state ..) | exact st.reads 1 rfl TF.t81 (getV_state ..) | exact st.reads 2 rfl TF.t81 (getV_state ..) | exact st.reads 3 rfl TF.t81 (getV_state ..))), trivial⟩ (all2 ?_ ?_)
        · refine stepE 4 (pure' := [7, 6, 5, 1, 0]) (lds' := [8]) rfl (by kernel_rfl) (by kernel_rfl) ?_
          refine wl_call rfl (c_factors st.im) rfl ?_
          rintro v16 w ⟨t, rfl⟩
          have st := st.pure t
          refine wl_nil ⟨rfl, ?_⟩
          refine fl_eff1 9 [7, 6, 5, 1, 0] [8] (by kernel_rfl) ⟨obl_ld rfl rfl rfl (v_load rfl (by first | exact st.reads 0 rfl TF.t81 (getV_state ..) | exact st.reads 1 rfl TF.t81 (getV_state ..) | exact st.reads 2 rfl TF.t81 (getV_state ..) | exact st.reads 3 rfl TF.t81 (getV_state ..))), trivial⟩ rfl ?_
          refine wl_alloc TF.z89 st rfl ?_
          intro b2 w st
          refine wl_nil ⟨rfl, ?_⟩
          refine FL.permB [11, 10, 9, 4, 3, 8, 7, 6, 5, 2, 1, 0] [7, 6, 5, 1, 0] [8] (by kernel_rfl) ?_
          exact fin _ _ _ _ _ rfl rfl rfl rfl rfl rfl rfl rfl rfl rfl (by first | exact st | exact st.perm p3_2 | exact st.perm p3_3 | exact st.perm p3_4 | exact st.perm p3_5 | exact st.perm p3_6)
        · refine stepE 9 (pure' := [7, 6, 5, 1, 0]) (lds' := [8]) rfl (by kernel_rfl) (by kernel_rfl) ?_
          refine wl_alloc TF.z89 st rfl ?_
          intro b2 w st
          refine wl_nil ⟨rfl, ?_⟩
          refine fl_eff1 4 [7, 6, 5, 1, 0] [8] (by kernel_rfl) ⟨obl_ld rfl rfl rfl (v_load rfl (by first | exact st.reads 0 rfl TF.t81 (getV_state ..) | exact st.reads 1 rfl TF.t81 (getV_state ..) | exact st.reads 2 rfl TF.t81 (getV_state ..) | exact st.reads 3 rfl TF.t81 (getV_state ..))), trivial⟩ rfl ?_
          refine wl_call rfl (c_factors st.im) rfl ?_
          rintro v16 w ⟨t, rfl⟩
          have st := st.pure t
          refine wl_nil ⟨rfl, ?_⟩
          refine FL.permB [11, 10, 9, 4, 3, 8, 7, 6, 5, 2, 1, 0] [7, 6, 5, 1, 0] [8] (by kernel_rfl) ?_
          exact fin _ _ _ _ _ rfl rfl rfl rfl rfl rfl rfl rfl rfl rfl (by first | exact st | exact st.perm p3_2 | exact st.perm p3_3 | exact st.perm p3_4 | exact st.perm p3_5 | exact st.perm p3_6)
    · refine stepE 11 (pure' := [7, 6, 5, 1, 0]) (lds' := [8]) rfl (by kernel_rfl) (by kernel_rfl) ?_
      refine wl_alloc TF.z81 st rfl ?_
      intro b4 w st
      refine wl_nil ⟨rfl, ?_⟩
      refine fl_effs [4, 9, 10] (by kernel_rfl) ⟨obl_ld rfl rfl rfl (v_load rfl (by first | exact st.reads 0 rfl TF.t81 (getV_state ..) | exact st.reads 1 rfl TF.t81 (getV_state ..) | exact st.reads 2 rfl TF.t81 (getV_state ..) | exact st.reads 3 rfl TF.t81 (getV_state ..))), trivial⟩ (all3 ?_ ?_ ?_)
      · refine stepE 4 (pure' := [7, 6, 5, 1, 0]) (lds' := [8]) rfl (by kernel_rfl) (by kernel_rfl) ?_
        refine wl_call rfl (c_factors st.im) rfl ?_
        rintro v16 w ⟨t, rfl⟩
        have st := st.pure t
        refine wl_nil ⟨rfl, ?_⟩
        refine fl_effs [9, 10] (by kernel_rfl) ⟨obl_ld rfl rfl rfl (v_load rfl (by first | exact st.reads 0 rfl TF.t81 (getV_state ..) | exact st.reads 1 rfl TF.t81 (getV_state ..) | exact st.reads 2 rfl TF.t81 (getV_state ..) | exact st.reads 3 rfl TF.t81 (getV_state ..))), trivial⟩ (all2 ?_ ?_)
        · refine stepE 9 (pure' := [7, 6, 5, 1, 0]) (lds' := [8]) rfl (by kernel_rfl) (by kernel_rfl) ?_
          refine wl_alloc TF.z89 st rfl ?_
          intro b2 w st
          refine wl_nil ⟨rfl, ?_⟩
          refine fl_eff1 10 [7, 6, 5, 1, 0] [8] (by kernel_rfl) ⟨obl_ld rfl rfl rfl (v_load rfl (by first | exact st.reads 0 rfl TF.t81 (getV_state ..) | exact st.reads 1 rfl TF.t81 (getV_state ..) | exact st.reads 2 rfl TF.t81 (getV_state ..) | exact st.reads 3 rfl TF.t81 (getV_state ..))), trivial⟩ rfl ?_
          refine wl_alloc TF.z89 st rfl ?_
          intro b3 w st
          refine wl_nil ⟨rfl, ?_⟩
          refine FL.permB [11, 10, 9, 4, 3, 8, 7, 6, 5, 2, 1, 0] [7, 6, 5, 1, 0] [8] (by kernel_rfl) ?_
          exact fin _ _ _ _ _ rfl rfl rfl rfl rfl rfl rfl rfl rfl rfl (by first | exact st | exact st.perm p3_2 | exact st.perm p3_3 | exact st.perm p3_4 | exact st.perm p3_5 | exact st.perm p3_6)
        · refine stepE 10 (pure' := [7, 6, 5, 1, 0]) (lds' := [8]) rfl (by kernel_rfl) (by kernel_rfl) ?_
          refine wl_alloc TF.z89 st rfl ?_
          intro b3 w st
          refine wl_nil ⟨rfl, ?_⟩
          refine fl_eff1 9 [7, 6, 5, 1, 0] [8] (by kernel_rfl) ⟨obl_ld rfl rfl rfl (v_load rfl (by first | exact st.reads 0 rfl TF.t81 (getV_state ..) | exact st.reads 1 rfl TF.t81 (getV_state ..) | exact st.reads 2 rfl TF.t81 (getV_state ..) | exact st.reads 3 rfl TF.t81 (getV_state ..))), trivial⟩ rfl ?_
          refine wl_alloc TF.z89 st rfl ?_
          intro b2 w st
          refine wl_nil ⟨rfl, ?_⟩
          refine FL.permB [11, 10, 9, 4, 3, 8, 7, 6, 5, 2, 1, 0] [7, 6, 5, 1, 0] [8] (by kernel_rfl) ?_
          exact fin _ _ _ _ _ rfl rfl rfl rfl rfl rfl rfl rfl rfl rfl (by first | exact st | exact st.perm p3_2 | exact st.perm p3_3 | exact st.perm p3_4 | exact st.perm p3_5 | exact st.perm p3_6)
      · refine stepE 9 (pure' := [7, 6, 5, 1, 0]) (lds' := [8]) rfl (by kernel_rfl) (by kernel_rfl) ?_
        refine wl_alloc TF.z89 st rfl ?_
        intro b2 w st
        refine wl_nil ⟨rfl, ?_⟩
        refine fl_effs [4, 10] (by kernel_rfl) ⟨obl_ld rfl rfl rfl (v_load rfl (by first | exact st.reads 0 rfl TF.t81 (getV_state ..) | exact st.reads 1 rfl TF.t81 (getV_state ..) | exact st.reads 2 rfl TF.t81 (getV_state ..) | exact st.reads 3 rfl TF.t81 (getV_state ..))), trivial⟩ (all2 ?_ ?_)
        · refine stepE 4 (pure' := [7, 6, 5, 1, 0]) (lds' := [8]) rfl (by kernel_rfl) (by kernel_rfl) ?_
          refine wl_call rfl (c_factors st.im) rfl ?_
          rintro v16 w ⟨t, rfl⟩
          have st := st.pure t
          refine wl_nil ⟨rfl, ?_⟩
          refine fl_eff1 10 [7, 6, 5, 1, 0] [8] (by kernel_rfl) ⟨obl_ld rfl rfl rfl (v_load rfl (by first | exact st.reads 0 rfl TF.t81 (getV_state ..) | exact st.reads 1 rfl TF.t81 (getV_state ..) | exact st.reads 2 rfl TF.t81 (getV_state ..) | exact st.reads 3 rfl TF.t81 (getV_state ..))), trivial⟩ rfl ?_
          refine wl_alloc TF.z89 st rfl ?_
          intro b3 w st
          refine wl_nil ⟨rfl, ?_⟩
          refine FL.permB [11, 10, 9, 4, 3, 8, 7, 6, 5, 2, 1, 0] [7, 6, 5, 1, 0] [8] (by kernel_rfl) ?_
          exact fin _ _ _ _ _ rfl rfl rfl rfl rfl rfl rfl rfl rfl rfl (by first | exact st | exact st.perm p3_2 | exact st.perm p3_3 | exact st.perm p3_4 | exact st.perm p3_5 | exact st.perm p3_6)
        · refine stepE 10 (pure' := [7, 6, 5, 1, 0]) (lds' := [8]) rfl (by kernel_rfl) (by kernel_rfl) ?_
          refine wl_alloc TF.z89 st rfl ?_
          intro b3 w st
          refine wl_nil ⟨rfl, ?_⟩
          refine fl_eff1 4 [7, 6, 5, 1, 0] [8] (by kernel_rfl) ⟨obl_ld rfl rfl rfl (v_load rfl (by first | exact st.reads 0 rfl TF.t81 (getV_state ..) | exact st.reads 1 rfl TF.t81 (getV_state ..) | exact st.reads 2 rfl TF.t81 (getV_state ..) | exact st.reads 3 rfl TF.t81 (getV_state ..))), trivial⟩ rfl ?_
          refine wl_call rfl (c_factors st.im) rfl ?_
          rintro v16 w ⟨t, rfl⟩
          have st := st.pure t
          refine wl_nil ⟨rfl, ?_⟩
          refine FL.permB [11, 10, 9, 4, 3, 8, 7, 6, 5, 2, 1, 0] [7, 6, 5, 1, 0] [8] (by kernel_rfl) ?_
          exact fin _ _ _ _ _ rfl rfl rfl rfl rfl rfl rfl rfl rfl rfl (by first | exact st | exact st.perm p3_2 | exact st.perm p3_3 | exact st.perm p3_4 | exact st.perm p3_5 | exact st.perm p3_6)
      · refine stepE 10 (pure' := [7, 6, 5, 1, 0]) (lds' := [8]) rfl (by kernel_rfl) (by kernel_rfl) ?_
        refine wl_alloc TF.z89 st rfl ?_
        intro b3 w st
        refine wl_nil ⟨rfl, ?_⟩
        refine fl_effs [4, 9] (by kernel_rfl) ⟨obl_ld rfl rfl rfl (v_load rfl (by first | exact st.reads 0 rfl TF.t81 (getV_state ..) | exact st.reads 1 rfl TF.t81 (getV_state ..) | exact st.reads 2 rfl TF.t81 (getV_state ..) | exact st.reads 3 rfl TF.t81 (getV_state ..))), trivial⟩ (all2 ?_ ?_)
        · refine stepE 4 (pure' := [7, 6, 5, 1, 0]) (lds' := [8]) rfl (by kernel_rfl) (by kernel_rfl) ?_
          refine wl_call rfl (c_factors st.im) rfl ?_
          rintro v16 w ⟨t, rfl⟩
          have st := st.pure t
          refine wl_nil ⟨rfl, ?_⟩
          refine fl_eff1 9 [7, 6, 5, 1, 0] [8] (by kernel_rfl) ⟨obl_ld rfl rfl rfl (v_load rfl (by first | exact st.reads 0 rfl TF.t81 (getV_state ..) | exact st.reads 1 rfl TF.t81 (getV_state ..) | exact st.reads 2 rfl TF.t81 (getV_state ..) | exact st.reads 3 rfl TF.t81 (getV_state ..))), trivial⟩ rfl ?_
          refine wl_alloc TF.z89 st rfl ?_
          intro b2 w st
          refine wl_nil ⟨rfl, ?_⟩
          refine FL.permB [11, 10, 9, 4, 3, 8, 7, 6, 5, 2, 1, 0] [7, 6, 5, 1, 0] [8] (by kernel_rfl) ?_
          exact fin _ _ _ _ _ rfl rfl rfl rfl rfl rfl rfl rfl rfl rfl (by first | exact st | exact st.perm p3_2 | exact st.perm p3_3 | exact st.perm p3_4 | exact st.perm p3_5 | exact st.perm p3_6)
        · refine stepE 9 (pure' := [7, 6, 5, 1, 0]) (lds' := [8]) rfl (by kernel_rfl) (by kernel_rfl) ?_
          refine wl_alloc TF.z89 st rfl ?_
          intro b2 w st
          refine wl_nil ⟨rfl, ?_⟩
          refine fl_eff1 4 [7, 6, 5, 1, 0] [8] (by kernel_rfl) ⟨obl_ld rfl rfl rfl (v_load rfl (by first | exact st.reads 0 rfl TF.t81 (getV_state ..) | exact st.reads 1 rfl TF.t81 (getV_state ..) | exact st.reads 2 rfl TF.t81 (getV_state ..) | exact st.reads 3 rfl TF.t81 (getV_state ..))), trivial⟩ rfl ?_
          refine wl_call rfl (c_factors st.im) rfl ?_
          rintro v16 w ⟨t, rfl⟩
          have st := st.pure t
          refine wl_nil ⟨rfl, ?_⟩
          refine FL.permB [11, 10, 9, 4, 3, 8, 7, 6, 5, 2, 1, 0] [7, 6, 5, 1, 0] [8] (by kernel_rfl) ?_
          exact fin _ _ _ _ _ rfl rfl rfl rfl rfl rfl rfl rfl rfl rfl (by first | exact st | exact st.perm p3_2 | exact st.perm p3_3 | exact st.perm p3_4 | exact st.perm p3_5 | exact st.perm p3_6)
  · refine stepE 9 (pure' := [7, 6, 5, 2, 1, 0]) (lds' := [8]) rfl (by kernel_rfl) (by kernel_rfl) ?_
    refine wl_alloc TF.z89 st rfl ?_
    intro b2 w st
    refine wl_nil ⟨rfl, ?_⟩
    refine fl_effs [3, 10, 11] (by kernel_rfl) ⟨obl_ld rfl rfl rfl (v_load rfl (by first | exact st.reads 0 rfl TF.t81 (getV_state ..) | exact st.reads 1 rfl TF.t81 (getV_state ..) | exact st.reads 2 rfl TF.t81 (getV_state ..) | exact st.reads 3 rfl TF.t81 (getV_state ..))), trivial⟩ (all3 ?_ ?_ ?_)
    · refine stepE 3 (pure' := [7, 6, 5, 1, 0]) (lds' := [8]) rfl (by kernel_rfl) (by kernel_rfl) ?_
      refine wl_call rfl (by first | exact c_spreadS st 0 rfl hl | exact c_spreadS st 1 rfl hl | exact c_spreadS st 2 rfl hl | exact c_spreadS st 3 rfl hl) rfl ?_
      rintro v15 w ⟨t, rfl⟩
      have st := st.pure t
      refine wl_nil ⟨rfl, ?_⟩
      refine fl_effs [4, 10, 11] (by kernel_rfl) ⟨obl_ld rfl rfl rfl (v_load rfl (by first | exact st.reads 0 rfl TF.t81 (getV_state ..) | exact st.reads 1 rfl TF.t81 (getV_state ..) | exact st.reads 2 rfl TF.t81 (getV_state ..) | exact st.reads 3 rfl TF.t81 (getV_state ..))), trivial⟩ (all3 ?_ ?_ ?_)
      · refine stepE 4 (pure' := [7, 6, 5, 1, 0]) (lds' := [8]) rfl (by kernel_rfl) (by kernel_rfl) ?_
        refine wl_call rfl (c_factors st.im) rfl ?_
        rintro v16 w ⟨t, rfl⟩
        have st := st.pure t
        refine wl_nil ⟨rfl, ?_⟩
        refine fl_effs [10, 11] (by kernel_rfl) ⟨obl_ld rfl rfl rfl (v_load rfl (by first | exact st.reads 0 rfl TF.t81 (getV_state ..) | exact st.reads 1 rfl TF.t81 (getV_state ..) | exact st.reads 2 rfl TF.t81 (getV_state ..) | exact st.reads 3 rfl TF.t81 (getV_state ..))), trivial⟩ (all2 ?_ ?_)
        · refine stepE 10 (pure' := [7, 6, 5, 1, 0]) (lds' := [8]) rfl (by kernel_rfl) (by kernel_rfl) ?_
          refine wl_alloc TF.z89 st rfl ?_
          intro b3 w st
          refine wl_nil ⟨rfl, ?_⟩
          refine fl_eff1 11 [7, 6, 5, 1, 0] [8] (by kernel_rfl) ⟨obl_ld rfl rfl rfl (v_load rfl (by first | exact st.reads 0 rfl TF.t81 (getV_state ..) | exact st.reads 1 rfl TF.t81 (getV_state ..) | exact st.reads 2 rfl TF.t81 (getV_state ..) | exact st.reads 3 rfl TF.t81 (getV_state ..))), trivial⟩ rfl ?_
          refine wl_alloc TF.z81 st rfl ?_
          intro b4 w st
          refine wl_nil ⟨rfl, ?_⟩
          refine FL.permB [11, 10, 9, 4, 3, 8, 7, 6, 5, 2, 1, 0] [7, 6, 5, 1, 0] [8] (by kernel_rfl) ?_
          exact fin _ _ _ _ _ rfl rfl rfl rfl rfl rfl rfl rfl rfl rfl (by first | exact st | exact st.perm p3_2 | exact st.perm p3_3 | exact st.perm p3_4 | exact st.perm p3_5 | exact st.perm p3_6)
        · refine stepE 11 (pure' := [7, 6, 5, 1, 0]) (lds' := [8]) rfl (by kernel_rfl) (by kernel_rfl) ?_
          refine wl_alloc TF.z81 st rfl ?_
          intro b4 w st
          refine wl_nil ⟨rfl, ?_⟩
          refine fl_eff1 10 [7, 6, 5, 1, 0] [8] (by kernel_rfl) ⟨obl_ld rfl rfl rfl (v_load rfl (by first | exact st.reads 0 rfl TF.t81 (getV_state ..) | exact st.reads 1 rfl TF.t81 (getV_state ..) | exact st.reads 2 rfl TF.t81 (getV_state ..) | exact st.reads 3 rfl TF.t81 (getV_state ..))), trivial⟩ rfl ?_
          refine wl_alloc TF.z89 st rfl ?_
          intro b3 w st
          refine wl_nil ⟨rfl, ?_⟩
          refine FL.permB [11, 10, 9, 4, 3, 8, 7, 6, 5, 2, 1, 0] [7, 6, 5, 1, 0] [8] (by kernel_rfl) ?_
          exact fin _ _ _ _ _ rfl rfl rfl rfl rfl rfl rfl rfl rfl rfl (by first | exact st | exact st.perm p3_2 | exact st.perm p3_3 | exact st.perm p3_4 | exact st.perm p3_5 | exact st.perm p3_6)
      · refine stepE 10 (pure' := [7, 6, 5, 1, 0]) (lds' := [8]) rfl (by kernel_rfl) (by kernel_rfl) ?_
        refine wl_alloc TF.z89 st rfl ?_
        intro b3 w st
        refine wl_nil ⟨rfl, ?_⟩
        refine fl_effs [4, 11] (by kernel_rfl) ⟨obl_ld rfl rfl rfl (v_load rfl (by first | exact st.reads 0 rfl TF.t81 (getV_state ..) | exact st.reads 1 rfl TF.t81 (getV_state ..) | exact st.reads 2 rfl TF.t81 (getV_state ..) | exact st.reads 3 rfl TF.t81 (getV_state ..))), trivial⟩ (all2 ?_ ?_)
        · refine stepE 4 (pure' := [7, 6, 5, 1, 0]) (lds' := [8]) rfl (by kernel_rfl) (by kernel_rfl) ?_
          refine wl_call rfl (c_factors st.im) rfl ?_
          rintro v16 w ⟨t, rfl⟩
          have st := st.pure t
          refine wl_nil ⟨rfl, ?_⟩
          refine fl_eff1 11 [7, 6, 5, 1, 0] [8] (by kernel_rfl) ⟨obl_ld rfl rfl rfl (v_load rfl (by first | exact st.reads 0 rfl TF.t81 (getV_state ..) | exact st.reads 1 rfl TF.t81 (getV_state ..) | exact st.reads 2 rfl TF.t81 (getV_state ..) | exact st.reads 3 rfl TF.t81 (getV_state ..))), trivial⟩ rfl ?_
          refine wl_alloc TF.z81 st rfl ?_
          intro b4 w st
          refine wl_nil ⟨rfl, ?_⟩
          refine FL.permB [11, 10, 9, 4, 3, 8, 7, 6, 5, 2, 1, 0] [7, 6, 5, 1, 0] [8] (by kernel_rfl) ?_
          exact fin _ _ _ _ _ rfl rfl rfl rfl rfl rfl rfl rfl rfl rfl (by first | exact st | exact st.perm p3_2 | exact st.perm p3_3 | exact st.perm p3_4 | exact st.perm p3_5 | exact st.perm p3_6)
        · refine stepE 11 (pure' := [7, 6, 5, 1, 0]) (lds' := [8]) rfl (by kernel_rfl) (by kernel_rfl) ?_
          refine wl_alloc TF.z81 st rfl ?_
          intro b4 w st
          refine wl_nil ⟨rfl, ?_⟩
          refine fl_eff1 4 [7, 6, 5, 1, 0] [8] (by kernel_rfl) ⟨obl_ld rfl rfl rfl (v_load rfl (by first | exact st.reads 0 rfl TF.t81 (getV_state ..) | exact st.reads 1 rfl TF.t81 (getV_state ..) | exact st.reads 2 rfl TF.t81 (getV_state ..) | exact st.reads 3 rfl TF.t81 (getV_state ..))), trivial⟩ rfl ?_
          refine wl_call rfl (c_factors st.im) rfl ?_
          rintro v16 w ⟨t, rfl⟩
          have st := st.pure t
          refine wl_nil ⟨rfl, ?_⟩
          refine FL.permB [11, 10, 9, 4, 3, 8, 7, 6, 5, 2, 1, 0] [7, 6, 5, 1, 0] [8] (by kernel_rfl) ?_
          exact fin _ _ _ _ _ rfl rfl rfl rfl rfl rfl rfl rfl rfl rfl (by first | exact st | exact st.perm p3_2 | exact st.perm p3_3 | exact st.perm p3_4 | exact st.perm p3_5 | exact st.perm p3_6)
      · refine stepE 11 (pure' := [7, 6, 5, 1, 0]) (lds' := [8]) rfl (by kernel_rfl) (by kernel_rfl) ?_
        refine wl_alloc TF.z81 st rfl ?_
        intro b4 w st
        refine wl_nil ⟨rfl, ?_⟩
        refine fl_effs [4, 10] (by kernel_rfl) ⟨obl_ld rfl rfl rfl (v_load rfl (by first | exact st.reads 0 rfl TF.t81 (getV_state ..) | exact st.reads 1 rfl TF.t81 (getV_state ..) | exact st.reads 2 rfl TF.t81 (getV_state ..) | exact st.reads 3 rfl TF.t81 (getV_state ..))), trivial⟩ (all2 ?_ ?_)
        · refine stepE 4 (pure' := [7, 6, 5, 1, 0]) (lds' := [8]) rfl (by kernel_rfl) (by kernel_rfl) ?_
          refine wl_call rfl (c_factors st.im) rfl ?_
          rintro v16 w ⟨t, rfl⟩
          have st := st.pure t
          refine wl_nil ⟨rfl, ?_⟩
          refine fl_eff1 10 [7, 6, 5, 1, 0] [8] (by kernel_rfl) ⟨obl_ld rfl rfl rfl (v_load rfl (by first | exact st.reads 0 rfl TF.t81 (getV_state ..) | exact st.reads 1 rfl TF.t81 (getV_state ..) | exact st.reads 2 rfl TF.t81 (getV_state ..) | exact st.reads 3 rfl TF.t81 (getV_state ..))), trivial⟩ rfl ?_
          refine wl_alloc TF.z89 st rfl ?_
          intro b3 w st
          refine wl_nil ⟨rfl, ?_⟩
          refine FL.permB [11, 10, 9, 4, 3, 8, 7, 6, 5, 2, 1, 0] [7, 6, 5, 1, 0] [8] (by kernel_rfl) ?_
          exact fin _ _ _ _ _ rfl rfl rfl rfl rfl rfl rfl rfl rfl rfl (by first | exact st | exact st.perm p3_2 | exact st.perm p3_3 | exact st.perm p3_4 | exact st.perm p3_5 | exact st.perm p3_6)
        · refine stepE 10 (pure' := [7, 6, 5, 1, 0]) (lds' := [8]) rfl (by kernel_rfl) (by kernel_rfl) ?_
          refine wl_alloc TF.z89 st rfl ?_
          intro b3 w st
          refine wl_nil ⟨rfl, ?_⟩
          refine fl_eff1 4 [7, 6, 5, 1, 0] [8] (by kernel_rfl) ⟨obl_ld rfl rfl rfl (v_load rfl (by first | exact st.reads 0 rfl TF.t81 (getV_state ..) | exact st.reads 1 rfl TF.t81 (getV_state ..) | exact st.reads 2 rfl TF.t81 (getV_state ..) | exact st.reads 3 rfl TF.t81 (getV_state ..))), trivial⟩ rfl ?_
          refine wl_call rfl (c_factors st.im) rfl ?_
          rintro v16 w ⟨t, rfl⟩
          have st := st.pure t
          refine wl_nil ⟨rfl, ?_⟩
          refine FL.permB [11, 10, 9, 4, 3, 8, 7, 6, 5, 2, 1, 0] [7, 6, 5, 1, 0] [8] (by kernel_rfl) ?_
          exact fin _ _ _ _ _ rfl rfl rfl rfl rfl rfl rfl rfl rfl rfl (by first | exact st | exact st.perm p3_2 | exact st.perm p3_3 | exact st.perm p3_4 | exact st.perm p3_5 | exact st.perm p3_6)
    · refine stepE 10 (pure' := [7, 6, 5, 2, 1, 0]) (lds' := [8]) rfl (by kernel_rfl) (by kernel_rfl) ?_
      refine wl_alloc TF.z89 st rfl ?_
      intro b3 w st
      refine wl_nil ⟨rfl, ?_⟩
      refine fl_effs [3, 11] (by kernel_rfl) ⟨obl_ld rfl rfl rfl (v_load rfl (by first | exact st.reads 0 rfl TF.t81 (getV_state ..) | exact st.reads 1 rfl TF.t81 (getV_state ..) | exact st.reads 2 rfl TF.t81 (getV_state ..) | exact st.reads 3 rfl TF.t81 (getV_state ..))), trivial⟩ (all2 ?_ ?_)
      · refine stepE 3 (pure' := [7, 6, 5, 1, 0]) (lds' := [8]) rfl (by kernel_rfl) (by kernel_rfl) ?_
        refine wl_call rfl (by first | exact c_spreadS st 0 rfl hl | exact c_spreadS st 1 rfl hl | exact c_spreadS st 2 rfl hl | exact c_spreadS st 3 rfl hl) rfl ?_
        rintro v15 w ⟨t, rfl⟩
        have st := st.pure t
        refine wl_nil ⟨rfl, ?_⟩
        refine fl_effs [4, 11] (by kernel_rfl) ⟨obl_ld rfl rfl rfl (v_load rfl (by first | exact st.reads 0 rfl TF.t81 (getV_state ..) | exact st.reads 1 rfl TF.t81 (getV_state ..) | exact st.reads 2 rfl TF.t81 (getV_state ..) | exact st.reads 3 rfl TF.t81 (getV_state ..))), trivial⟩ (all2 ?_ ?_)
        · refine stepE 4 (pure' := [7, 6, 5, 1, 0]) (lds' := [8]) rfl (by kernel_rfl) (by kernel_rfl) ?_
          refine wl_call rfl (c_factors st.im) rfl ?_
          rintro v16 w ⟨t, rfl⟩
          have st := st.pure t
          refine wl_nil ⟨rfl, ?_⟩
          refine fl_eff1 11 [7, 6, 5, 1, 0] [8] (by kernel_rfl) ⟨obl_ld rfl rfl rfl (v_load rfl (by first | exact st.reads 0 rfl TF.t81 (getV_state ..) | exact st.reads 1 rfl TF.t81 (getV_state ..) | exact st.reads 2 rfl TF.t81 (getV_state ..) | exact st.reads 3 rfl TF.t81 (getV_state ..))), trivial⟩ rfl ?_
          refine wl_alloc TF.z81 st rfl ?_
          intro b4 w st
          refine wl_nil ⟨rfl, ?_⟩
          refine FL.permB [11, 10, 9, 4, 3, 8, 7, 6, 5, 2, 1, 0] [7, 6, 5, 1, 0] [8] (by kernel_rfl) ?_
          exact fin _ _ _ _ _ rfl rfl rfl rfl rfl rfl rfl rfl rfl rfl (by first | exact st | exact st.perm p3_2 | exact st.perm p3_3 | exact st.perm p3_4 | exact st.perm p3_5 | exact st.perm p3_6)
        · refine stepE 11 (pure' := [7, 6, 5, 1, 0]) (lds' := [8]) rfl (by kernel_rfl) (by kernel_rfl) ?_
          refine wl_alloc TF.z81 st rfl ?_
          intro b4 w st
          refine wl_nil ⟨rfl, ?_⟩
          refine fl_eff1 4 [7, 6, 5, 1, 0] [8] (by kernel_rfl) ⟨obl_ld rfl rfl rfl (v_load rfl (by first | exact st.reads 0 rfl TF.t81 (getV_state ..) | exact st.reads 1 rfl TF.t81 (getV_state ..) | exact st.reads 2 rfl TF.t81 (getV_state ..) | exact st.reads 3 rfl TF.t81 (getV_state ..))), trivial⟩ rfl ?_
          refine wl_call rfl (c_factors st.im) rfl ?_
          rintro v16 w ⟨t, rfl⟩
          have st := st.pure t
          refine wl_nil ⟨rfl, ?_⟩
          refine FL.permB [11, 10, 9, 4, 3, 8, 7, 6, 5, 2, 1, 0] [7, 6, 5, 1, 0] [8] (by kernel_rfl) ?_
          exact fin _ _ _ _ _ rfl rfl rfl rfl rfl rfl rfl rfl rfl rfl (by first | exact st | exact st.perm p3_2 | exact st.perm p3_3 | exact st.perm p3_4 | exact st.perm p3_5 | exact st.perm p3_6)
      · refine stepE 11 (pure' := [7, 6, 5, 2, 1, 0]) (lds' := [8]) rfl (by kernel_rfl) (by kernel_rfl) ?_
        refine wl_alloc TF.z81 st rfl ?_
        intro b4 w st
        refine wl_nil ⟨rfl, ?_⟩
        refine fl_eff1 3 [7, 6, 5, 1, 0] [8] (by kernel_rfl) ⟨obl_ld rfl rfl rfl (v_load rfl (by first | exact st.reads 0 rfl TF.t81 (getV_state ..) | exact st.reads 1 rfl TF.t81 (getV_state ..) | exact st.reads 2 rfl TF.t81 (getV_state ..) | exact st.reads 3 rfl TF.t81 (getV_state ..))), trivial⟩ rfl ?_
        refine wl_call rfl (by first | exact c_spreadS st 0 rfl hl | exact c_spreadS st 1 rfl hl | exact c_spreadS st 2 rfl hl | exact c_spreadS st 3 rfl hl) rfl ?_
        rintro v15 w ⟨t, rfl⟩
        have st := st.pure t
        refine wl_nil ⟨rfl, ?_⟩
        refine fl_eff1 4 [7, 6, 5, 1, 0] [8] (by kernel_rfl) ⟨obl_ld rfl rfl rfl (v_load rfl (by first | exact st.reads 0 rfl TF.t81 (getV_state ..) | exact st.reads 1 rfl TF.t81 (getV_state ..) | exact st.reads 2 rfl TF.t81 (getV_state ..) | exact st.reads 3 rfl TF.t81 (getV_state ..))), trivial⟩ rfl ?_
        refine wl_call rfl (c_factors st.im) rfl ?_
        rintro v16 w ⟨t, rfl⟩
        have st := st.pure t
        refine wl_nil ⟨rfl, ?_⟩
        refine FL.permB [11, 10, 9, 4, 3, 8, 7, 6, 5, 2, 1, 0] [7, 6, 5, 1, 0] [8] (by kernel_rfl) ?_
        exact fin _ _ _ _ _ rfl rfl rfl rfl rfl rfl rfl rfl rfl rfl (by first | exact st | exact st.perm p3_2 | exact st.perm p3_3 | exact st.perm p3_4 | exact st.perm p3_5 | exact st.perm p3_6)
    · refine stepE 11 (pure' := [7, 6, 5, 2, 1, 0]) (lds' := [8]) rfl (by kernel_rfl) (by kernel_rfl) ?_
      refine wl_alloc TF.z81 st rfl ?_
      intro b4 w st
      refine wl_nil ⟨rfl, ?_⟩
      refine fl_effs [3, 10] (by kernel_rfl) ⟨obl_ld rfl rfl rfl (v_load rfl (by first | exact st.reads 0 rfl TF.t81 (getV_state ..) | exact st.reads 1 rfl TF.t81 (getV_state ..) | exact st.reads 2 rfl TF.t81 (getV_state ..) | exact st.reads 3 rfl TF.t81 (getV_state ..))), trivial⟩ (all2 ?_ ?_)
      · refine stepE 3 (pure' := [7, 6, 5, 1, 0]) (lds' := [8]) rfl (by kernel_rfl) (by kernel_rfl) ?_
        refine wl_call rfl (by first | exact c_spreadS st 0 rfl hl | exact c_spreadS st 1 rfl hl | exact c_spreadS st 2 rfl hl | exact c_spreadS st 3 rfl hl) rfl ?_
        rintro v15 w ⟨t, rfl⟩
        have st := st.pure t
        refine wl_nil ⟨rfl, ?_⟩
        refine fl_effs [4, 10] (by kernel_rfl) ⟨obl_ld rfl rfl rfl (v_load rfl (by first | exact st.reads 0 rfl TF.t81 (getV_state ..) | exact st.reads 1 rfl TF.t81 (getV_state ..) | exact st.reads 2 rfl TF.t81 (getV_state ..) | exact st.reads 3 rfl TF.t81 (getV_state ..))), trivial⟩ (all2 ?_ ?_)
        · refine stepE 4 (pure' := [7, 6, 5, 1, 0]) (lds' := [8]) rfl (by kernel_rfl) (by kernel_rfl) ?_
          refine wl_call rfl (c_factors st.im) rfl ?_
          rintro v16 w ⟨t, rfl⟩
          have st := st.pure t
          refine wl_nil ⟨rfl, ?_⟩
          refine fl_eff1 10 [7, 6, 5, 1, 0] [8] (by kernel_rfl) ⟨obl_ld rfl rfl rfl (v_load rfl (by first | exact st.reads 0 rfl TF.t81 (getV_state ..) | exact st.reads 1 rfl TF.t81 (getV_state ..) | exact st.reads 2 rfl TF.t81 (getV_state ..) | exact st.reads 3 rfl TF.t81 (getV_state ..))), trivial⟩ rfl ?_
          refine wl_alloc TF.z89 st rfl ?_
          intro b3 w st
          refine wl_nil ⟨rfl, ?_⟩
          refine FL.permB [11, 10, 9, 4, 3, 8, 7, 6, 5, 2, 1, 0] [7, 6, 5, 1, 0] [8] (by kernel_rfl) ?_
          exact fin _ _ _ _ _ rfl rfl rfl rfl rfl rfl rfl rfl rfl rfl (by first | exact st | exact st.perm p3_2 | exact st.perm p3_3 | exact st.perm p3_4 | exact st.perm p3_5 | exact st.perm p3_6)
        · refine stepE 10 (pure' := [7, 6, 5, 1, 0]) (lds' := [8]) rfl (by kernel_rfl) (by kernel_rfl) ?_
          refine wl_alloc TF.z89 st rfl ?_
          intro b3 w st
          refine wl_nil ⟨rfl, ?_⟩
          refine fl_eff1 4 [7, 6, 5, 1, 0] [8] (by kernel_rfl) ⟨obl_ld rfl rfl rfl (v_load rfl (by first | exact st.reads 0 rfl TF.t81 (getV_state ..) | exact st.reads 1 rfl TF.t81 (getV_state ..) | exact st.reads 2 rfl TF.t81 (getV_state ..) | exact st.reads 3 rfl TF.t81 (getV_state ..))), trivial⟩ rfl ?_
          refine wl_call rfl (c_factors st.im) rfl ?_
          rintro v16 w ⟨t, rfl⟩
          have st := st.pure t
          refine wl_nil ⟨rfl, ?_⟩
          refine FL.permB [11, 10, 9, 4, 3, 8, 7, 6, 5, 2, 1, 0] [7, 6, 5, 1, 0] [8] (by kernel_rfl) ?_
          exact fin _ _ _ _ _ rfl rfl rfl rfl rfl rfl rfl rfl rfl rfl (by first | exact st | exact st.perm p3_2 | exact st.perm p3_3 | exact st.perm p3_4 | exact st.perm p3_5 | exact st.perm p3_6)
      · refine stepE 10 (pure' := [7, 6, 5, 2, 1, 0]) (lds' := [8]) rfl (by kernel_rfl) (by kernel_rfl) ?_
        refine wl_alloc TF.z89 st rfl ?_
        intro b3 w st
        refine wl_nil ⟨rfl, ?_⟩
        refine fl_eff1 3 [7, 6, 5, 1, 0] [8] (by kernel_rfl) ⟨obl_ld rfl rfl rfl (v_load rfl (by first | exact st.reads 0 rfl TF.t81 (getV_state ..) | exact st.reads 1 rfl TF.t81 (getV_state ..) | exact st.reads 2 rfl TF.t81 (getV_state ..) | exact st.reads 3 rfl TF.t81 (getV_state ..))), trivial⟩ rfl ?_
        refine wl_call rfl (by first | exact c_spreadS st 0 rfl hl | exact c_spreadS st 1 rfl hl | exact c_spreadS st 2 rfl hl | exact c_spreadS st 3 rfl hl) rfl ?_
        rintro v15 w ⟨t, rfl⟩
        have st := st.pure t
        refine wl_nil ⟨rfl, ?_⟩
        refine fl_eff1 4 [7, 6, 5, 1, 0] [8] (by kernel_rfl) ⟨obl_ld rfl rfl rfl (v_load rfl (by first | exact st.reads 0 rfl TF.t81 (getV_state ..) | exact st.reads 1 rfl TF.t81 (getV_state ..) | exact st.reads 2 rfl TF.t81 (getV_state ..) | exact st.reads 3 rfl TF.t81 (getV_state ..))), trivial⟩ rfl ?_
        refine wl_call rfl (c_factors st.im) rfl ?_
        rintro v16 w ⟨t, rfl⟩
        have st := st.pure t
        refine wl_nil ⟨rfl, ?_⟩
        refine FL.permB [11, 10, 9, 4, 3, 8, 7, 6, 5, 2, 1, 0] [7, 6, 5, 1, 0] [8] (by kernel_rfl) ?_
        exact fin _ _ _ _ _ rfl rfl rfl rfl rfl rfl rfl rfl rfl rfl (by first | exact st | exact st.perm p3_2 | exact st.perm p3_3 | exact st.perm p3_4 | exact st.perm p3_5 | exact st.perm p3_6)
  · refine stepE 10 (pure' := [7, 6, 5, 2, 1, 0]) (lds' := [8]) rfl (by kernel_rfl) (by kernel_rfl) ?_
    refine wl_alloc TF.z89 st rfl ?_
    intro b3 w st
    refine wl_nil ⟨rfl, ?_⟩
    refine fl_effs [3, 9, 11] (by kernel_rfl) ⟨obl_ld rfl rfl rfl (v_load rfl (by first | exact st.reads 0 rfl TF.t81 (getV_state ..) | exact st.reads 1 rfl TF.t81 (getV_state ..) | exact st.reads 2 rfl TF.t81 (getV_state ..) | exact st.reads 3 rfl TF.t81 (getV_state ..))), trivial⟩ (all3 ?_ ?_ ?_)
    · refine stepE 3 (pure' := [7, 6, 5, 1, 0]) (lds' := [8]) rfl (by kernel_rfl) (by kernel_rfl) ?_
      refine wl_call rfl (by first | exact c_spreadS st 0 rfl hl | exact c_spreadS st 1 rfl hl | exact c_spreadS st 2 rfl hl | exact c_spreadS st 3 rfl hl) rfl ?_
      rintro v15 w ⟨t, rfl⟩
      have st := st.pure t
      refine wl_nil ⟨rfl, ?_⟩
      refine fl_effs [4, 9, 11] (by kernel_rfl) ⟨obl_ld rfl rfl rfl (v_load rfl (by first | exact st.reads 0 rfl TF.t81 (getV_state ..) | exact st.reads 1 rfl TF.t81 (getV_state ..) | exact st.reads 2 rfl TF.t81 (getV_state ..) | exact st.reads 3 rfl TF.t81 (getV_state ..))), trivial⟩ (all3 ?_ ?_ ?_)
      · refine stepE 4 (pure' := [7, 6, 5, 1, 0]) (lds' := [8]) rfl (by kernel_rfl) (by kernel_rfl) ?_
        refine wl_call rfl (c_factors st.im) rfl ?_
        rintro v16 w ⟨t, rfl⟩
        have st := st.pure t
        refine wl_nil ⟨rfl, ?_⟩
        refine fl_effs [9, 11] (by kernel_rfl) ⟨obl_ld rfl rfl rfl (v_load rfl (by first | exact st.reads 0 rfl TF.t81 (getV_state ..) | exact st.reads 1 rfl TF.t81 (getV_state ..) | exact st.reads 2 rfl TF.t81 (getV_state ..) | exact st.reads 3 rfl TF.t81 (getV_state ..))), trivial⟩ (all2 ?_ ?_)
        · refine stepE 9 (pure' := [7, 6, 5, 1, 0]) (lds' := [8]) rfl (by kernel_rfl) (by kernel_rfl) ?_
          refine wl_alloc TF.z89 st rfl ?_
          intro b2 w st
          refine wl_nil ⟨rfl, ?_⟩
          refine fl_eff1 11 [7, 6, 5, 1, 0] [8] (by kernel_rfl) ⟨obl_ld rfl rfl rfl (v_load rfl (by first | exact st.reads 0 rfl TF.t81 (getV_state ..) | exact st.reads 1 rfl TF.t81 (getV_state ..) | exact st.reads 2 rfl TF.t81 (getV_state ..) | exact st.reads 3 rfl TF.t81 (getV_state ..))), trivial⟩ rfl ?_
          refine wl_alloc TF.z81 st rfl ?_
          intro b4 w st
          refine wl_nil ⟨rfl, ?_⟩
          refine FL.permB [11, 10, 9, 4, 3, 8, 7, 6, 5, 2, 1, 0] [7, 6, 5, 1, 0] [8] (by kernel_rfl) ?_
          exact fin _ _ _ _ _ rfl rfl rfl rfl rfl rfl rfl rfl rfl rfl (by first | exact st | exact st.perm p3_2 | exact st.perm p3_3 | exact st.perm p3_4 | exact st.perm p3_5 | exact st.perm p3_6)
        · refine stepE 11 (pure' := [7, 6, 5, 1, 0]) (lds' := [8]) rfl (by kernel_rfl) (by kernel_rfl) ?_
          refine wl_alloc TF.z81 st rfl ?_
          intro b4 w st
          refine wl_nil ⟨rfl, ?_⟩
          refine fl_eff1 9 [7, 6, 5, 1, 0] [8] (by kernel_rfl) ⟨obl_ld rfl rfl rfl (v_load rfl (by first | exact st.reads 0 rfl TF.t81 (getV_state ..) | exact st.reads 1 rfl TF.t81 (getV_state ..) | exact st.reads 2 rfl TF.t81 (getV_state ..) | exact st.reads 3 rfl TF.t81 (getV_state ..))), trivial⟩ rfl ?_
          refine wl_alloc TF.z89 st rfl ?_
          intro b2 w st
          refine wl_nil ⟨rfl, ?_⟩
          refine FL.permB [11, 10, 9, 4, 3, 8, 7, 6, 5, 2, 1, 0] [7, 6, 5, 1, 0] [8] (by kernel_rfl) ?_
          exact fin _ _ _ _ _ rfl rfl rfl rfl rfl rfl rfl rfl rfl rfl (by first | exact st | exact st.perm p3_2 | exact st.perm p3_3 | exact st.perm p3_4 | exact st.perm p3_5 | exact st.perm p3_6)
      · refine stepE 9 (pure' := [7, 6, 5, 1, 0]) (lds' := [8]) rfl (by kernel_rfl) (by kernel_rfl) ?_
        refine wl_alloc TF.z89 st rfl ?_
        intro b2 w st
        refine wl_nil ⟨rfl, ?_⟩
        refine fl_effs [4, 11] (by kernel_rfl) ⟨obl_ld rfl rfl rfl (v_load rfl (by first | exact st.reads 0 rfl TF.t81 (getV_state ..) | exact st.reads 1 rfl TF.t81 (getV_state ..) | exact st.reads 2 rfl TF.t81 (getV_state ..) | exact st.reads 3 rfl TF.t81 (getV_state ..))), trivial⟩ (all2 ?_ ?_)
        · refine stepE 4 (pure' := [7, 6, 5, 1, 0]) (lds' := [8]) rfl (by kernel_rfl) (by kernel_rfl) ?_
          refine wl_call rfl (c_factors st.im) rfl ?_
          rintro v16 w ⟨t, rfl⟩
          have st := st.pure t
          refine wl_nil ⟨rfl, ?_⟩
          refine fl_eff1 11 [7, 6, 5, 1, 0] [8] (by kernel_rfl) ⟨obl_ld rfl rfl rfl (v_load rfl (by first | exact st.reads 0 rfl TF.t81 (getV_state ..) | exact st.reads 1 rfl TF.t81 (getV_state ..) | exact st.reads 2 rfl TF.t81 (getV_state ..) | exact st.reads 3 rfl TF.t81 (getV_state ..))), trivial⟩ rfl ?_
          refine wl_alloc TF.z81 st rfl ?_
          intro b4 w st
          refine wl_nil ⟨rfl, ?_⟩
          refine FL.permB [11, 10, 9, 4, 3, 8, 7, 6, 5, 2, 1, 0] [7, 6, 5, 1, 0] [8] (by kernel_rfl) ?_
          exact fin _ _ _ _ _ rfl rfl rfl rfl rfl rfl rfl rfl rfl rfl (by first | exact st | exact st.perm p3_2 | exact st.perm p3_3 | exact st.perm p3_4 | exact st.perm p3_5 | exact st.perm p3_6)
        · refine stepE 11 (pure' := [7, 6, 5, 1, 0]) (lds' := [8]) rfl (by kernel_rfl) (by kernel_rfl) ?_
          refine wl_alloc TF.z81 st rfl ?_
          intro b4 w st
          refine wl_nil ⟨rfl, ?_⟩
          refine fl_eff1 4 [7, 6, 5, 1, 0] [8] (by kernel_rfl) ⟨obl_ld rfl rfl rfl (v_load rfl (by first | exact st.reads 0 rfl TF.t81 (getV_state ..) | exact st.reads 1 rfl TF.t81 (getV_state ..) | exact st.reads 2 rfl TF.t81 (getV_state ..) | exact st.reads 3 rfl TF.t81 (getV_state ..))), trivial⟩ rfl ?_
          refine wl_call rfl (c_factors st.im) rfl ?_
          rintro v16 w ⟨t, rfl⟩
          have st := st.pure t
          refine wl_nil ⟨rfl, ?_⟩
          refine FL.permB [11, 10, 9, 4, 3, 8, 7, 6, 5, 2, 1, 0] [7, 6, 5, 1, 0] [8] (by kernel_rfl) ?_
          exact fin _ _ _ _ _ rfl rfl rfl rfl rfl rfl rfl rfl rfl rfl (by first | exact st | exact st.perm p3_2 | exact st.perm p3_3 | exact st.perm p3_4 | exact st.perm p3_5 | exact st.perm p3_6)
      · refine stepE 11 (pure' := [7, 6, 5, 1, 0]) (lds' := [8]) rfl (by kernel_rfl) (by kernel_rfl) ?_
        refine wl_alloc TF.z81 st rfl ?_
        intro b4 w st
        refine wl_nil ⟨rfl, ?_⟩
        refine fl_effs [4, 9] (by kernel_rfl) ⟨obl_ld rfl rfl rfl (v_load rfl (by first | exact st.reads 0 rfl TF.t81 (getV_state ..) | exact st.reads 1 rfl TF.t81 (getV_state ..) | exact st.reads 2 rfl TF.t81 (getV_state ..) | exact st.reads 3 rfl TF.t81 (getV_state ..))), trivial⟩ (all2 ?_ ?_)
        · refine stepE 4 (pure' := [7, 6, 5, 1, 0]) (lds' := [8]) rfl (by kernel_rfl) (by kernel_rfl) ?_
          refine wl_call rfl (c_factors st.im) rfl ?_
          rintro v16 w ⟨t, rfl⟩
          have st := st.pure t
          refine wl_nil ⟨rfl, ?_⟩
          refine fl_eff1 9 [7, 6, 5, 1, 0] [8] (by kernel_rfl) ⟨obl_ld rfl rfl rfl (v_load rfl (by first | exact st.reads 0 rfl TF.t81 (getV_state ..) | exact st.reads 1 rfl TF.t81 (getV_state ..) | exact st.reads 2 rfl TF.t81 (getV_state ..) | exact st.reads 3 rfl TF.t81 (getV_state ..))), trivial⟩ rfl ?_
          refine wl_alloc TF.z89 st rfl ?_
          intro b2 w st
          refine wl_nil ⟨rfl, ?_⟩
          refine FL.permB [11, 10, 9, 4, 3, 8, 7, 6, 5, 2, 1, 0] [7, 6, 5, 1, 0] [8] (by kernel_rfl) ?_
          exact fin _ _ _ _ _ rfl rfl rfl rfl rfl rfl rfl rfl rfl rfl (by first | exact st | exact st.perm p3_2 | exact st.perm p3_3 | exact st.perm p3_4 | exact st.perm p3_5 | exact st.perm p3_6)
        · refine stepE 9 (pure' := [7, 6, 5, 1, 0]) (lds' := [8]) rfl (by kernel_rfl) (by kernel_rfl) ?_
          refine wl_alloc TF.z89 st rfl ?_
          intro b2 w st
          refine wl_nil ⟨rfl, ?_⟩
          refine fl_eff1 4 [7, 6, 5, 1, 0] [8] (by kernel_rfl) ⟨obl_ld rfl rfl rfl (v_load rfl (by first | exact st.reads 0 rfl TF.t81 (getV_state ..) | exact st.reads 1 rfl TF.t81 (getV_state ..) | exact st.reads 2 rfl TF.t81 (getV_state ..) | exact st.reads 3 rfl TF.t81 (getV_state ..))), trivial⟩ rfl ?_
          refine wl_call rfl (c_factors st.im) rfl ?_
          rintro v16 w ⟨t, rfl⟩
          have st := st.pure t
          refine wl_nil ⟨rfl, ?_⟩
          refine FL.permB [11, 10, 9, 4, 3, 8, 7, 6, 5, 2, 1, 0] [7, 6, 5, 1, 0] [8] (by kernel_rfl) ?_
          exact fin _ _ _ _ _ rfl rfl rfl rfl rfl rfl rfl rfl rfl rfl (by first | exact st | exact st.perm p3_2 | exact st.perm p3_3 | exact st.perm p3_4 | exact st.perm p3_5 | exact st.perm p3_6)
    · refine stepE 9 (pure' := [7, 6, 5, 2, 1, 0]) (lds' := [8]) rfl (by kernel_rfl) (by kernel_rfl) ?_
      refine wl_alloc TF.z89 st rfl ?_
      intro b2 w st
      refine wl_nil ⟨rfl, ?_⟩
      refine fl_effs [3, 11] (by kernel_rfl) ⟨obl_ld rfl rfl rfl (v_load rfl (by first | exact st.reads 0 rfl TF.t81 (getV_state ..) | exact st.reads 1 rfl TF.t81 (getV_state ..) | exact st.reads 2 rfl TF.t81 (getV_state ..) | exact st.reads 3 rfl TF.t81 (getV_state ..))), trivial⟩ (all2 ?_ ?_)
      · refine stepE 3 (pure' := [7, 6, 5, 1, 0]) (lds' := [8]) rfl (by kernel_rfl) (by kernel_rfl) ?_
        refine wl_call rfl (by first | exact c_spreadS st 0 rfl hl | exact c_spreadS st 1 rfl hl | exact c_spreadS st 2 rfl hl | exact c_spreadS st 3 rfl hl) rfl ?_
        rintro v15 w ⟨t, rfl⟩
        have st := st.pure t
        refine wl_nil ⟨rfl, ?_⟩
        refine fl_effs [4, 11] (by kernel_rfl) ⟨obl_ld rfl rfl rfl (v_load rfl (by first | exact st.reads 0 rfl TF.t81 (getV_state ..) | exact st.reads 1 rfl TF.t81 (getV_state ..) | exact st.reads 2 rfl TF.t81 (getV_state ..) | exact st.reads 3 rfl TF.t81 (getV_state ..))), trivial⟩ (all2 ?_ ?_)
        · refine stepE 4 (pure' := [7, 6, 5, 1, 0]) (lds' := [8]) rfl (by kernel_rfl) (by kernel_rfl) ?_
          refine wl_call rfl (c_factors st.im) rfl ?_
          rintro v16 w ⟨t, rfl⟩
          have st := st.pure t
          refine wl_nil ⟨rfl, ?_⟩
          refine fl_eff1 11 [7, 6, 5, 1, 0] [8] (by kernel_rfl) ⟨obl_ld rfl rfl rfl (v_load rfl (by first | exact st.reads 0 rfl TF.t81 (getV_state ..) | exact st.reads 1 rfl TF.t81 (getV_state ..) | exact st.reads 2 rfl TF.t81 (getV_state ..) | exact st.reads 3 rfl TF.t81 (getV_state ..))), trivial⟩ rfl ?_
          refine wl_alloc TF.z81 st rfl ?_
          intro b4 w st
          refine wl_nil ⟨rfl, ?_⟩
          refine FL.permB [11, 10, 9, 4, 3, 8, 7, 6, 5, 2, 1, 0] [7, 6, 5, 1, 0] [8] (by kernel_rfl) ?_
          exact fin _ _ _ _ _ rfl rfl rfl rfl rfl rfl rfl rfl rfl rfl (by first | exact st | exact st.perm p3_2 | exact st.perm p3_3 | exact st.perm p3_4 | exact st.perm p3_5 | exact st.perm p3_6)
        · refine stepE 11 (pure' := [7, 6, 5, 1, 0]) (lds' := [8]) rfl (by kernel_rfl) (by kernel_rfl) ?_
          refine wl_alloc TF.z81 st rfl ?_
          intro b4 w st
          refine wl_nil ⟨rfl, ?_⟩
          refine fl_eff1 4 [7, 6, 5, 1, 0] [8] (by kernel_rfl) ⟨obl_ld rfl rfl rfl (v_load rfl (by first | exact st.reads 0 rfl TF.t81 (getV_state ..) | exact st.reads 1 rfl TF.t81 (getV_state ..) | exact st.reads 2 rfl TF.t81 (getV_state ..) | exact st.reads 3 rfl TF.t81 (getV_state ..))), trivial⟩ rfl ?_
          refine wl_call rfl (c_factors st.im) rfl ?_
          rintro v16 w ⟨t, rfl⟩
          have st := st.pure t
          refine wl_nil ⟨rfl, ?_⟩
          refine FL.permB [11, 10, 9, 4, 3, 8, 7, 6, 5, 2, 1, 0] [7, 6, 5, 1, 0] [8] (by kernel_rfl) ?_
          exact fin _ _ _ _ _ rfl rfl rfl rfl rfl rfl rfl rfl rfl rfl (by first | exact st | exact st.perm p3_2 | exact st.perm p3_3 | exact st.perm p3_4 | exact st.perm p3_5 | exact st.perm p3_6)
      · refine stepE 11 (pure' := [7, 6, 5, 2, 1, 0]) (lds' := [8]) rfl (by kernel_rfl) (by kernel_rfl) ?_
        refine wl_alloc TF.z81 st rfl ?_
        intro b4 w st
        refine wl_nil ⟨rfl, ?_⟩
        refine fl_eff1 3 [7, 6, 5, 1, 0] [8] (by kernel_rfl) ⟨obl_ld rfl rfl rfl (v_load rfl (by first | exact st.reads 0 rfl TF.t81 (getV_state ..) | exact st.reads 1 rfl TF.t81 (getV_state ..) | exact st.reads 2 rfl TF.t81 (getV_state ..) | exact st.reads 3 rfl TF.t81 (getV_state ..))), trivial⟩ rfl ?_
        refine wl_call rfl (by first | exact c_spreadS st 0 rfl hl | exact c_spreadS st 1 rfl hl | exact c_spreadS st 2 rfl hl | exact c_spreadS st 3 rfl hl) rfl ?_
        rintro v15 w ⟨t, rfl⟩
        have st := st.pure t
        refine wl_nil ⟨rfl, ?_⟩
        refine fl_eff1 4 [7, 6, 5, 1, 0] [8] (by kernel_rfl) ⟨obl_ld rfl rfl rfl (v_load rfl (by first | exact st.reads 0 rfl TF.t81 (getV_state ..) | exact st.reads 1 rfl TF.t81 (getV_state ..) | exact st.reads 2 rfl TF.t81 (getV_state ..) | exact st.reads 3 rfl TF.t81 (getV_state ..))), trivial⟩ rfl ?_
        refine wl_call rfl (c_factors st.im) rfl ?_
        rintro v16 w ⟨t, rfl⟩
        have st := st.pure t
        refine wl_nil ⟨rfl, ?_⟩
        refine FL.permB [11, 10, 9, 4, 3, 8, 7, 6, 5, 2, 1, 0] [7, 6, 5, 1, 0] [8] (by kernel_rfl) ?_
        exact fin _ _ _ _ _ rfl rfl rfl rfl rfl rfl rfl rfl rfl rfl (by first | exact st | exact st.perm p3_2 | exact st.perm p3_3 | exact st.perm p3_4 | exact st.perm p3_5 | exact st.perm p3_6)
    · refine stepE 11 (pure' := [7, 6, 5, 2, 1, 0]) (lds' := [8]) rfl (by kernel_rfl) (by kernel_rfl) ?_
      refine wl_alloc TF.z81 st rfl ?_
      intro b4 w st
      refine wl_nil ⟨rfl, ?_⟩
      refine fl_effs [3, 9] (by kernel_rfl) ⟨obl_ld rfl rfl rfl (v_load rfl (by first | exact st.reads 0 rfl TF.t81 (getV_state ..) | exact st.reads 1 rfl TF.t81 (getV_state ..) | exact st.reads 2 rfl TF.t81 (getV_state ..) | exact st.reads 3 rfl TF.t81 (getV_state ..))), trivial⟩ (all2 ?_ ?_)
      · refine stepE 3 (pure' := [7, 6, 5, 1, 0]) (lds' := [8]) rfl (by kernel_rfl) (by kernel_rfl) ?_
        refine wl_call rfl (by first | exact c_spreadS st 0 rfl hl | exact c_spreadS st 1 rfl hl | exact c_spreadS st 2 rfl hl | exact c_spreadS st 3 rfl hl) rfl ?_
        rintro v15 w ⟨t, rfl⟩
        have st := st.pure t
        refine wl_nil ⟨rfl, ?_⟩
        refine fl_effs [4, 9] (by kernel_rfl) ⟨obl_ld rfl rfl rfl (v_load rfl (by first | exact st.reads 0 rfl TF.t81 (getV_state ..) | exact st.reads 1 rfl TF.t81 (getV_state ..) | exact st.reads 2 rfl TF.t81 (getV_state ..) | exact st.reads 3 rfl TF.t81 (getV_state ..))), trivial⟩ (all2 ?_ ?_)
        · refine stepE 4 (pure' := [7, 6, 5, 1, 0]) (lds' := [8]) rfl (by kernel_rfl) (by kernel_rfl) ?_
          refine wl_call rfl (c_factors st.im) rfl ?_
          rintro v16 w ⟨t, rfl⟩
          have st := st.pure t
          refine wl_nil ⟨rfl, ?_⟩
          refine fl_eff1 9 [7, 6, 5, 1, 0] [8] (by kernel_rfl) ⟨obl_ld rfl rfl rfl (v_load rfl (by first | exact st.reads 0 rfl TF.t81 (getV_state ..) | exact st.reads 1 rfl TF.t81 (getV_state ..) | exact st.reads 2 rfl TF.t81 (getV_state ..) | exact st.reads 3 rfl TF.t81 (getV_state ..))), trivial⟩ rfl ?_
          refine wl_alloc TF.z89 st rfl ?_
          intro b2 w st
          refine wl_nil ⟨rfl, ?_⟩
          refine FL.permB [11, 10, 9, 4, 3, 8, 7, 6, 5, 2, 1, 0] [7, 6, 5, 1, 0] [8] (by kernel_rfl) ?_
          exact fin _ _ _ _ _ rfl rfl rfl rfl rfl rfl rfl rfl rfl rfl (by first | exact st | exact st.perm p3_2 | exact st.perm p3_3 | exact st.perm p3_4 | exact st.perm p3_5 | exact st.perm p3_6)
        · refine stepE 9 (pure' := [7, 6, 5, 1, 0]) (lds' := [8]) rfl (by kernel_rfl) (by kernel_rfl) ?_
          refine wl_alloc TF.z89 st rfl ?_
          intro b2 w st
          refine wl_nil ⟨rfl, ?_⟩
          refine fl_eff1 4 [7, 6, 5, 1, 0] [8] (by kernel_rfl) ⟨obl_ld rfl rfl rfl (v_load rfl (by first | exact st.reads 0 rfl TF.t81 (getV_state ..) | exact st.reads 1 rfl TF.t81 (getV_state ..) | exact st.reads 2 rfl TF.t81 (getV_state ..) | exact st.reads 3 rfl TF.t81 (getV_state ..))), trivial⟩ rfl ?_
          refine wl_call rfl (c_factors st.im) rfl ?_
          rintro v16 w ⟨t, rfl⟩
          have st := st.pure t
          refine wl_nil ⟨rfl, ?_⟩
          refine FL.permB [11, 10, 9, 4, 3, 8, 7, 6, 5, 2, 1, 0] [7, 6, 5, 1, 0] [8] (by kernel_rfl) ?_
          exact fin _ _ _ _ _ rfl rfl rfl rfl rfl rfl rfl rfl rfl rfl (by first | exact st | exact st.perm p3_2 | exact st.perm p3_3 | exact st.perm p3_4 | exact st.perm p3_5 | exact st.perm p3_6)
      · refine stepE 9 (pure' := [7, 6, 5, 2, 1, 0]) (lds' := [8]) rfl (by kernel_rfl) (by kernel_rfl) ?_
        refine wl_alloc TF.z89 st rfl ?_
        intro b2 w st
        refine wl_nil ⟨rfl, ?_⟩
        refine fl_eff1 3 [7, 6, 5, 1, 0] [8] (by kernel_rfl) ⟨obl_ld rfl rfl rfl (v_load rfl (by first | exact st.reads 0 rfl TF.t81 (getV_state ..) | exact st.reads 1 rfl TF.t81 (getV_state ..) | exact st.reads 2 rfl TF.t81 (getV_state ..) | exact st.reads 3 rfl TF.t81 (getV_state ..))), trivial⟩ rfl ?_
        refine wl_call rfl (by first | exact c_spreadS st 0 rfl hl | exact c_spreadS st 1 rfl hl | exact c_spreadS st 2 rfl hl | exact c_spreadS st 3 rfl hl) rfl ?_
        rintro v15 w ⟨t, rfl⟩
        have st := st.pure t
        refine wl_nil ⟨rfl, ?_⟩
        refine fl_eff1 4 [7, 6, 5, 1, 0] [8] (by kernel_rfl) ⟨obl_ld rfl rfl rfl (v_load rfl (by first | exact st.reads 0 rfl TF.t81 (getV_state ..) | exact st.reads 1 rfl TF.t81 (getV_state ..) | exact st.reads 2 rfl TF.t81 (getV_state ..) | exact st.reads 3 rfl TF.t81 (getV_state ..))), trivial⟩ rfl ?_
        refine wl_call rfl (c_factors st.im) rfl ?_
        rintro v16 w ⟨t, rfl⟩
        have st := st.pure t
        refine wl_nil ⟨rfl, ?_⟩
        refine FL.permB [11, 10, 9, 4, 3, 8, 7, 6, 5, 2, 1, 0] [7, 6, 5, 1, 0] [8] (by kernel_rfl) ?_
        exact fin _ _ _ _ _ rfl rfl rfl rfl rfl rfl rfl rfl rfl rfl (by first | exact st | exact st.perm p3_2 | exact st.perm p3_3 | exact st.perm p3_4 | exact st.perm p3_5 | exact st.perm p3_6)
  · refine stepE 11 (pure' := [7, 6, 5, 2, 1, 0]) (lds' := [8]) rfl (by kernel_rfl) (by kernel_rfl) ?_
    refine wl_alloc TF.z81 st rfl ?_
    intro b4 w st
    refine wl_nil ⟨rfl, ?_⟩
    refine fl_effs [3, 9, 10] (by kernel_rfl) ⟨obl_ld rfl rfl rfl (v_load rfl (by first | exact st.reads 0 rfl TF.t81 (getV_state ..) | exact st.reads 1 rfl TF.t81 (getV_state ..) | exact st.reads 2 rfl TF.t81 (getV_state ..) | exact st.reads 3 rfl TF.t81 (getV_state ..))), trivial⟩ (all3 ?_ ?_ ?_)
    · refine stepE 3 (pure' := [7, 6, 5, 1, 0]) (lds' := [8]) rfl (by kernel_rfl) (by kernel_rfl) ?_
      refine wl_call rfl (by first | exact c_spreadS st 0 rfl hl | exact c_spreadS st 1 rfl hl | exact c_spreadS st 2 rfl hl | exact c_spreadS st 3 rfl hl) rfl ?_
      rintro v15 w ⟨t, rfl⟩
      have st := st.pure t
      refine wl_nil ⟨rfl, ?_⟩
      refine fl_effs [4, 9, 10] (by kernel_rfl) ⟨obl_ld rfl rfl rfl (v_load rfl (by first | exact st.reads 0 rfl TF.t81 (getV_state ..) | exact st.reads 1 rfl TF.t81 (getV_state ..) | exact st.reads 2 rfl TF.t81 (getV_state ..) | exact st.reads 3 rfl TF.t81 (getV_state ..))), trivial⟩ (all3 ?_ ?_ ?_)
      · refine stepE 4 (pure' := [7, 6, 5, 1, 0]) (lds' := [8]) rfl (by kernel_rfl) (by kernel_rfl) ?_
        refine wl_call rfl (c_factors st.im) rfl ?_
        rintro v16 w ⟨t, rfl⟩
        have st := st.pure t
        refine wl_nil ⟨rfl, ?_⟩
        refine fl_effs [9, 10] (by kernel_rfl) ⟨obl_ld rfl rfl rfl (v_load rfl (by first | exact st.reads 0 rfl TF.t81 (getV_state ..) | exact st.reads 1 rfl TF.t81 (getV_state ..) | exact st.reads 2 rfl TF.t81 (getV_state ..) | exact st.reads 3 rfl TF.t81 (getV_state ..))), trivial⟩ (all2 ?_ ?_)
        · refine stepE 9 (pure' := [7, 6, 5, 1, 0]) (lds' := [8]) rfl (by kernel_rfl) (by kernel_rfl) ?_
          refine wl_alloc TF.z89 st rfl ?_
          intro b2 w st
          refine wl_nil ⟨rfl, ?_⟩
          refine fl_eff1 10 [7, 6, 5, 1, 0] [8] (by kernel_rfl) ⟨obl_ld rfl rfl rfl (v_load rfl (by first | exact st.reads 0 rfl TF.t81 (getV_state ..) | exact st.reads 1 rfl TF.t81 (getV_state ..) | exact st.reads 2 rfl TF.t81 (getV_state ..) | exact st.reads 3 rfl TF.t81 (getV_state ..))), trivial⟩ rfl ?_
          refine wl_alloc TF.z89 st rfl ?_
          intro b3 w st
          refine wl_nil ⟨rfl, ?_⟩
          refine FL.permB [11, 10, 9, 4, 3, 8, 7, 6, 5, 2, 1, 0] [7, 6, 5, 1, 0] [8] (by kernel_rfl) ?_
          exact fin _ _ _ _ _ rfl rfl rfl rfl rfl rfl rfl rfl rfl rfl (by first | exact st | exact st.perm p3_2 | exact st.perm p3_3 | exact st.perm p3_4 | exact st.perm p3_5 | exact st.perm p3_6)
        · refine stepE 10 (pure' := [7, 6, 5, 1, 0]) (lds' := [8]) rfl (by kernel_rfl) (by kernel_rfl) ?_
          refine wl_alloc TF.z89 st rfl ?_
          intro b3 w st
          refine wl_nil ⟨rfl, ?_⟩
          refine fl_eff1 9 [7, 6, 5, 1, 0] [8] (by kernel_rfl) ⟨obl_ld rfl rfl rfl (v_load rfl (by first | exact st.reads 0 rfl TF.t81 (getV_state ..) | exact st.reads 1 rfl TF.t81 (getV_state ..) | exact st.reads 2 rfl TF.t81 (getV_state ..) | exact st.reads 3 rfl TF.t81 (getV_state ..))), trivial⟩ rfl ?_
          refine wl_alloc TF.z89 st rfl ?_
          intro b2 w st
          refine wl_nil ⟨rfl, ?_⟩
          refine FL.permB [11, 10, 9, 4, 3, 8, 7, 6, 5, 2, 1, 0] [7, 6, 5, 1, 0] [8] (by kernel_rfl) ?_
          exact fin _ _ _ _ _ rfl rfl rfl rfl rfl rfl rfl rfl rfl rfl (by first | exact st | exact st.perm p3_2 | exact st.perm p3_3 | exact st.perm p3_4 | exact st.perm p3_5 | exact st.perm p3_6)
      · refine stepE 9 (pure' := [7, 6, 5, 1, 0]) (lds' := [8]) rfl (by kernel_rfl) (by kernel_rfl) ?_
        refine wl_alloc TF.z89 st rfl ?_
        intro b2 w st
        refine wl_nil ⟨rfl, ?_⟩
        refine fl_effs [4, 10] (by kernel_rfl) ⟨obl_ld rfl rfl rfl (v_load rfl (by first | exact st.reads 0 rfl TF.t81 (getV_state ..) | exact st.reads 1 rfl TF.t81 (getV_state ..) | exact st.reads 2 rfl TF.t81 (getV_state ..) | exact st.reads 3 rfl TF.t81 (getV_state ..))), trivial⟩ (all2 ?_ ?_)
        · refine stepE 4 (pure' := [7, 6, 5, 1, 0]) (lds' := [8]) rfl (by kernel_rfl) (by kernel_rfl) ?_
          refine wl_call rfl (c_factors st.im) rfl ?_
          rintro v16 w ⟨t, rfl⟩
          have st := st.pure t
          refine wl_nil ⟨rfl, ?_⟩
          refine fl_eff1 10 [7, 6, 5, 1, 0] [8] (by kernel_rfl) ⟨obl_ld rfl rfl rfl (v_load rfl (by first | exact st.reads 0 rfl TF.t81 (getV_state ..) | exact st.reads 1 rfl TF.t81 (getV_state ..) | exact st.reads 2 rfl TF.t81 (getV_state ..) | exact st.reads 3 rfl TF.t81 (getV_state ..))), trivial⟩ rfl ?_
          refine wl_alloc TF.z89 st rfl ?_
          intro b3 w st
          refine wl_nil ⟨rfl, ?_⟩
          refine FL.permB [11, 10, 9, 4, 3, 8, 7, 6, 5, 2, 1, 0] [7, 6, 5, 1, 0] [8] (by kernel_rfl) ?_
          exact fin _ _ _ _ _ rfl rfl rfl rfl rfl rfl rfl rfl rfl rfl (by first | exact st | exact st.perm p3_2 | exact st.perm p3_3 | exact st.perm p3_4 | exact st.perm p3_5 | exact st.perm p3_6)
        · refine stepE 10 (pure' := [7, 6, 5, 1, 0]) (lds' := [8]) rfl (by kernel_rfl) (by kernel_rfl) ?_
          refine wl_alloc TF.z89 st rfl ?_
          intro b3 w st
          refine wl_nil ⟨rfl, ?_⟩
          refine fl_eff1 4 [7, 6, 5, 1, 0] [8] (by kernel_rfl) ⟨obl_ld rfl rfl rfl (v_load rfl (by first | exact st.reads 0 rfl TF.t81 (getV_state ..) | exact st.reads 1 rfl TF.t81 (getV_state ..) | exact st.reads 2 rfl TF.t81 (getV_state ..) | exact st.reads 3 rfl TF.t81 (getV_state ..))), trivial⟩ rfl ?_
          refine wl_call rfl (c_factors st.im) rfl ?_
          rintro v16 w ⟨t, rfl⟩
          have st := st.pure t
          refine wl_nil ⟨rfl, ?_⟩
          refine FL.permB [11, 10, 9, 4, 3, 8, 7, 6, 5, 2, 1, 0] [7, 6, 5, 1, 0] [8] (by kernel_rfl) ?_
          exact fin _ _ _ _ _ rfl rfl rfl rfl rfl rfl rfl rfl rfl rfl (by first | exact st | exact st.perm p3_2 | exact st.perm p3_3 | exact st.perm p3_4 | exact st.perm p3_5 | exact st.perm p3_6)
      · refine stepE 10 (pure' := [7, 6, 5, 1, 0]) (lds' := [8]) rfl (by kernel_rfl) (by kernel_rfl) ?_
        refine wl_alloc TF.z89 st rfl ?_
        intro b3 w st
        refine wl_nil ⟨rfl, ?_⟩
        refine fl_effs [4, 9] (by kernel_rfl) ⟨obl_ld rfl rfl rfl (v_load rfl (by first | exact st.reads 0 rfl TF.t81 (getV_state ..) | exact st.reads 1 rfl TF.t81 (getV_state ..) | exact st.reads 2 rfl TF.t81 (getV_state ..) | exact st.reads 3 rfl TF.t81 (getV_state ..))), trivial⟩ (all2 ?_ ?_)
        · refine stepE 4 (pure' := [7, 6, 5, 1, 0]) (lds' := [8]) rfl (by kernel_rfl) (by kernel_rfl) ?_
          refine wl_call rfl (c_factors st.im) rfl ?_
          rintro v16 w ⟨t, rfl⟩
          have st := st.pure t
          refine wl_nil ⟨rfl, ?_⟩
          refine fl_eff1 9 [7, 6, 5, 1, 0] [8] (by kernel_rfl) ⟨obl_ld rfl rfl rfl (v_load rfl (by first | exact st.reads 0 rfl TF.t81 (getV_state ..) | exact st.reads 1 rfl TF.t81 (getV_state ..) | exact st.reads 2 rfl TF.t81 (getV_state ..) | exact st.reads 3 rfl TF.t81 (getV_state ..))), trivial⟩ rfl ?_
          refine wl_alloc TF.z89 st rfl ?_
          intro b2 w st
          refine wl_nil ⟨rfl, ?_⟩
          refine FL.permB [11, 10, 9, 4, 3, 8, 7, 6, 5, 2, 1, 0] [7, 6, 5, 1, 0] [8] (by kernel_rfl) ?_
          exact fin _ _ _ _ _ rfl rfl rfl rfl rfl rfl rfl rfl rfl rfl (by first | exact st | exact st.perm p3_2 | exact st.perm p3_3 | exact st.perm p3_4 | exact st.perm p3_5 | exact st.perm p3_6)
        · refine stepE 9 (pure' := [7, 6, 5, 1, 0]) (lds' := [8]) rfl (by kernel_rfl) (by kernel_rfl) ?_
          refine wl_alloc TF.z89 st rfl ?_
          intro b2 w st
          refine wl_nil ⟨rfl, ?_⟩
          refine fl_eff1 4 [7, 6, 5, 1, 0] [8] (by kernel_rfl) ⟨obl_ld rfl rfl rfl (v_load rfl (by first | exact st.reads 0 rfl TF.t81 (getV_state ..) | exact st.reads 1 rfl TF.t81 (getV_state ..) | exact st.reads 2 rfl TF.t81 (getV_state ..) | exact st.reads 3 rfl TF.t81 (getV_state ..))), trivial⟩ rfl ?_
          refine wl_call rfl (c_factors st.im) rfl ?_
          rintro v16 w ⟨t, rfl⟩
          have st := st.pure t
          refine wl_nil ⟨rfl, ?_⟩
          refine FL.permB [11, 10, 9, 4, 3, 8, 7, 6, 5, 2, 1, 0] [7, 6, 5, 1, 0] [8] (by kernel_rfl) ?_
          exact fin _ _ _ _ _ rfl rfl rfl rfl rfl rfl rfl rfl rfl rfl (by first | exact st | exact st.perm p3_2 | exact st.perm p3_3 | exact st.perm p3_4 | exact st.perm p3_5 | exact st.perm p3_6)
    · refine stepE 9 (pure' := [7, 6, 5, 2, 1, 0]) (lds' := [8]) rfl (by kernel_rfl) (by kernel_rfl) ?_
      refine wl_alloc TF.z89 st rfl ?_
      intro b2 w st
      refine wl_nil ⟨rfl, ?_⟩
      refine fl_effs [3, 10] (by kernel_rfl) ⟨obl_ld rfl rfl rfl (v_load rfl (by first | exact st.reads 0 rfl TF.t81 (getV_state ..) | exact st.reads 1 rfl TF.t81 (getV_state ..) | exact st.reads 2 rfl TF.t81 (getV_state ..) | exact st.reads 3 rfl TF.t81 (getV_state ..))), trivial⟩ (all2 ?_ ?_)
      · refine stepE 3 (pure' := [7, 6, 5, 1, 0]) (lds' := [8]) rfl (by kernel_rfl) (by kernel_rfl) ?_
        refine wl_call rfl (by first | exact c_spreadS st 0 rfl hl | exact c_spreadS st 1 rfl hl | exact c_spreadS st 2 rfl hl | exact c_spreadS st 3 rfl hl) rfl ?_
        rintro v15 w ⟨t, rfl⟩
        have st := st.pure t
        refine wl_nil ⟨rfl, ?_⟩
        refine fl_effs [4, 10] (by kernel_rfl) ⟨obl_ld rfl rfl rfl (v_load rfl (by first | exact st.reads 0 rfl TF.t81 (getV_state ..) | exact st.reads 1 rfl TF.t81 (getV_state ..) | exact st.reads 2 rfl TF.t81 (getV_state ..) | exact st.reads 3 rfl TF.t81 (getV_state ..))), trivial⟩ (all2 ?_ ?_)
        · refine stepE 4 (pure' := [7, 6, 5, 1, 0]) (lds' := [8]) rfl (by kernel_rfl) (by kernel_rfl) ?_
          refine wl_call rfl (c_factors st.im) rfl ?_
          rintro v16 w ⟨t, rfl⟩
          have st := st.pure t
          refine wl_nil ⟨rfl, ?_⟩
          refine fl_eff1 10 [7, 6, 5, 1, 0] [8] (by kernel_rfl) ⟨obl_ld rfl rfl rfl (v_load rfl (by first | exact st.reads 0 rfl TF.t81 (getV_state ..) | exact st.reads 1 rfl TF.t81 (getV_state ..) | exact st.reads 2 rfl TF.t81 (getV_state ..) | exact st.reads 3 rfl TF.t81 (getV_state ..))), trivial⟩ rfl ?_
          refine wl_alloc TF.z89 st rfl ?_
          intro b3 w st
          refine wl_nil ⟨rfl, ?_⟩
          refine FL.permB [11, 10, 9, 4, 3, 8, 7, 6, 5, 2, 1, 0] [7, 6, 5, 1, 0] [8] (by kernel_rfl) ?_
          exact fin _ _ _ _ _ rfl rfl rfl rfl rfl rfl rfl rfl rfl rfl (by first | exact st | exact st.perm p3_2 | exact st.perm p3_3 | exact st.perm p3_4 | exact st.perm p3_5 | exact st.perm p3_6)
        · refine stepE 10 (pure' := [7, 6, 5, 1, 0]) (lds' := [8]) rfl (by kernel_rfl) (by kernel_rfl) ?_
          refine wl_alloc TF.z89 st rfl ?_
          intro b3 w st
          refine wl_nil ⟨rfl, ?_⟩
          refine fl_eff1 4 [7, 6, 5, 1, 0] [8] (by kernel_rfl) ⟨obl_ld rfl rfl rfl (v_load rfl (by first | exact st.reads 0 rfl TF.t81 (getV_state ..) | exact st.reads 1 rfl TF.t81 (getV_state ..) | exact st.reads 2 rfl TF.t81 (getV_state ..) | exact st.reads 3 rfl TF.t81 (getV_state ..))), trivial⟩ rfl ?_
          refine wl_call rfl (c_factors st.im) rfl ?_
          rintro v16 w ⟨t, rfl⟩
          have st := st.pure t
          refine wl_nil ⟨rfl, ?_⟩
          refine FL.permB [11, 10, 9, 4, 3, 8, 7, 6, 5, 2, 1, 0] [7, 6, 5, 1, 0] [8] (by kernel_rfl) ?_
          exact fin _ _ _ _ _ rfl rfl rfl rfl rfl rfl rfl rfl rfl rfl (by first | exact st | exact st.perm p3_2 | exact st.perm p3_3 | exact st.perm p3_4 | exact st.perm p3_5 | exact st.perm p3_6)
      · refine stepE 10 (pure' := [7, 6, 5, 2, 1, 0]) (lds' := [8]) rfl (by kernel_rfl) (by kernel_rfl) ?_
        refine wl_alloc TF.z89 st rfl ?_
        intro b3 w st
        refine wl_nil ⟨rfl, ?_⟩
        refine fl_eff1 3 [7, 6, 5, 1, 0] [8] (by kernel_rfl) ⟨obl_ld rfl rfl rfl (v_load rfl (by first | exact st.reads 0 rfl TF.t81 (getV_state ..) | exact st.reads 1 rfl TF.t81 (getV_state ..) | exact st.reads 2 rfl TF.t81 (getV_state ..) | exact st.reads 3 rfl TF.t81 (getV_state ..))), trivial⟩ rfl ?_
        refine wl_call rfl (by first | exact c_spreadS st 0 rfl hl | exact c_spreadS st 1 rfl hl | exact c_spreadS st 2 rfl hl | exact c_spreadS st 3 rfl hl) rfl ?_
        rintro v15 w ⟨t, rfl⟩
        have st := st.pure t
        refine wl_nil ⟨rfl, ?_⟩
        refine fl_eff1 4 [7, 6, 5, 1, 0] [8] (by kernel_rfl) ⟨obl_ld rfl rfl rfl (v_load rfl (by first | exact st.reads 0 rfl TF.t81 (getV_state ..) | exact st.reads 1 rfl TF.t81 (getV_state ..) | exact st.reads 2 rfl TF.t81 (getV_state ..) | exact st.reads 3 rfl TF.t81 (getV_state ..))), trivial⟩ rfl ?_
        refine wl_call rfl (c_factors st.im) rfl ?_
        rintro v16 w ⟨t, rfl⟩
        have st := st.pure t
        refine wl_nil ⟨rfl, ?_⟩
        refine FL.permB [11, 10, 9, 4, 3, 8, 7, 6, 5, 2, 1, 0] [7, 6, 5, 1, 0] [8] (by kernel_rfl) ?_
        exact fin _ _ _ _ _ rfl rfl rfl rfl rfl rfl rfl rfl rfl rfl (by first | exact st | exact st.perm p3_2 | exact st.perm p3_3 | exact st.perm p3_4 | exact st.perm p3_5 | exact st.perm p3_6)
    · refine stepE 10 (pure' := [7, 6, 5, 2, 1, 0]) (lds' := [8]) rfl (by kernel_rfl) (by kernel_rfl) ?_
      refine wl_alloc TF.z89 st rfl ?_
      intro b3 w st
      refine wl_nil ⟨rfl, ?_⟩
      refine fl_effs [3, 9] (by kernel_rfl) ⟨obl_ld rfl rfl rfl (v_load rfl (by first | exact st.reads 0 rfl TF.t81 (getV_state ..) | exact st.reads 1 rfl TF.t81 (getV_state ..) | exact st.reads 2 rfl TF.t81 (getV_state ..) | exact st.reads 3 rfl TF.t81 (getV_state ..))), trivial⟩ (all2 ?_ ?_)
      · refine stepE 3 (pure' := [7, 6, 5, 1, 0]) (lds' := [8]) rfl (by kernel_rfl) (by kernel_rfl) ?_
        refine wl_call rfl (by first | exact c_spreadS st 0 rfl hl | exact c_spreadS st 1 rfl hl | exact c_spreadS st 2 rfl hl | exact c_spreadS st 3 rfl hl) rfl ?_
        rintro v15 w ⟨t, rfl⟩
        have st := st.pure t
        refine wl_nil ⟨rfl, ?_⟩
        refine fl_effs [4, 9] (by kernel_rfl) ⟨obl_ld rfl rfl rfl (v_load rfl (by first | exact st.reads 0 rfl TF.t81 (getV_state ..) | exact st.reads 1 rfl TF.t81 (getV_state ..) | exact st.reads 2 rfl TF.t81 (getV_state ..) | exact st.reads 3 rfl TF.t81 (getV_state ..))), trivial⟩ (all2 ?_ ?_)
        · refine stepE 4 (pure' := [7, 6, 5, 1, 0]) (lds' := [8]) rfl (by kernel_rfl) (by kernel_rfl) ?_
          refine wl_call rfl (c_factors st.im) rfl ?_
          rintro v16 w ⟨t, rfl⟩
          have st := st.pure t
          refine wl_nil ⟨rfl, ?_⟩
          refine fl_eff1 9 [7, 6, 5, 1, 0] [8] (by kernel_rfl) ⟨obl_ld rfl rfl rfl (v_load rfl (by first | exact st.reads 0 rfl TF.t81 (getV_state ..) | exact st.reads 1 rfl TF.t81 (getV_state ..) | exact st.reads 2 rfl TF.t81 (getV_state ..) | exact st.reads 3 rfl TF.t81 (getV_state ..))), trivial⟩ rfl ?_
          refine wl_alloc TF.z89 st rfl ?_
          intro b2 w st
          refine wl_nil ⟨rfl, ?_⟩
          refine FL.permB [11, 10, 9, 4, 3, 8, 7, 6, 5, 2, 1, 0] [7, 6, 5, 1, 0] [8] (by kernel_rfl) ?_
          exact fin _ _ _ _ _ rfl rfl rfl rfl rfl rfl rfl rfl rfl rfl (by first | exact st | exact st.perm p3_2 | exact st.perm p3_3 | exact st.perm p3_4 | exact st.perm p3_5 | exact st.perm p3_6)
        · refine stepE 9 (pure' := [7, 6, 5, 1, 0]) (lds' := [8]) rfl (by kernel_rfl) (by kernel_rfl) ?_
          refine wl_alloc TF.z89 st rfl ?_
          intro b2 w st
          refine wl_nil ⟨rfl, ?_⟩
          refine fl_eff1 4 [7, 6, 5, 1, 0] [8] (by kernel_rfl) ⟨obl_ld rfl rfl rfl (v_load rfl (by first | exact st.reads 0 rfl TF.t81 (getV_state ..) | exact st.reads 1 rfl TF.t81 (getV_state ..) | exact st.reads 2 rfl TF.t81 (getV_state ..) | exact st.reads 3 rfl TF.t81 (getV_state ..))), trivial⟩ rfl ?_
          refine wl_call rfl (c_factors st.im) rfl ?_
          rintro v16 w ⟨t, rfl⟩
          have st := st.pure t
          refine wl_nil ⟨rfl, ?_⟩
          refine FL.permB [11, 10, 9, 4, 3, 8, 7, 6, 5, 2, 1, 0] [7, 6, 5, 1, 0] [8] (by kernel_rfl) ?_
          exact fin _ _ _ _ _ rfl rfl rfl rfl rfl rfl rfl rfl rfl rfl (by first | exact st | exact st.perm p3_2 | exact st.perm p3_3 | exact st.perm p3_4 | exact st.perm p3_5 | exact st.perm p3_6)
      · refine stepE 9 (pure' := [7, 6, 5, 2, 1, 0]) (lds' := [8]) rfl (by kernel_rfl) (by kernel_rfl) ?_
        refine wl_alloc TF.z89 st rfl ?_
        intro b2 w st
        refine wl_nil ⟨rfl, ?_⟩
        refine fl_eff1 3 [7, 6, 5, 1, 0] [8] (by kernel_rfl) ⟨obl_ld rfl rfl rfl (v_load rfl (by first | exact st.reads 0 rfl TF.t81 (getV_state ..) | exact st.reads 1 rfl TF.t81 (getV_state ..) | exact st.reads 2 rfl TF.t81 (getV_state ..) | exact st.reads 3 rfl TF.t81 (getV_state ..))), trivial⟩ rfl ?_
        refine wl_call rfl (by first | exact c_spreadS st 0 rfl hl | exact c_spreadS st 1 rfl hl | exact c_spreadS st 2 rfl hl | exact c_spreadS st 3 rfl hl) rfl ?_
        rintro v15 w ⟨t, rfl⟩
        have st := st.pure t
        refine wl_nil ⟨rfl, ?_⟩
        refine fl_eff1 4 [7, 6, 5, 1, 0] [8] (by kernel_rfl) ⟨obl_ld rfl rfl rfl (v_load rfl (by first | exact st.reads 0 rfl TF.t81 (getV_state ..) | exact st.reads 1 rfl TF.t81 (getV_state ..) | exact st.reads 2 rfl TF.t81 (getV_state ..) | exact st.reads 3 rfl TF.t81 (getV_state ..))), trivial⟩ rfl ?_
        refine wl_call rfl (c_factors st.im) rfl ?_
        rintro v16 w ⟨t, rfl⟩
        have st := st.pure t
        refine wl_nil ⟨rfl, ?_⟩
        refine FL.permB [11, 10, 9, 4, 3, 8, 7, 6, 5, 2, 1, 0] [7, 6, 5, 1, 0] [8] (by kernel_rfl) ?_
        exact fin _ _ _ _ _ rfl rfl rfl rfl rfl rfl rfl rfl rfl rfl (by first | exact st | exact st.perm p3_2 | exact st.perm p3_3 | exact st.perm p3_4 | exact st.perm p3_5 | exact st.perm p3_6)
end
end Go.Proofs.Ytkbmhhbclbgdpaa
