/-
  SHA-256: the reference's block.
-/
import Derived.Test.YtkbmhhbclbgdpaaSf
namespace Go.Proofs.Ytkbmhhbclbgdpaa
open Go Go.RowKit K SH

namespace SH
/-- So many words of a state added. -/
def addI (v u : V8) (i : Nat) : List UInt32 := (List.range 8).map fun s => if s < i then v.l.getD s 0 + u.l.getD s 0 else v.l.getD s 0

theorem length_addI (v u : V8) (i : Nat) : (addI v u i).length = 8 := by simp [addI]
theorem addI_zero (v u : V8) : addI v u 0 = v.l := rfl
theorem addI_all (v u : V8) : addI v u 8 = (v.add u).l := rfl
theorem addI_at (v u : V8) (i : Nat) (hi : i < 8) : (addI v u i).getD i 0 = v.l.getD i 0 := by simp [addI, List.getD, hi]
theorem addI_succ (v u : V8) (i : Nat) : (addI v u i).set i (v.l.getD i 0 + u.l.getD i 0) = addI v u (i + 1) := by
  apply List.ext_getElem
  · simp [length_addI]
  · intro s h1 h2
    have hs : s < 8 := by simpa [length_addI] using h2
    rw [List.getElem_set]
    simp only [addI, List.getElem_map, List.getElem_range]
    split
    · rename_i he
      subst he
      rw [if_pos (by omega)]
    · rename_i he
      by_cases h : s < i
      · rw [if_pos h, if_pos (by omega)]
      · rw [if_neg h, if_neg (by omega)]

theorem fill8 (a b c d e f g h : UInt32) : Instr.fill (fun i => some (i * 1, 1)) (Value.agg (Array.replicate 8 (.int .u32 0))).cells [(0, u32 a), (1, u32 b), (2, u32 c), (3, u32 d), (4, u32 e), (5, u32 f), (6, u32 g), (7, u32 h)] = some (ws [a, b, c, d, e, f, g, h]).toArray :=
  fill_run (fill_one [] [u32 0] [u32 0, u32 0, u32 0, u32 0, u32 0, u32 0, u32 0] rfl rfl rfl (fill_one [u32 a] [u32 0] [u32 0, u32 0, u32 0, u32 0, u32 0, u32 0] rfl rfl rfl (fill_one [u32 a, u32 b] [u32 0] [u32 0, u32 0, u32 0, u32 0, u32 0] rfl rfl rfl (fill_one [u32 a, u32 b, u32 c] [u32 0] [u32 0, u32 0, u32 0, u32 0] rfl rfl rfl (fill_one [u32 a, u32 b, u32 c, u32 d] [u32 0] [u32 0, u32 0, u32 0] rfl rfl rfl (fill_one [u32 a, u32 b, u32 c, u32 d, u32 e] [u32 0] [u32 0, u32 0] rfl rfl rfl (fill_one [u32 a, u32 b, u32 c, u32 d, u32 e, u32 f] [u32 0] [u32 0] rfl rfl rfl (fill_one [u32 a, u32 b, u32 c, u32 d, u32 e, u32 f, u32 g] [u32 0] [] rfl rfl rfl (rfl)))))))))

theorem length_l (v : V8) : v.l.length = 8 := rfl
end SH

section
variable {m : Mem} {wI : World}

theorem c_block {h : V8} {bv : Value} {blk : List UInt8} (him : Im m wI) (hb : SlM m bv 1 64 (bs blk)) (hl : blk.length = 64) :
    Ret Try.prog 59 #[arr32 h.l, bv] wI fun v w' => Tch wI w' [] [] ∧ v = arr32 (comp h blk).l := by
  have st := St.start him
  refine ret_of Try.call59 Try.func59 rfl Try.ntmps59 Try.results59 rfl ?_
  refine wc_seq ?_
  refine wc_region ?_
  refine wl_box (v := .agg (ws h.l).toArray) rfl st rfl ?_
  intro b2 w st
  refine wl_alloc TF.z81 st rfl ?_
  intro b4 w st
  refine wl_nil ?_
  refine then_go ?_
  refine wc_seq ?_
  refine wc_region ?_
  refine wl_val (v_move' (by conv => (lhs; whnf))) rfl ?_
  refine wl_call rfl (c_words st.im hb hl) rfl ?_
  rintro v16 w ⟨t, rfl⟩
  have st := st.pure t
  refine wl_alloc TF.z89 st rfl ?_
  intro b5 w st
  refine wl_storeW (cs := (ws (sched blk)).toArray) 0 st rfl TF.t89 rfl rfl (by simp [ws, length_sched]) rfl (by simpa using one_ws _) ?_
  intro w st
  refine wl_nil ?_
  refine then_go ?_
  refine wc_seq ?_
  refine wc_region ?_
  refine wl_call rfl (c_round st.im) rfl ?_
  rintro v17 w ⟨t, rfl⟩
  have st := st.pure t
  refine wl_alloc TF.z89 st rfl ?_
  intro b6 w st
  refine wl_storeW (cs := (ws kk).toArray) 0 st rfl TF.t89 rfl rfl rfl rfl (by simpa using one_ws _) ?_
  intro w st
  refine wl_nil ?_
  refine then_go ?_
  refine wc_seq ?_
  refine wc_region ?_
  refine wl_val (v_load rfl (st.reads 3 rfl TF.t81 (getV_all (c := (ws h.l).toArray) rfl))) rfl ?_
  refine wl_alloc TF.z81 st rfl ?_
  intro b7 w st
  refine wl_storeW (cs := (ws h.l).toArray) 0 st rfl TF.t81 rfl rfl rfl rfl (by simpa using one_ws _) ?_
  intro w st
  refine wl_nil ?_
  refine then_go ?_
  refine wc_seq ?_
  refine wc_seq ?_
  refine wc_region ?_
  refine wl_val (v_assign' (by conv => (lhs; whnf))) rfl ?_
  refine wl_nil ?_
  refine then_go ?_
  refine wc_block ?_
  refine wc_loop (S := Nat) (fun q r w' => ∃ j, q + j = 64 ∧ r 2 = .pointer (some ⟨b2, 0, none⟩) ∧ r 4 = .pointer (some ⟨b4, 0, none⟩) ∧ r 5 = .pointer (some ⟨b5, 0, none⟩) ∧ r 6 = .pointer (some ⟨b6, 0, none⟩) ∧ r 7 = .pointer (some ⟨b7, 0, none⟩) ∧ r 8 = .int .i64 j ∧
    St m m [] wI w' [K.blk b7 (ws (rnds j h (sched blk)).l).toArray 81, K.blk b6 (ws kk).toArray 89, K.blk b5 (ws (sched blk)).toArray 89, K.blk b4 (Array.replicate 8 (u32 0)) 81, K.blk b2 (ws h.l).toArray 81]) id 64 ⟨0, rfl, rfl, rfl, rfl, rfl, rfl, rfl, st⟩ ?_
  rintro q r w2 ⟨j, hqj, h2, h4, h5, h6, h7, h8, st⟩
  refine wc_o 2 h2 (wc_o 4 h4 (wc_o 5 h5 (wc_o 6 h6 (wc_o 7 h7 (wc_o 8 h8 ?_)))))
  refine wc_seq ?_
  refine wc_seq ?_
  refine wc_region ?_
  refine wl_val (v_move' (by conv => (lhs; whnf))) rfl ?_
  refine wl_val (v_lss rfl rfl) rfl ?_
  refine wl_nil ?_
  refine then_go ?_
  refine wc_if rfl (fun h20 => ?_) (fun h20 => ?_)
  · refine wc_skip ?_
    refine then_go ?_
    refine wc_seq ?_
    refine wc_block ?_
    refine wc_seq ?_
    have hj : j < 64 := by omega
    obtain ⟨v, hv⟩ : ∃ v, v = rnds j h (sched blk) := ⟨_, rfl⟩
    obtain ⟨kj, hkj⟩ : ∃ x, x = kk.getD j 0 := ⟨_, rfl⟩
    obtain ⟨wj, hwj⟩ : ∃ x, x = (sched blk).getD j 0 := ⟨_, rfl⟩
    rw [← hv] at st
    refine wc_draw TF.mixed ?_
    have st := st.pure (touch_drew _)
    refine fl_val 0 rfl (fun _ => (v_iaa 4 Try.underlying81 TF.t80 rfl rfl (by first | rfl | omega) (by first | omega | (dsimp only at *; omega)))) rfl (by kernel_rfl) ?_
    refine fl_ld 1 rfl (v_load rfl (st.reads (v := u32 v.e) 0 rfl TF.t80 rfl)) (by kernel_rfl) ?_
    refine fl_val 3 rfl (fun _ => (v_iaa 4 Try.underlying81 TF.t80 rfl rfl (by first | rfl | omega) (by first | omega | (dsimp only at *; omega)))) rfl (by kernel_rfl) ?_
    refine fl_ld 4 rfl (v_load rfl (st.reads (v := u32 v.e) 0 rfl TF.t80 rfl)) (by kernel_rfl) ?_
    refine fl_val 7 rfl (fun _ => (v_iaa 4 Try.underlying81 TF.t80 rfl rfl (by first | rfl | omega) (by first | omega | (dsimp only at *; omega)))) rfl (by kernel_rfl) ?_
    refine fl_ld 8 rfl (v_load rfl (st.reads (v := u32 v.e) 0 rfl TF.t80 rfl)) (by kernel_rfl) ?_
    refine fl_eff1 2 [7, 3, 0] [8, 4] (by kernel_rfl) ⟨obl_ld rfl rfl rfl (v_load rfl (st.reads (v := u32 v.e) 0 rfl TF.t80 rfl)), obl_ld rfl rfl rfl (v_load rfl (st.reads (v := u32 v.e) 0 rfl TF.t80 rfl)), obl_ld rfl rfl rfl (v_load rfl (st.reads (v := u32 v.e) 0 rfl TF.t80 rfl)), trivial⟩ rfl ?_
    refine wl_call rfl (c_turn (n := 6) (by decide)) rfl ?_
    rintro v25 w ⟨rfl, rfl⟩
    refine wl_nil ⟨rfl, ?_⟩
    refine fl_eff1 5 [7, 3, 0] [8] (by kernel_rfl) ⟨obl_ld rfl rfl rfl (v_load rfl (st.reads (v := u32 v.e) 0 rfl TF.t80 rfl)), obl_ld rfl rfl rfl (v_load rfl (st.reads (v := u32 v.e) 0 rfl TF.t80 rfl)), trivial⟩ rfl ?_
    refine wl_call rfl (c_turn (n := 11) (by decide)) rfl ?_
    rintro v28 w ⟨rfl, rfl⟩
    refine wl_nil ⟨rfl, ?_⟩
    refine fl_val 6 rfl (fun _ => (v_xor32 rfl rfl)) rfl (by kernel_rfl) ?_
    refine fl_eff1 9 [6, 7, 3, 0] [] (by kernel_rfl) ⟨obl_ld rfl rfl rfl (v_load rfl (st.reads (v := u32 v.e) 0 rfl TF.t80 rfl)), trivial⟩ rfl ?_
    refine wl_call rfl (c_turn (n := 25) (by decide)) rfl ?_
    rintro v32 w ⟨rfl, rfl⟩
    refine wl_nil ⟨rfl, ?_⟩
    refine fl_val 10 rfl (fun _ => (v_xor32 rfl rfl)) rfl (by kernel_rfl) ?_
    refine fl_eff1 11 [] [] (by kernel_rfl) trivial rfl ?_
    refine wl_val (v_assign' (by conv => (lhs; whnf))) rfl ?_
    refine wl_nil ⟨rfl, ?_⟩
    refine fl_nil (by kernel_rfl) trivial ?_
    refine then_go ?_
    refine wc_seq ?_
    refine wc_region ?_
    refine wl_val (v_iaa 4 Try.underlying81 TF.t80 rfl rfl (by first | rfl | omega) (by first | omega | (dsimp only at *; omega))) rfl ?_
    refine wl_val (v_load rfl (st.reads (v := u32 v.e) 0 rfl TF.t80 rfl)) rfl ?_
    refine wl_val (v_iaa 5 Try.underlying81 TF.t80 rfl rfl (by first | rfl | omega) (by first | omega | (dsimp only at *; omega))) rfl ?_
    refine wl_val (v_load rfl (st.reads (v := u32 v.f) 0 rfl TF.t80 rfl)) rfl ?_
    refine wl_val (v_and32 rfl rfl) rfl ?_
    refine wl_val (v_iaa 4 Try.underlying81 TF.t80 rfl rfl (by first | rfl | omega) (by first | omega | (dsimp only at *; omega))) rfl ?_
    refine wl_val (v_load rfl (st.reads (v := u32 v.e) 0 rfl TF.t80 rfl)) rfl ?_
    refine wl_val (v_xor32 (b := 4294967295) rfl rfl) rfl ?_
    refine wl_val (v_iaa 6 Try.underlying81 TF.t80 rfl rfl (by first | rfl | omega) (by first | omega | (dsimp only at *; omega))) rfl ?_
    refine wl_val (v_load rfl (st.reads (v := u32 v.g) 0 rfl TF.t80 rfl)) rfl ?_
    refine wl_val (v_and32 rfl rfl) rfl ?_
    refine wl_val (v_xor32 rfl rfl) rfl ?_
    refine wl_val (v_assign' (by conv => (lhs; whnf))) rfl ?_
    refine wl_nil ?_
    refine then_go ?_
    refine wc_seq ?_
    refine wc_draw TF.mixed ?_
    have st := st.pure (touch_drew _)
    refine fl_val 0 rfl (fun _ => (v_iaa 7 Try.underlying81 TF.t80 rfl rfl (by first | rfl | omega) (by first | omega | (dsimp only at *; omega)))) rfl (by kernel_rfl) ?_
    refine fl_ld 1 rfl (v_load rfl (st.reads (v := u32 v.h) 0 rfl TF.t80 rfl)) (by kernel_rfl) ?_
    refine fl_val 2 rfl (fun _ => (v_move' (by conv => (lhs; whnf)))) rfl (by kernel_rfl) ?_
    refine fl_val 3 rfl (fun _ => (v_add32 rfl rfl)) rfl (by kernel_rfl) ?_
    refine fl_val 4 rfl (fun _ => (v_move' (by conv => (lhs; whnf)))) rfl (by kernel_rfl) ?_
    refine fl_val 5 rfl (fun _ => (v_add32 rfl rfl)) rfl (by kernel_rfl) ?_
    refine fl_val 6 rfl (fun _ => (v_move' (by conv => (lhs; whnf)))) rfl (by kernel_rfl) ?_
    refine fl_val 7 rfl (fun _ => (v_iaa j Try.underlying89 TF.t80 rfl rfl (by first | rfl | omega) (by first | omega | (dsimp only at *; omega)))) rfl (by kernel_rfl) ?_
    refine fl_ld 8 rfl (v_load rfl (st.reads (v := u32 kj) 1 rfl TF.t80 (by rw [hkj]; exact getV_wse (j := j) (by omega) (by rw [length_kk]; omega)))) (by kernel_rfl) ?_
    refine fl_val 9 rfl (fun _ => (v_add32 rfl rfl)) rfl (by kernel_rfl) ?_
    refine fl_val 10 rfl (fun _ => (v_move' (by conv => (lhs; whnf)))) rfl (by kernel_rfl) ?_
    refine fl_val 11 rfl (fun _ => (v_iaa j Try.underlying89 TF.t80 rfl rfl (by first | rfl | omega) (by first | omega | (dsimp only at *; omega)))) rfl (by kernel_rfl) ?_
    refine fl_ld 12 rfl (v_load rfl (st.reads (v := u32 wj) 2 rfl TF.t80 (by rw [hwj]; exact getV_wse (j := j) (by omega) (by rw [length_sched]; omega)))) (by kernel_rfl) ?_
    refine fl_val 13 rfl (fun _ => (v_add32 rfl rfl)) rfl (by kernel_rfl) ?_
    refine fl_eff1 14 [] [] (by kernel_rfl) ⟨obl_ld rfl rfl rfl (v_load rfl (st.reads (v := u32 wj) 2 rfl TF.t80 (by rw [hwj]; exact getV_wse (j := j) (by omega) (by rw [length_sched]; omega)))), obl_ld rfl rfl rfl (v_load rfl (st.reads (v := u32 kj) 1 rfl TF.t80 (by rw [hkj]; exact getV_wse (j := j) (by omega) (by rw [length_kk]; omega)))), obl_ld rfl rfl rfl (v_load rfl (st.reads (v := u32 v.h) 0 rfl TF.t80 rfl)), trivial⟩ rfl ?_
    refine wl_val (v_assign' (by conv => (lhs; whnf))) rfl ?_
    refine wl_nil ⟨rfl, ?_⟩
    refine fl_nil (by kernel_rfl) trivial ?_
    refine then_go ?_
    refine wc_seq ?_
    refine wc_draw TF.mixed ?_
    have st := st.pure (touch_drew _)
    refine fl_val 0 rfl (fun _ => (v_iaa 0 Try.underlying81 TF.t80 rfl rfl (by first | rfl | omega) (by first | omega | (dsimp only at *; omega)))) rfl (by kernel_rfl) ?_
    refine fl_ld 1 rfl (v_load rfl (st.reads (v := u32 v.a) 0 rfl TF.t80 rfl)) (by kernel_rfl) ?_
    refine fl_val 3 rfl (fun _ => (v_iaa 0 Try.underlying81 TF.t80 rfl rfl (by first | rfl | omega) (by first | omega | (dsimp only at *; omega)))) rfl (by kernel_rfl) ?_
    refine fl_ld 4 rfl (v_load rfl (st.reads (v := u32 v.a) 0 rfl TF.t80 rfl)) (by kernel_rfl) ?_
    refine fl_val 7 rfl (fun _ => (v_iaa 0 Try.underlying81 TF.t80 rfl rfl (by first | rfl | omega) (by first | omega | (dsimp only at *; omega)))) rfl (by kernel_rfl) ?_
    refine fl_ld 8 rfl (v_load rfl (st.reads (v := u32 v.a) 0 rfl TF.t80 rfl)) (by kernel_rfl) ?_
    refine fl_eff1 2 [7, 3, 0] [8, 4] (by kernel_rfl) ⟨obl_ld rfl rfl rfl (v_load rfl (st.reads (v := u32 v.a) 0 rfl TF.t80 rfl)), obl_ld rfl rfl rfl (v_load rfl (st.reads (v := u32 v.a) 0 rfl TF.t80 rfl)), obl_ld rfl rfl rfl (v_load rfl (st.reads (v := u32 v.a) 0 rfl TF.t80 rfl)), trivial⟩ rfl ?_
    refine wl_call rfl (c_turn (n := 2) (by decide)) rfl ?_
    rintro v62 w ⟨rfl, rfl⟩
    refine wl_nil ⟨rfl, ?_⟩
    refine fl_eff1 5 [7, 3, 0] [8] (by kernel_rfl) ⟨obl_ld rfl rfl rfl (v_load rfl (st.reads (v := u32 v.a) 0 rfl TF.t80 rfl)), obl_ld rfl rfl rfl (v_load rfl (st.reads (v := u32 v.a) 0 rfl TF.t80 rfl)), trivial⟩ rfl ?_
    refine wl_call rfl (c_turn (n := 13) (by decide)) rfl ?_
    rintro v65 w ⟨rfl, rfl⟩
    refine wl_nil ⟨rfl, ?_⟩
    refine fl_val 6 rfl (fun _ => (v_xor32 rfl rfl)) rfl (by kernel_rfl) ?_
    refine fl_eff1 9 [6, 7, 3, 0] [] (by kernel_rfl) ⟨obl_ld rfl rfl rfl (v_load rfl (st.reads (v := u32 v.a) 0 rfl TF.t80 rfl)), trivial⟩ rfl ?_
    refine wl_call rfl (c_turn (n := 22) (by decide)) rfl ?_
    rintro v69 w ⟨rfl, rfl⟩
    refine wl_nil ⟨rfl, ?_⟩
    refine fl_val 10 rfl (fun _ => (v_xor32 rfl rfl)) rfl (by kernel_rfl) ?_
    refine fl_eff1 11 [] [] (by kernel_rfl) trivial rfl ?_
    refine wl_val (v_assign' (by conv => (lhs; whnf))) rfl ?_
    refine wl_nil ⟨rfl, ?_⟩
    refine fl_nil (by kernel_rfl) trivial ?_
    refine then_go ?_
    refine wc_seq ?_
    refine wc_region ?_
    refine wl_val (v_iaa 0 Try.underlying81 TF.t80 rfl rfl (by first | rfl | omega) (by first | omega | (dsimp only at *; omega))) rfl ?_
    refine wl_val (v_load rfl (st.reads (v := u32 v.a) 0 rfl TF.t80 rfl)) rfl ?_
    refine wl_val (v_iaa 1 Try.underlying81 TF.t80 rfl rfl (by first | rfl | omega) (by first | omega | (dsimp only at *; omega))) rfl ?_
    refine wl_val (v_load rfl (st.reads (v := u32 v.b) 0 rfl TF.t80 rfl)) rfl ?_
    refine wl_val (v_and32 rfl rfl) rfl ?_
    refine wl_val (v_iaa 0 Try.underlying81 TF.t80 rfl rfl (by first | rfl | omega) (by first | omega | (dsimp only at *; omega))) rfl ?_
    refine wl_val (v_load rfl (st.reads (v := u32 v.a) 0 rfl TF.t80 rfl)) rfl ?_
    refine wl_val (v_iaa 2 Try.underlying81 TF.t80 rfl rfl (by first | rfl | omega) (by first | omega | (dsimp only at *; omega))) rfl ?_
    refine wl_val (v_load rfl (st.reads (v := u32 v.c) 0 rfl TF.t80 rfl)) rfl ?_
    refine wl_val (v_and32 rfl rfl) rfl ?_
    refine wl_val (v_xor32 rfl rfl) rfl ?_
    refine wl_val (v_iaa 1 Try.underlying81 TF.t80 rfl rfl (by first | rfl | omega) (by first | omega | (dsimp only at *; omega))) rfl ?_
    refine wl_val (v_load rfl (st.reads (v := u32 v.b) 0 rfl TF.t80 rfl)) rfl ?_
    refine wl_val (v_iaa 2 Try.underlying81 TF.t80 rfl rfl (by first | rfl | omega) (by first | omega | (dsimp only at *; omega))) rfl ?_
    refine wl_val (v_load rfl (st.reads (v := u32 v.c) 0 rfl TF.t80 rfl)) rfl ?_
    refine wl_val (v_and32 rfl rfl) rfl ?_
    refine wl_val (v_xor32 rfl rfl) rfl ?_
    refine wl_val (v_assign' (by conv => (lhs; whnf))) rfl ?_
    refine wl_nil ?_
    refine then_go ?_
    refine wc_region ?_
    refine wl_val (v_move' (by conv => (lhs; whnf))) rfl ?_
    refine wl_val (v_move' (by conv => (lhs; whnf))) rfl ?_
    refine wl_val (v_add32 rfl rfl) rfl ?_
    refine wl_val (v_move' (by conv => (lhs; whnf))) rfl ?_
    refine wl_val (v_add32 rfl rfl) rfl ?_
    rw [UInt32.add_assoc]
    refine wl_val (v_iaa 0 Try.underlying81 TF.t80 rfl rfl (by first | rfl | omega) (by first | omega | (dsimp only at *; omega))) rfl ?_
    refine wl_val (v_load rfl (st.reads (v := u32 v.a) 0 rfl TF.t80 rfl)) rfl ?_
    refine wl_val (v_iaa 1 Try.underlying81 TF.t80 rfl rfl (by first | rfl | omega) (by first | omega | (dsimp only at *; omega))) rfl ?_
    refine wl_val (v_load rfl (st.reads (v := u32 v.b) 0 rfl TF.t80 rfl)) rfl ?_
    refine wl_val (v_iaa 2 Try.underlying81 TF.t80 rfl rfl (by first | rfl | omega) (by first | omega | (dsimp only at *; omega))) rfl ?_
    refine wl_val (v_load rfl (st.reads (v := u32 v.c) 0 rfl TF.t80 rfl)) rfl ?_
    refine wl_val (v_iaa 3 Try.underlying81 TF.t80 rfl rfl (by first | rfl | omega) (by first | omega | (dsimp only at *; omega))) rfl ?_
    refine wl_val (v_load rfl (st.reads (v := u32 v.d) 0 rfl TF.t80 rfl)) rfl ?_
    refine wl_val (v_move' (by conv => (lhs; whnf))) rfl ?_
    refine wl_val (v_add32 rfl rfl) rfl ?_
    refine wl_val (v_iaa 4 Try.underlying81 TF.t80 rfl rfl (by first | rfl | omega) (by first | omega | (dsimp only at *; omega))) rfl ?_
    refine wl_val (v_load rfl (st.reads (v := u32 v.e) 0 rfl TF.t80 rfl)) rfl ?_
    refine wl_val (v_iaa 5 Try.underlying81 TF.t80 rfl rfl (by first | rfl | omega) (by first | omega | (dsimp only at *; omega))) rfl ?_
    refine wl_val (v_load rfl (st.reads (v := u32 v.f) 0 rfl TF.t80 rfl)) rfl ?_
    refine wl_val (v_iaa 6 Try.underlying81 TF.t80 rfl rfl (by first | rfl | omega) (by first | omega | (dsimp only at *; omega))) rfl ?_
    refine wl_val (v_load rfl (st.reads (v := u32 v.g) 0 rfl TF.t80 rfl)) rfl ?_
    refine wl_val (v_build_fill (c' := (ws (rnd v kj wj).l).toArray) [(0, u32 (t1 v kj wj + t2 v)), (1, u32 v.a), (2, u32 v.b), (3, u32 v.c), (4, u32 (v.d + t1 v kj wj)), (5, u32 v.e), (6, u32 v.f), (7, u32 v.g)] TF.z81 Try.underlying81 TF.t80 rfl (fill8 _ _ _ _ _ _ _ _)) rfl ?_
    refine wl_storeW (cs := (ws (rnd v kj wj).l).toArray) 0 st rfl TF.t81 rfl rfl rfl rfl (by simpa using one_ws _) ?_
    intro w st
    have hnx : rnd v kj wj = rnds (j + 1) h (sched blk) := by rw [hv, hkj, hwj]; rfl
    rw [hnx] at st
    refine wl_nil ?_
    refine block_go (then_go ?_)
    refine wc_region ?_
    refine wl_val (v_move' (by conv => (lhs; whnf))) rfl ?_
    refine wl_val (v_add' rfl rfl rfl (by first | omega | (dsimp only at *; omega)) (by first | omega | (dsimp only at *; omega))) rfl ?_
    refine wl_val (v_assign' (by conv => (lhs; whnf))) rfl ?_
    refine wl_nil ?_
    refine then_go ?_
    exact ⟨q - 1, by simp; omega, j + 1, by omega, rfl, rfl, rfl, rfl, rfl, rfl, st⟩
  · refine wc_exit (then_exit (then_exit (block_hit ?_)))
    refine then_go ?_
    refine wc_seq ?_
    refine wc_seq ?_
    refine wc_region ?_
    refine wl_val (v_assign' (by conv => (lhs; whnf))) rfl ?_
    refine wl_nil ?_
    refine then_go ?_
    refine wc_block ?_
    have hj64 : j = 64 := by omega
    subst hj64
    refine wc_loop (S := Nat) (fun q r w' => ∃ i, q + i = 8 ∧ r 2 = .pointer (some ⟨b2, 0, none⟩) ∧ r 4 = .pointer (some ⟨b4, 0, none⟩) ∧ r 7 = .pointer (some ⟨b7, 0, none⟩) ∧ r 14 = .int .i64 i ∧
      St m m [] wI w' [K.blk b7 (ws (rnds 64 h (sched blk)).l).toArray 81, K.blk b6 (ws kk).toArray 89, K.blk b5 (ws (sched blk)).toArray 89, K.blk b4 (Array.replicate 8 (u32 0)) 81, K.blk b2 (ws (addI h (rnds 64 h (sched blk)) i)).toArray 81]) id 8 ⟨0, rfl, rfl, rfl, rfl, rfl, st⟩ ?_
    rintro q2 r w3 ⟨i, hqi, h2, h4, h7, h14, st⟩
    refine wc_o 2 h2 (wc_o 4 h4 (wc_o 7 h7 (wc_o 14 h14 ?_)))
    refine wc_seq ?_
    refine wc_seq ?_
    refine wc_region ?_
    refine wl_val (v_move' (by conv => (lhs; whnf))) rfl ?_
    refine wl_val (v_lss rfl rfl) rfl ?_
    refine wl_nil ?_
    refine then_go ?_
    refine wc_if rfl (fun h111 => ?_) (fun h111 => ?_)
    · refine wc_skip ?_
      refine then_go ?_
      refine wc_seq ?_
      refine wc_block ?_
      have hi : i < 8 := by omega
      refine wc_draw TF.mixed ?_
      have st := st.pure (touch_drew _)
      refine fl_val 0 rfl (fun _ => (v_move' (by conv => (lhs; whnf)))) rfl (by kernel_rfl) ?_
      refine fl_val 1 rfl (fun _ => (v_move' (by conv => (lhs; whnf)))) rfl (by kernel_rfl) ?_
      refine fl_val 2 rfl (fun _ => (v_iaa i Try.underlying81 TF.t80 rfl rfl (by first | rfl | omega) (by first | omega | (dsimp only at *; omega)))) rfl (by kernel_rfl) ?_
      refine fl_ld 3 rfl (v_load rfl (st.reads (v := u32 (h.l.getD i 0)) 4 rfl TF.t80 (by rw [← addI_at h (rnds 64 h (sched blk)) i hi]; exact getV_wse (j := i) (by omega) (by rw [length_addI]; omega)))) (by kernel_rfl) ?_
      refine fl_val 4 rfl (fun _ => (v_move' (by conv => (lhs; whnf)))) rfl (by kernel_rfl) ?_
      refine fl_val 5 rfl (fun _ => (v_iaa i Try.underlying81 TF.t80 rfl rfl (by first | rfl | omega) (by first | omega | (dsimp only at *; omega)))) rfl (by kernel_rfl) ?_
      refine fl_ld 6 rfl (v_load rfl (st.reads (v := u32 ((rnds 64 h (sched blk)).l.getD i 0)) 0 rfl TF.t80 (getV_wse (j := i) (by omega) (by rw [length_l]; omega)))) (by kernel_rfl) ?_
      refine fl_val 7 rfl (fun _ => (v_add32 rfl rfl)) rfl (by kernel_rfl) ?_
      refine fl_val 8 rfl (fun _ => (v_iaa i Try.underlying81 TF.t80 rfl rfl (by first | rfl | omega) (by first | omega | (dsimp only at *; omega)))) rfl (by kernel_rfl) ?_
      refine fl_eff1 9 [] [] (by kernel_rfl) ⟨obl_ld rfl rfl rfl (v_load rfl (st.reads (v := u32 ((rnds 64 h (sched blk)).l.getD i 0)) 0 rfl TF.t80 (getV_wse (j := i) (by omega) (by rw [length_l]; omega)))), obl_ld rfl rfl rfl (v_load rfl (st.reads (v := u32 (h.l.getD i 0)) 4 rfl TF.t80 (by rw [← addI_at h (rnds 64 h (sched blk)) i hi]; exact getV_wse (j := i) (by omega) (by rw [length_addI]; omega)))), trivial⟩ rfl ?_
      refine wl_store1 (v := u32 (h.l.getD i 0 + (rnds 64 h (sched blk)).l.getD i 0)) 4 st rfl TF.t80 rfl rfl rfl (by simp [ws, length_addI]; omega) ?_
      intro w st
      refine wl_nil ⟨rfl, ?_⟩
      refine fl_nil (by kernel_rfl) trivial ?_
      refine block_go (then_go ?_)
      refine wc_region ?_
      refine wl_val (v_move' (by conv => (lhs; whnf))) rfl ?_
      refine wl_val (v_add' rfl rfl rfl (by first | omega | (dsimp only at *; omega)) (by first | omega | (dsimp only at *; omega))) rfl ?_
      refine wl_val (v_assign' (by conv => (lhs; whnf))) rfl ?_
      refine wl_nil ?_
      refine then_go ?_
      refine ⟨q2 - 1, by simp; omega, i + 1, by omega, rfl, rfl, rfl, rfl, ?_⟩
      have e : (ws (addI h (rnds 64 h (sched blk)) i)).toArray.setIfInBounds (0 + i * 1) (u32 (h.l.getD i 0 + (rnds 64 h (sched blk)).l.getD i 0)) = (ws (addI h (rnds 64 h (sched blk)) (i + 1))).toArray := by
        rw [← addI_succ h (rnds 64 h (sched blk)) i, show 0 + i * 1 = i by omega]
        simp [ws, List.map_set]
      rw [← e]
      exact st
    · refine wc_exit (then_exit (then_exit (block_hit ?_)))
      refine then_go ?_
      refine wc_seq ?_
      have hi8 : i = 8 := by omega
      subst hi8
      rw [addI_all] at st
      refine wc_region ?_
      refine wl_val (v_load rfl (st.reads 4 rfl TF.t81 (getV_all (c := (ws (comp h blk).l).toArray) rfl))) rfl ?_
      refine wl_storeW (cs := (ws (comp h blk).l).toArray) 3 st rfl TF.t81 rfl rfl rfl rfl (by simpa using one_ws _) ?_
      intro w st
      refine wl_nil ?_
      refine then_go ?_
      refine wc_ret ?_
      exact ret1c rfl (st.reads 3 rfl TF.t81 (getV_all (c := (ws (comp h blk).l).toArray) rfl)) ⟨(st.keepOnly (l := []) (List.nil_sublist _)).touch, rfl⟩
end
end Go.Proofs.Ytkbmhhbclbgdpaa
