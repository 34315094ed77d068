/-
  SHA-256: a block's words, the rounds' numbers.
-/
import Derived.Test.YtkbmhhbclbgdpaaSa
namespace Go.Proofs.Ytkbmhhbclbgdpaa
open Go Go.RowKit K SH

namespace SH
def sg0 (x : UInt32) : UInt32 := rotr x 7 ^^^ rotr x 18 ^^^ shr32 x 3
def sg1 (x : UInt32) : UInt32 := rotr x 17 ^^^ rotr x 19 ^^^ shr32 x 10
def ext1 (w : List UInt32) : UInt32 := w.getD (w.length - 16) 0 + sg0 (w.getD (w.length - 15) 0) + w.getD (w.length - 7) 0 + sg1 (w.getD (w.length - 2) 0)
def exts : Nat → List UInt32 → List UInt32
  | 0, w => w
  | k + 1, w => exts k (w ++ [ext1 w])
def wordAt (b : List UInt8) (t : Nat) : UInt32 := word4 (b.getD (4 * t) 0) (b.getD (4 * t + 1) 0) (b.getD (4 * t + 2) 0) (b.getD (4 * t + 3) 0)
def sched (b : List UInt8) : List UInt32 := exts 48 ((List.range 16).map (wordAt b))

theorem length_exts : ∀ (k : Nat) (w : List UInt32), (exts k w).length = w.length + k
  | 0, _ => rfl
  | k + 1, w => by rw [exts, length_exts k]; simp; omega

theorem length_sched (b : List UInt8) : (sched b).length = 64 := by rw [sched, length_exts]; simp

theorem drop4 {b : List UInt8} {t : Nat} (h : 4 * t + 4 ≤ b.length) : ∃ r, b.drop (4 * t) = b.getD (4 * t) 0 :: b.getD (4 * t + 1) 0 :: b.getD (4 * t + 2) 0 :: b.getD (4 * t + 3) 0 :: r := by
  have g : ∀ j, j < b.length → b.getD j 0 = b[j]! := fun j hj => by simp [List.getD, hj]
  refine ⟨b.drop (4 * t + 4), ?_⟩
  rw [List.drop_eq_getElem_cons (by omega), List.drop_eq_getElem_cons (by omega), List.drop_eq_getElem_cons (by omega), List.drop_eq_getElem_cons (by omega)]
  simp [List.getD, show 4 * t < b.length by omega, show 4 * t + 1 < b.length by omega, show 4 * t + 2 < b.length by omega, show 4 * t + 3 < b.length by omega]

end SH

section
variable {m : Mem} {wI : World}

theorem c_spread {b o : Nat} {c : Array Value} {t : TypeId} {fr : Nat × Nat} {blk : List UInt8} {pre post : List Value} (him : Im m wI) (hm : m b = some (.cells c t fr)) (hc : c.toList = pre ++ bs blk ++ post) (ho : o = pre.length) (hl : blk.length = 64) :
    Ret Try.prog 67 #[.pointer (some ⟨b, o, none⟩)] wI fun v w' => Tch wI w' [] [] ∧ v = arr32 (sched blk) := by
  have st := St.start him
  refine ret_of Try.call67 Try.func67 rfl Try.ntmps67 Try.results67 rfl ?_
  refine wc_seq ?_
  refine wc_region ?_
  refine wl_alloc TF.z89 st rfl ?_
  intro b2 w st
  refine wl_nil ?_
  refine then_go ?_
  refine wc_seq ?_
  refine wc_region ?_
  refine wl_alloc TF.z89 st rfl ?_
  intro b3 w st
  refine wl_nil ?_
  refine then_go ?_
  refine wc_seq ?_
  refine wc_seq ?_
  refine wc_region ?_
  refine wl_val (v_move' (by conv => (lhs; whnf))) rfl ?_
  refine wl_nil ?_
  refine then_go ?_
  refine wc_block ?_
  refine wc_loop (S := Nat) (fun q r w' => ∃ j, q + j = 16 ∧ r 0 = .pointer (some ⟨b, o, none⟩) ∧ r 2 = .pointer (some ⟨b2, 0, none⟩) ∧ r 3 = .pointer (some ⟨b3, 0, none⟩) ∧ r 10 = .int .i64 j ∧
    St m m [] wI w' [K.blk b3 (ws ((List.range j).map (wordAt blk)) ++ List.replicate (64 - j) (u32 0)).toArray 89, K.blk b2 (Array.replicate 64 (u32 0)) 89]) id 16 ⟨0, rfl, rfl, rfl, rfl, rfl, st⟩ ?_
  rintro q r w2 ⟨j, hqj, h0, h2, h3, h10, st⟩
  refine wc_o 0 h0 (wc_o 2 h2 (wc_o 3 h3 (wc_o 10 h10 ?_)))
  refine wc_seq ?_
  refine wc_region ?_
  refine wl_val (v_lss rfl rfl) rfl ?_
  refine wl_nil ?_
  refine then_go ?_
  refine wc_seq ?_
  refine wc_if rfl (fun h11 => ?_) (fun h11 => ?_)
  · refine wc_skip ?_
    refine then_go ?_
    refine wc_seq ?_
    refine wc_block ?_
    refine wc_seq ?_
    refine wc_region ?_
    refine wl_val (v_move' (by conv => (lhs; whnf))) rfl ?_
    refine wl_val (v_assign' (by conv => (lhs; whnf))) rfl ?_
    refine wl_nil ?_
    refine then_go ?_
    refine wc_region ?_
    refine wl_val (v_move' (by conv => (lhs; whnf))) rfl ?_
    refine wl_val (v_move' (by conv => (lhs; whnf))) rfl ?_
    refine wl_val (v_nil rfl) rfl ?_
    refine wl_val (v_move' (by conv => (lhs; whnf))) rfl ?_
    refine wl_val (v_mul' (c := ((4 * j : Nat) : Int)) rfl rfl (by omega) (by omega) (by omega)) rfl ?_
    refine wl_val (v_sla (4 * j) 64 Try.underlying86 TF.t5 rfl ⟨_, _, rfl, rfl⟩ rfl (by omega) (by omega) (by omega)) rfl ?_
    obtain ⟨r4, hr4⟩ := drop4 (b := blk) (t := j) (by omega)
    have hlen : (blk.drop (4 * j)).length = 64 - 4 * j := by simp [hl]
    have hlr : r4.length + 4 = 64 - 4 * j := by rw [← hlen, hr4]; simp
    have hsl := SlM.ofBlock (l := blk.drop (4 * j)) (pre := pre ++ bs (blk.take (4 * j))) (post := post) (o := o + 4 * j * 1) (cap := 64 - 4 * j) hm (by
      have e : bs blk = bs (blk.take (4 * j)) ++ bs (blk.drop (4 * j)) := by rw [bs, bs, bs, ← List.map_append, List.take_append_drop]
      rw [hc, e]
      simp) (by simp [bs, hl, ho]; omega) (by omega)
    rw [hlen, hr4] at hsl
    rw [← hlr] at hsl ⊢
    refine wl_call rfl (c_word st.im hsl) rfl ?_
    rintro v19 w ⟨t, rfl⟩
    have st := st.pure t
    rw [hlr]
    refine wl_val (v_iaa j Try.underlying89 TF.t80 rfl rfl (by first | rfl | omega) (by first | omega | (dsimp only at *; omega))) rfl ?_
    refine wl_store1 (v := u32 (wordAt blk j)) 0 st rfl TF.t80 rfl rfl rfl (by simp [ws]; omega) ?_
    intro w st
    refine wl_nil ?_
    refine block_go (then_go ?_)
    refine wc_region ?_
    refine wl_val (v_add' rfl rfl rfl (by first | omega | (dsimp only at *; omega)) (by first | omega | (dsimp only at *; omega))) rfl ?_
    refine wl_val (v_move' (by conv => (lhs; whnf))) rfl ?_
    refine wl_nil ?_
    refine then_go ?_
    refine ⟨q - 1, by simp; omega, j + 1, by omega, rfl, rfl, rfl, rfl, ?_⟩
    have e : (ws ((List.range j).map (wordAt blk)) ++ List.replicate (64 - j) (u32 0)).toArray.setIfInBounds (0 + j * 1) (u32 (wordAt blk j)) = (ws ((List.range (j + 1)).map (wordAt blk)) ++ List.replicate (64 - (j + 1)) (u32 0)).toArray := by
      rw [show 64 - j = (64 - (j + 1)) + 1 by omega, List.replicate_succ, set_app (by simp [ws]), List.range_succ]
      simp [ws]
    rw [← e]
    exact st
  · refine wc_exit (then_exit (then_exit (block_hit ?_)))
    refine then_go ?_
    refine wc_seq ?_
    refine wc_seq ?_
    refine wc_region ?_
    refine wl_val (v_assign' (by conv => (lhs; whnf))) rfl ?_
    refine wl_nil ?_
    refine then_go ?_
    refine wc_block ?_
    have hj16 : j = 16 := by omega
    subst hj16
    refine wc_loop (S := Nat) (fun q r w' => ∃ L : List UInt32, q + L.length = 64 ∧ 16 ≤ L.length ∧ exts (64 - L.length) L = sched blk ∧ r 2 = .pointer (some ⟨b2, 0, none⟩) ∧ r 3 = .pointer (some ⟨b3, 0, none⟩) ∧ r 5 = .int .i64 L.length ∧
      St m m [] wI w' [K.blk b3 (ws L ++ List.replicate (64 - L.length) (u32 0)).toArray 89, K.blk b2 (Array.replicate 64 (u32 0)) 89]) id 48 ⟨(List.range 16).map (wordAt blk), rfl, by simp, rfl, rfl, rfl, rfl, st⟩ ?_
    rintro q r w2 ⟨L, hqj, hL16, hLe, h2, h3, h5, st⟩
    refine wc_o 2 h2 (wc_o 3 h3 (wc_o 5 h5 ?_))
    refine wc_seq ?_
    refine wc_seq ?_
    refine wc_region ?_
    refine wl_val (v_move' (by conv => (lhs; whnf))) rfl ?_
    refine wl_val (v_lss rfl rfl) rfl ?_
    refine wl_nil ?_
    refine then_go ?_
    refine wc_if rfl (fun h23 => ?_) (fun h23 => ?_)
    · refine wc_skip ?_
      refine then_go ?_
      refine wc_seq ?_
      refine wc_block ?_
      refine wc_seq ?_
      have hLlt : L.length < 64 := by omega
      refine wc_draw TF.mixed ?_
      have st := st.pure (touch_drew _)
      refine fl_val 0 rfl (fun _ => (v_move' (by conv => (lhs; whnf)))) rfl (by kernel_rfl) ?_
      refine fl_val 1 rfl (fun _ => (v_sub' (c := ((L.length - 15 : Nat) : Int)) rfl rfl (by omega) (by omega) (by omega))) rfl (by kernel_rfl) ?_
      refine fl_val 2 rfl (fun _ => (v_iaa (L.length - 15) Try.underlying89 TF.t80 rfl rfl (by first | rfl | omega) (by first | omega | (dsimp only at *; omega)))) rfl (by kernel_rfl) ?_
      refine fl_ld 3 rfl (v_load rfl (st.reads (v := u32 (L.getD (L.length - 15) 0)) 0 rfl TF.t80 (getV_ws (j := L.length - 15) (by omega) (by omega)))) (by kernel_rfl) ?_
      refine fl_val 4 rfl (fun _ => (v_move' (by conv => (lhs; whnf)))) rfl (by kernel_rfl) ?_
      refine fl_val 5 rfl (fun _ => (v_sub' (c := ((L.length - 2 : Nat) : Int)) rfl rfl (by omega) (by omega) (by omega))) rfl (by kernel_rfl) ?_
      refine fl_val 6 rfl (fun _ => (v_iaa (L.length - 2) Try.underlying89 TF.t80 rfl rfl (by first | rfl | omega) (by first | omega | (dsimp only at *; omega)))) rfl (by kernel_rfl) ?_
      refine fl_ld 7 rfl (v_load rfl (st.reads (v := u32 (L.getD (L.length - 2) 0)) 0 rfl TF.t80 (getV_ws (j := L.length - 2) (by omega) (by omega)))) (by kernel_rfl) ?_
      refine fl_eff1 8 [6, 5, 4] [7] (by kernel_rfl) ⟨obl_ld rfl rfl rfl (v_load rfl (st.reads (v := u32 (L.getD (L.length - 2) 0)) 0 rfl TF.t80 (getV_ws (j := L.length - 2) (by omega) (by omega)))), obl_ld rfl rfl rfl (v_load rfl (st.reads (v := u32 (L.getD (L.length - 15) 0)) 0 rfl TF.t80 (getV_ws (j := L.length - 15) (by omega) (by omega)))), trivial⟩ rfl ?_
      refine wl_val (v_assign' (by conv => (lhs; whnf))) rfl ?_
      refine wl_nil ⟨rfl, ?_⟩
      refine fl_eff1 9 [] [] (by kernel_rfl) ⟨obl_ld rfl rfl rfl (v_load rfl (st.reads (v := u32 (L.getD (L.length - 2) 0)) 0 rfl TF.t80 (getV_ws (j := L.length - 2) (by omega) (by omega)))), trivial⟩ rfl ?_
      refine wl_val (v_assign' (by conv => (lhs; whnf))) rfl ?_
      refine wl_nil ⟨rfl, ?_⟩
      refine fl_nil (by kernel_rfl) trivial ?_
      refine then_go ?_
      refine wc_seq ?_
      refine wc_region ?_
      refine wl_val (v_move' (by conv => (lhs; whnf))) rfl ?_
      refine wl_call rfl (c_rotl 7 (by decide) (by decide) (by decide)) rfl ?_
      rintro v35 w ⟨rfl, rfl⟩
      refine wl_val (v_move' (by conv => (lhs; whnf))) rfl ?_
      refine wl_call rfl (c_rotl 18 (by decide) (by decide) (by decide)) rfl ?_
      rintro v37 w ⟨rfl, rfl⟩
      refine wl_val (v_xor32 rfl rfl) rfl ?_
      refine wl_val (v_move' (by conv => (lhs; whnf))) rfl ?_
      refine wl_val (v_shr32 3 rfl rfl (by first | omega | decide | (dsimp only at *; omega))) rfl ?_
      refine wl_val (v_xor32 rfl rfl) rfl ?_
      refine wl_val (v_assign' (by conv => (lhs; whnf))) rfl ?_
      refine wl_nil ?_
      refine then_go ?_
      refine wc_seq ?_
      refine wc_region ?_
      refine wl_val (v_move' (by conv => (lhs; whnf))) rfl ?_
      refine wl_call rfl (c_rotl 17 (by decide) (by decide) (by decide)) rfl ?_
      rintro v43 w ⟨rfl, rfl⟩
      refine wl_val (v_move' (by conv => (lhs; whnf))) rfl ?_
      refine wl_call rfl (c_rotl 19 (by decide) (by decide) (by decide)) rfl ?_
      rintro v45 w ⟨rfl, rfl⟩
      refine wl_val (v_xor32 rfl rfl) rfl ?_
      refine wl_val (v_move' (by conv => (lhs; whnf))) rfl ?_
      refine wl_val (v_shr32 10 rfl rfl (by first | omega | decide | (dsimp only at *; omega))) rfl ?_
      refine wl_val (v_xor32 rfl rfl) rfl ?_
      refine wl_val (v_assign' (by conv => (lhs; whnf))) rfl ?_
      refine wl_nil ?_
      refine then_go ?_
      refine wc_draw TF.mixed ?_
      have st := st.pure (touch_drew _)
      refine fl_val 0 rfl (fun _ => (v_move' (by conv => (lhs; whnf)))) rfl (by kernel_rfl) ?_
      refine fl_val 1 rfl (fun _ => (v_move' (by conv => (lhs; whnf)))) rfl (by kernel_rfl) ?_
      refine fl_val 2 rfl (fun _ => (v_sub' (c := ((L.length - 16 : Nat) : Int)) rfl rfl (by omega) (by omega) (by omega))) rfl (by kernel_rfl) ?_
      refine fl_val 3 rfl (fun _ => (v_iaa (L.length - 16) Try.underlying89 TF.t80 rfl rfl (by first | rfl | omega) (by first | omega | (dsimp only at *; omega)))) rfl (by kernel_rfl) ?_
      refine fl_ld 4 rfl (v_load rfl (st.reads (v := u32 (L.getD (L.length - 16) 0)) 0 rfl TF.t80 (getV_ws (j := L.length - 16) (by omega) (by omega)))) (by kernel_rfl) ?_
      refine fl_val 5 rfl (fun _ => (v_move' (by conv => (lhs; whnf)))) rfl (by kernel_rfl) ?_
      refine fl_val 6 rfl (fun _ => (v_add32 rfl rfl)) rfl (by kernel_rfl) ?_
      refine fl_val 7 rfl (fun _ => (v_move' (by conv => (lhs; whnf)))) rfl (by kernel_rfl) ?_
      refine fl_val 8 rfl (fun _ => (v_sub' (c := ((L.length - 7 : Nat) : Int)) rfl rfl (by omega) (by omega) (by omega))) rfl (by kernel_rfl) ?_
      refine fl_val 9 rfl (fun _ => (v_iaa (L.length - 7) Try.underlying89 TF.t80 rfl rfl (by first | rfl | omega) (by first | omega | (dsimp only at *; omega)))) rfl (by kernel_rfl) ?_
      refine fl_ld 10 rfl (v_load rfl (st.reads (v := u32 (L.getD (L.length - 7) 0)) 0 rfl TF.t80 (getV_ws (j := L.length - 7) (by omega) (by omega)))) (by kernel_rfl) ?_
      refine fl_val 11 rfl (fun _ => (v_add32 rfl rfl)) rfl (by kernel_rfl) ?_
      refine fl_val 12 rfl (fun _ => (v_move' (by conv => (lhs; whnf)))) rfl (by kernel_rfl) ?_
      refine fl_val 13 rfl (fun _ => (v_add32 rfl rfl)) rfl (by kernel_rfl) ?_
      refine fl_val 14 rfl (fun _ => (v_iaa (L.length) Try.underlying89 TF.t80 rfl rfl (by first | rfl | omega) (by first | omega | (dsimp only at *; omega)))) rfl (by kernel_rfl) ?_
      refine fl_eff1 15 [] [] (by kernel_rfl) ⟨obl_ld rfl rfl rfl (v_load rfl (st.reads (v := u32 (L.getD (L.length - 7) 0)) 0 rfl TF.t80 (getV_ws (j := L.length - 7) (by omega) (by omega)))), obl_ld rfl rfl rfl (v_load rfl (st.reads (v := u32 (L.getD (L.length - 16) 0)) 0 rfl TF.t80 (getV_ws (j := L.length - 16) (by omega) (by omega)))), trivial⟩ rfl ?_
      refine wl_store1 (v := u32 (ext1 L)) 0 st rfl TF.t80 rfl rfl rfl (by simp [ws]; omega) ?_
      intro w st
      refine wl_nil ⟨rfl, ?_⟩
      refine fl_nil (by kernel_rfl) trivial ?_
      refine block_go (then_go ?_)
      refine wc_region ?_
      refine wl_val (v_move' (by conv => (lhs; whnf))) rfl ?_
      refine wl_val (v_add' rfl rfl rfl (by first | omega | (dsimp only at *; omega)) (by first | omega | (dsimp only at *; omega))) rfl ?_
      refine wl_val (v_assign' (by conv => (lhs; whnf))) rfl ?_
      refine wl_nil ?_
      refine then_go ?_
      refine ⟨q - 1, by simp; omega, L ++ [ext1 L], by simp; omega, by simp; omega, ?_, rfl, rfl, by simp; rfl, ?_⟩
      · rw [← hLe, show 64 - L.length = (64 - (L ++ [ext1 L]).length) + 1 by simp; omega]
        rfl
      have e : (ws L ++ List.replicate (64 - L.length) (u32 0)).toArray.setIfInBounds (0 + L.length * 1) (u32 (ext1 L)) = (ws (L ++ [ext1 L]) ++ List.replicate (64 - (L ++ [ext1 L]).length) (u32 0)).toArray := by
        rw [show 64 - L.length = (64 - (L ++ [ext1 L]).length) + 1 by simp; omega, List.replicate_succ, set_app (by simp [ws])]
        simp [ws]
      rw [← e]
      exact st
    · refine wc_exit (then_exit (then_exit (block_hit ?_)))
      refine then_go ?_
      refine wc_seq ?_
      refine wc_region ?_
      refine wl_val (v_load rfl (st.reads 0 rfl TF.t89 (getV_all (by simp [ws]; omega)))) rfl ?_
      have hL64 : L.length = 64 := by omega
      rw [hL64] at hLe
      have hLs : L = sched blk := hLe
      have e : (ws L ++ List.replicate (64 - L.length) (u32 0)).toArray = (ws (sched blk)).toArray := by rw [hL64, hLs]; simp
      rw [e] at st ⊢
      refine wl_storeW (cs := (ws (sched blk)).toArray) 1 st rfl TF.t89 rfl rfl (by simp [ws, length_sched]) (by simp) (by simpa using one_ws _) ?_
      intro w st
      refine wl_nil ?_
      refine then_go ?_
      refine wc_ret ?_
      exact ret1c rfl (st.reads 1 rfl TF.t89 (getV_all (by simp [ws, length_sched]))) ⟨(st.keepOnly (l := []) (List.nil_sublist _)).touch, rfl⟩
end
end Go.Proofs.Ytkbmhhbclbgdpaa
