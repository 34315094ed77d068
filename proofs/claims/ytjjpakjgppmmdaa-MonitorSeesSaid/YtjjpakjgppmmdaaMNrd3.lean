/-
  Several texts as one: Ld V Le Lf Lg Lh Li Qa Qb Qc Qd Qe Qf Qg Qh Qi Qj Qk Ca Cb Cc.
-/
import Derived.ProofKit
import Derived.Deep.Slices
import Derived.Laws.StructEq
import Derived.Lib.ConvBytes
import Derived.Laws.AppendOwn
import Derived.Test.YtjjpakjgppmmdaaMNrd2

namespace Go.Proofs.Ytjjpakjgppmmdaa
open Go Go.RowKit K SH PT
structure Hd where
 epoch : UInt64
 root : By
 key : By
deriving DecidableEq
def Hd.ok (h : Hd) : Prop := h.root.length = 32 ∧ h.key.length = 32
def hdC (h : Hd) : List Value := u64 h.epoch :: (bs h.root ++ bs h.key)
def hdV (h : Hd) : Value := .agg (hdC h).toArray
def hd0 : Hd := ⟨0, z32, z32⟩
theorem hd0_ok : hd0.ok := ⟨rfl, rfl⟩
structure Sg where
 root : Rt
 sig : By
def sgC (t : Rt) (sv : Value) : List Value := rtC t ++ [sv]
def SgM (m : Mem) (v : Value) (s : Sg) : Prop := ∃ sv, v = .agg (sgC s.root sv).toArray ∧ SlM m sv 1 s.sig.length (bs s.sig) ∧ s.root.ok
theorem SgM.mono {m m' : Mem} {v : Value} {s : Sg} (h : SgM m v s) (hm : ∀ k o, m k = some o → m' k = some o) : SgM m' v s := by
 obtain ⟨sv, h1, h2, h3⟩ := h
 exact ⟨sv, h1, h2.mono hm, h3⟩
theorem getV_lst {a b c : List Value} {v : Value} {o : Nat} {l : List Value} (hl : l = a ++ v :: c) (ha : a.length = o) : getV false 1 l.toArray o = some v := by
 subst hl; subst ha
 simp [getV]
section
variable {h : Hd} {t : Rt} {sv : Value}
theorem length_hdC (hh : h.ok) : (hdC h).length = 65 := by simp [hdC, length_bs, hh.1, hh.2]
theorem one_hdC : ∀ u ∈ hdC h, u.oneCell' = true := by
 intro u hu
 simp only [hdC, List.mem_cons, List.mem_append] at hu
 rcases hu with rfl | h | h
 ·rfl
 ·exact one_bs _ u h
 ·exact one_bs _ u h
theorem hd_e : getV false 1 (hdC h).toArray 0 = some (u64 h.epoch) := rfl
theorem hd_r (hh : h.ok) : getV true 32 (hdC h).toArray 1 = some (arr h.root) := getV_seg (a := [u64 h.epoch]) (b := bs h.root) (c := bs h.key) (by simp [hdC]) rfl (by rw [length_bs, hh.1])
theorem hd_k (hh : h.ok) : getV true 32 (hdC h).toArray 33 = some (arr h.key) := getV_seg (a := u64 h.epoch :: bs h.root) (b := bs h.key) (c := []) (by simp [hdC]) (by simp [length_bs, hh.1]) (by rw [length_bs, hh.2])
theorem length_sgC (ht : t.ok) : (sgC t sv).length = 98 := by simp [sgC, length_rtC ht]
theorem sg_rt (ht : t.ok) : getV true 97 (sgC t sv).toArray 0 = some (rtV t) := getV_seg (a := []) (b := rtC t) (c := [sv]) (by simp [sgC]) rfl (length_rtC ht)
theorem sg_e : getV false 1 (sgC t sv).toArray 0 = some (u64 t.epoch) := rfl
theorem sg_p (ht : t.ok) : getV true 32 (sgC t sv).toArray 1 = some (arr t.prev) := getV_seg (a := [u64 t.epoch]) (b := bs t.prev) (c := bs t.tree ++ bs t.next ++ [sv]) (by simp [sgC, rtC]) rfl (by rw [length_bs, ht.1])
theorem sg_n (ht : t.ok) : getV true 32 (sgC t sv).toArray 65 = some (arr t.next) := getV_seg (a := u64 t.epoch :: (bs t.prev ++ bs t.tree)) (b := bs t.next) (c := [sv]) (by simp [sgC, rtC]) (by simp [length_bs, ht.1, ht.2.1]) (by rw [length_bs, ht.2.2])
theorem sg_s (ht : t.ok) : getV false 1 (sgC t sv).toArray 97 = some sv := getV_lst (a := rtC t) (b := []) (c := []) (by simp [sgC]) (length_rtC ht)
end
def followE (h : Hd) (s : Sg) : Int := if (64 : Int) ≤ h.epoch.toNat then 10 else if s.root.epoch ≠ h.epoch + 1 then 10 else if s.root.prev ≠ h.root then 15 else if lamOk h.key (rootB s.root) s.sig then 0 else 15
def followH (h : Hd) (s : Sg) : Hd := if followE h s = 0 then ⟨s.root.epoch, sum (rootB s.root), s.root.next⟩ else hd0
theorem followH_ok {h : Hd} {s : Sg} (hs : s.root.ok) : (followH h s).ok := by
 unfold followH
 split
 ·exact ⟨length_sum _, hs.2.2⟩
 ·exact hd0_ok
theorem fill_hd {e : UInt64} {r k : By} (hr : r.length = 32) (hk : k.length = 32) : FillR (#[(0, 1), (1, 32), (33, 32)][·]?) (Value.agg ([Value.int .u64 0] ++ List.replicate 32 (Value.int .u8 0) ++ List.replicate 32 (Value.int .u8 0)).toArray).cells [(0, u64 e), (1, arr r), (2, arr k)] (hdC ⟨e, r, k⟩).toArray := by
 refine fill_one [] [u64 0] (bs z32 ++ bs z32) rfl rfl rfl ?_
 refine fill_one [u64 e] (bs z32) (bs z32) rfl rfl (by rw [size_arr, hr]; rfl) ?_
 refine fill_one (u64 e :: bs r) (bs z32) [] (by simp [arr, Value.cells]) (by simp [length_bs, hr, z32]) (by rw [size_arr, hk]; rfl) ?_
 simp [FillR, hdC, arr, Value.cells]
theorem u64_ne {a b : UInt64} : ((a.toNat : Int) = b.toNat) ↔ a = b := by
 constructor
 ·intro h; exact UInt64.toNat_inj.mp (by omega)
 ·intro h; rw [h]
section
variable {m : Mem} {wI : World}
theorem c_follow {h : Hd} {sgv : Value} {s : Sg} (him : Im m wI) (hh : h.ok) (hs : SgM m sgv s) :
  Ret Try.prog 45 #[hdV h, sgv] wI fun v' w' => Out m wI w' fun _ => v' = .tuple #[hdV (followH h s), .int .i64 (followE h s)] := by
 have st := St.start him
 obtain ⟨sv, rfl, hsv, ht⟩ := hs
 refine ret_of Try.call45 Try.func45 rfl Try.ntmps45 Try.results45 rfl ?_
 refine wc_seq ?_
 refine wc_region ?_
 refine wl_box (v := hdV h) rfl st rfl ?_
 intro b2 w st
 refine wl_box (v := .agg (sgC s.root sv).toArray) rfl st rfl ?_
 intro b3 w st
 refine wl_alloc TF.z26 st rfl ?_
 intro b4 w st
 refine wl_val (v_assign' (by conv => (lhs; whnf))) rfl ?_
 refine wl_nil ?_
 refine then_go ?_
 refine wc_seq ?_
 refine wc_region ?_
 refine wl_val (v_fa TF.f71_0 rfl) rfl ?_
 refine wl_val (v_load rfl (st.reads (v := rtV s.root) 1 rfl TF.t55 (sg_rt ht))) rfl ?_
 refine wl_call rfl (c_rootb st.im ht) rfl ?_
 rintro v9 w ⟨t9, m1, hg1, hi1, hb⟩
 have st := st.grown hg1 t9 hi1
 have hsv := hsv.mono hg1.le
 refine wl_val (v_assign' (by conv => (lhs; whnf))) rfl ?_
 refine wl_nil ?_
 refine then_go ?_
 refine wc_seq ?_
 refine wc_block ?_
 refine wc_seq ?_
 refine wc_region ?_
 refine wl_val (v_fa TF.f26_0 rfl) rfl ?_
 refine wl_val (v_load rfl (st.reads (v := u64 h.epoch) 2 rfl TF.t24 hd_e)) rfl ?_
 refine wl_val (v_geq rfl rfl) rfl ?_
 refine wl_val (v_move' (by conv => (lhs; whnf))) rfl ?_
 by_cases hg3 : (64 : Int) ≤ (h.epoch.toNat : Int)
 ·rw [show decide ((64 : Int) ≤ (h.epoch.toNat : Int)) = true from decide_eq_true hg3]
  refine wl_off rfl rfl rfl rfl ?_
  refine wl_off rfl rfl rfl rfl ?_
  refine wl_off rfl rfl rfl rfl ?_
  refine wl_off rfl rfl rfl rfl ?_
  refine wl_off rfl rfl rfl rfl ?_
  refine wl_off rfl rfl rfl rfl ?_
  refine wl_off rfl rfl rfl rfl ?_
  refine wl_val (v_pick rfl) rfl ?_
  refine wl_val (v_assign' (by conv => (lhs; whnf))) rfl ?_
  refine wl_nil ?_
  refine then_go ?_
  refine wc_true rfl ?_
  refine wc_seq ?_
  refine wc_region ?_
  refine wl_val (v_build (c' := (hdC hd0).toArray) [] TF.z26 TF.p26 rfl rfl) rfl ?_
  refine wl_storeW (cs := (hdC hd0).toArray) 0 st rfl TF.t26 rfl rfl rfl rfl (fun u hu => one_hdC u (by simpa using hu)) ?_
  intro w st
  refine wl_val (v_assign' (by conv => (lhs; whnf))) rfl ?_
  refine wl_nil ?_
  refine then_go ?_
  refine wc_ret (block_ret (then_ret ?_))
  have e : followE h s = 10 := by rw [followE, if_pos hg3]
  exact ret2c rfl (st.reads 0 rfl TF.t26 (getV_all rfl)) rfl ((st.keepOnly (l := []) (List.nil_sublist _)).out (by rw [followH, e, if_neg (show ¬ ((10 : Int) = 0) by decide)]; rfl))
 ·rw [show decide ((64 : Int) ≤ (h.epoch.toNat : Int)) = false from decide_eq_false hg3]
  refine wl_on rfl rfl ?_
  refine wl_val (v_fa TF.f71_0 rfl) rfl ?_
  refine wl_on rfl rfl ?_
  refine wl_val (v_fa TF.f55_0 rfl) rfl ?_
  refine wl_on rfl rfl ?_
  refine wl_val (v_load rfl (st.reads (v := u64 s.root.epoch) 1 rfl TF.t24 sg_e)) rfl ?_
  refine wl_on rfl rfl ?_
  refine wl_val (v_fa TF.f26_0 rfl) rfl ?_
  refine wl_on rfl rfl ?_
  refine wl_val (v_load rfl (st.reads (v := u64 h.epoch) 2 rfl TF.t24 hd_e)) rfl ?_
  refine wl_on rfl rfl ?_
  refine wl_val (v_add64 (q := 1) rfl rfl) rfl ?_
  refine wl_on rfl rfl ?_
  refine wl_val (v_neq rfl rfl) rfl ?_
  refine wl_val (v_pick rfl) rfl ?_
  refine wl_val (v_assign' (by conv => (lhs; whnf))) rfl ?_
  refine wl_nil ?_
  refine then_go ?_
  refine wc_if rfl (fun h10 => ?_) (fun h10 => ?_)
  ·refine wc_seq ?_
   refine wc_region ?_
   refine wl_val (v_build (c' := (hdC hd0).toArray) [] TF.z26 TF.p26 rfl rfl) rfl ?_
   refine wl_storeW (cs := (hdC hd0).toArray) 0 st rfl TF.t26 rfl rfl rfl rfl (fun u hu => one_hdC u (by simpa using hu)) ?_
   intro w st
   refine wl_val (v_assign' (by conv => (lhs; whnf))) rfl ?_
   refine wl_nil ?_
   refine then_go ?_
   refine wc_ret (block_ret (then_ret ?_))
   have e : followE h s = 10 := by rw [followE, if_neg hg3, if_pos (fun hc => h10 (u64_ne.2 hc))]
   exact ret2c rfl (st.reads 0 rfl TF.t26 (getV_all rfl)) rfl ((st.keepOnly (l := []) (List.nil_sublist _)).out (by rw [followH, e, if_neg (show ¬ ((10 : Int) = 0) by decide)]; rfl))
  ·refine wc_seq ?_
   refine wc_region ?_
   refine wl_val (v_fa TF.f71_0 rfl) rfl ?_
   refine wl_val (v_fa TF.f55_1 rfl) rfl ?_
   refine wl_val (v_load rfl (st.reads (v := arr s.root.prev) 1 rfl TF.t23 (sg_p ht))) rfl ?_
   refine wl_val (v_fa TF.f26_1 rfl) rfl ?_
   refine wl_val (v_load rfl (st.reads (v := arr h.root) 2 rfl TF.t23 (hd_r hh))) rfl ?_
   refine wl_val (v_neD rfl rfl ht.1 hh.1) rfl ?_
   refine wl_val (v_move' (by conv => (lhs; whnf))) rfl ?_
   by_cases hg6 : ¬ s.root.prev = h.root
   ·rw [show decide (¬ s.root.prev = h.root) = true from decide_eq_true hg6]
    refine wl_off rfl rfl rfl rfl ?_
    refine wl_off rfl rfl rfl rfl ?_
    refine wl_off rfl rfl rfl rfl ?_
    refine wl_off rfl rfl rfl rfl ?_
    refine wl_off rfl rfl rfl rfl ?_
    refine wl_off rfl rfl rfl rfl ?_
    refine wl_off rfl rfl rfl rfl ?_
    refine wl_val (v_pick rfl) rfl ?_
    refine wl_val (v_assign' (by conv => (lhs; whnf))) rfl ?_
    refine wl_nil ?_
    refine then_go ?_
    refine wc_true rfl ?_
    refine wc_seq ?_
    refine wc_region ?_
    refine wl_val (v_build (c' := (hdC hd0).toArray) [] TF.z26 TF.p26 rfl rfl) rfl ?_
    refine wl_storeW (cs := (hdC hd0).toArray) 0 st rfl TF.t26 rfl rfl rfl rfl (fun u hu => one_hdC u (by simpa using hu)) ?_
    intro w st
    refine wl_val (v_assign' (by conv => (lhs; whnf))) rfl ?_
    refine wl_nil ?_
    refine then_go ?_
    refine wc_ret (block_ret (then_ret ?_))
    have e : followE h s = 15 := by rw [followE, if_neg hg3, if_neg (fun hc => hc (u64_ne.1 (Decidable.not_not.1 h10))), if_pos hg6]
    exact ret2c rfl (st.reads 0 rfl TF.t26 (getV_all rfl)) rfl ((st.keepOnly (l := []) (List.nil_sublist _)).out (by rw [followH, e, if_neg (show ¬ ((15 : Int) = 0) by decide)]; rfl))
   ·rw [show decide (¬ s.root.prev = h.root) = false from decide_eq_false hg6]
    refine wl_on rfl rfl ?_
    refine wl_val (v_fa TF.f26_2 rfl) rfl ?_
    refine wl_on rfl rfl ?_
    refine wl_val (v_load rfl (st.reads (v := arr h.key) 2 rfl TF.t23 (hd_k hh))) rfl ?_
    refine wl_on rfl rfl ?_
    refine wl_val (v_move' (by conv => (lhs; whnf))) rfl ?_
    refine wl_on rfl rfl ?_
    refine wl_val (v_fa TF.f71_1 rfl) rfl ?_
    refine wl_on rfl rfl ?_
    refine wl_val (v_load rfl (st.reads (v := sv) 1 rfl TF.t41 (sg_s ht))) rfl ?_
    refine wl_on rfl rfl ?_
    refine wl_call rfl (c_lcheck st.im hh.2 hb (by rw [rootB_len ht]; decide) hsv) rfl ?_
    rintro v37 w ⟨t37, m2, hg2, hi2, rfl⟩
    have st := st.grown hg2 t37 hi2
    have hb := hb.mono hg2.le
    refine wl_on rfl rfl ?_
    refine wl_val (v_neq rfl rfl) rfl ?_
    refine wl_val (v_pick rfl) rfl ?_
    refine wl_val (v_assign' (by conv => (lhs; whnf))) rfl ?_
    refine wl_nil ?_
    refine then_go ?_
    refine wc_if rfl (fun h24 => ?_) (fun h24 => ?_)
    ·refine wc_seq ?_
     refine wc_region ?_
     refine wl_val (v_build (c' := (hdC hd0).toArray) [] TF.z26 TF.p26 rfl rfl) rfl ?_
     refine wl_storeW (cs := (hdC hd0).toArray) 0 st rfl TF.t26 rfl rfl rfl rfl (fun u hu => one_hdC u (by simpa using hu)) ?_
     intro w st
     refine wl_val (v_assign' (by conv => (lhs; whnf))) rfl ?_
     refine wl_nil ?_
     refine then_go ?_
     refine wc_ret (block_ret (then_ret ?_))
     have e : followE h s = 15 := by rw [followE, if_neg hg3, if_neg (fun hc => hc (u64_ne.1 (Decidable.not_not.1 h10))), if_neg hg6, if_neg (fun hc => h24 (by rw [if_pos hc]))]
     exact ret2c rfl (st.reads 0 rfl TF.t26 (getV_all rfl)) rfl ((st.keepOnly (l := []) (List.nil_sublist _)).out (by rw [followH, e, if_neg (show ¬ ((15 : Int) = 0) by decide)]; rfl))
    ·refine wc_skip ?_
     refine block_go (then_go ?_)
     refine wc_seq ?_
     refine wc_draw TF.mixed ?_
     have st := st.pure (touch_drew _)
     refine fl_val 0 rfl (fun _ => (v_fa TF.f71_0 rfl)) rfl (by kernel_rfl) ?_
     refine fl_val 1 rfl (fun _ => (v_fa TF.f55_0 rfl)) rfl (by kernel_rfl) ?_
     refine fl_ld 2 rfl (v_load rfl (st.reads (v := u64 s.root.epoch) 1 rfl TF.t24 sg_e)) (by kernel_rfl) ?_
     refine fl_val 3 rfl (fun _ => (v_move' (by conv => (lhs; whnf)))) rfl (by kernel_rfl) ?_
     refine fl_val 5 rfl (fun _ => (v_fa TF.f71_0 rfl)) rfl (by kernel_rfl) ?_
     refine fl_val 6 rfl (fun _ => (v_fa TF.f55_3 rfl)) rfl (by kernel_rfl) ?_
     refine fl_ld 7 rfl (v_load rfl (st.reads (v := arr s.root.next) 1 rfl TF.t23 (sg_n ht))) (by kernel_rfl) ?_
     refine fl_eff1 4 [6, 5, 1, 0] [7, 2] (by kernel_rfl) ⟨obl_ld rfl rfl rfl (v_load rfl (st.reads (v := arr s.root.next) 1 rfl TF.t23 (sg_n ht))), obl_ld rfl rfl rfl (v_load rfl (st.reads (v := u64 s.root.epoch) 1 rfl TF.t24 sg_e)), trivial⟩ rfl ?_
     refine wl_call rfl (c_tagsof st.im hb (by rw [rootB_len ht]; decide)) rfl ?_
     rintro v45 w ⟨t45, rfl⟩
     have st := st.pure t45
     refine wl_nil ⟨rfl, ?_⟩
     refine fl_val 8 rfl (fun _ => (v_build (c' := (hdC ⟨s.root.epoch, sum (rootB s.root), s.root.next⟩).toArray) [(0, u64 s.root.epoch), (1, arr (sum (rootB s.root))), (2, arr s.root.next)] TF.z26 TF.p26 rfl (fill_hd (length_sum _) ht.2.2))) rfl (by kernel_rfl) ?_
     refine fl_eff1 9 [] [] (by kernel_rfl) ⟨obl_ld rfl rfl rfl (v_load rfl (st.reads (v := arr s.root.next) 1 rfl TF.t23 (sg_n ht))), obl_ld rfl rfl rfl (v_load rfl (st.reads (v := u64 s.root.epoch) 1 rfl TF.t24 sg_e)), trivial⟩ rfl ?_
     refine wl_storeW (cs := (hdC ⟨s.root.epoch, sum (rootB s.root), s.root.next⟩).toArray) 0 st rfl TF.t26 rfl rfl (by rw [List.size_toArray, length_hdC ⟨length_sum _, ht.2.2⟩]) rfl (fun u hu => one_hdC u (by simpa using hu)) ?_
     intro w st
     refine wl_nil ⟨rfl, ?_⟩
     refine fl_eff1 10 [] [] (by kernel_rfl) trivial rfl ?_
     refine wl_val (v_assign' (by conv => (lhs; whnf))) rfl ?_
     refine wl_nil ⟨rfl, ?_⟩
     refine fl_nil (by kernel_rfl) trivial ?_
     refine then_go ?_
     refine wc_ret ?_
     have hl : lamOk h.key (rootB s.root) s.sig := by
      refine Decidable.byContradiction fun hc => h24 ?_
      rw [if_neg hc]; decide
     have e : followE h s = 0 := by rw [followE, if_neg hg3, if_neg (fun hc => hc (u64_ne.1 (Decidable.not_not.1 h10))), if_neg hg6, if_pos hl]
     exact ret2c rfl (st.reads 0 rfl TF.t26 (getV_all (by rw [List.size_toArray, length_hdC ⟨length_sum _, ht.2.2⟩]))) rfl ((st.keepOnly (l := []) (List.nil_sublist _)).out (by rw [followH, e, if_pos (show (0 : Int) = 0 from rfl)]; rfl))
end
end Go.Proofs.Ytjjpakjgppmmdaa

namespace Go.Proofs.Ytjjpakjgppmmdaa
open Go Go.RowKit Go.ChangeShapes Go.WideShapes Go.Deep
namespace K
section
variable {H : Type} {enc : TypeId × Value → H} {P : Program} {w : World} {sp : Nat → Bool} {held : Bool} {t e : TypeId} {fuel : Nat} {x : DataW H × List MemPlace} {v : Value}
theorem cell_some {a : Addr} {u : Value} (h : w.cell? a = some u) : a.spot = none ∧ ∃ c t fr, w.heap[a.block]? = some (.cells c t fr) ∧ c[a.off]? = some u := by
 unfold World.cell? at h
 split at h
 ·rename_i c t fr hb
  split at h
  ·cases h
  ·rename_i hs
   exact ⟨by simpa using hs, c, t, fr, hb, h⟩
 ·cases h
theorem flat_at {size : Nat} : ∀ (k : Nat) (X : Nat → List Value), (∀ i, i < k → (X i).length = size) → ((List.range k).flatMap X).length = k * size ∧ ∀ i j u, i < k → (X i)[j]? = some u → ((List.range k).flatMap X)[i * size + j]? = some u
 | 0, X, _ => by simp
 | k + 1, X, h => by
  have ih := flat_at k X fun i hi => h i (by omega)
  rw [List.range_succ, List.flatMap_append]
  have e : [k].flatMap X = X k := by simp
  rw [e]
  refine ⟨by rw [List.length_append, ih.1, h k (by omega), Nat.add_mul, Nat.one_mul], fun i j u hi hj => ?_⟩
  rcases Nat.lt_or_ge i k with h1 | h1
  ·have h2 := ih.2 i j u h1 hj
   rw [List.getElem?_append_left]
   ·exact h2
   ·rcases Nat.lt_or_ge (i * size + j) ((List.range k).flatMap X).length with h3 | h3
    ·exact h3
    ·rw [List.getElem?_eq_none h3] at h2; cases h2
  ·have h2 : i = k := by omega
   subst h2
   rw [List.getElem?_append_right (by rw [ih.1]; omega), ih.1, Nat.add_sub_cancel_left]
   exact hj
theorem TyF.cells {T : TypeId} {agg : Bool} {size bytes : Nat} (tf : TyF P T agg size bytes) : P.cellsOf T = size := by
 obtain ⟨i, hi, hs, _⟩ := tf.info
 simp [Program.cellsOf, hi, hs]
theorem trod_SlM (ht : P.underlying t = some (.slice e)) (hs : 0 < P.cellsOf e) (h : DataW.trod enc P w 0 sp held fuel t [v] = some x) :
  ∃ (k : Nat) (X : Nat → List Value), SlM (heapM w) v (P.cellsOf e) k ((List.range k).flatMap X) ∧ (k : Int) ≤ 9223372036854775807 ∧ ∀ i, i < k → (X i).length = P.cellsOf e ∧ ∃ n y, DataW.trod enc P w 0 sp held n e (X i) = some y := by
 rcases open_slice ht h with ⟨h0, _⟩ | ⟨a, len, cap, m, n, D, Pl, hv, _, hl, hm, hmm, _, hx⟩
 ·rw [List.cons.injEq] at h0
  obtain ⟨rfl, _⟩ := h0
  exact ⟨0, fun _ => [], by simpa using SlM.nil, by decide, by simp⟩
 ·rw [List.cons.injEq] at hv
  obtain ⟨rfl, _⟩ := hv
  have hmlen : len ≤ m := by rw [hmm]; split <;> omega
  obtain ⟨X, hX⟩ := choose_lt (α := List Value) (p := fun i cs => w.cells? 0 (a.add (i * P.cellsOf e)) (P.cellsOf e) = some cs ∧ DataW.trod enc P w 0 sp held n e cs = some (D i, Pl i)) (fun i hi => hx i hi)
  have hlen : ∀ i, i < len → (X i).length = P.cellsOf e := fun i hi => (World.cells?_some (hX i (by omega)).1).2.1
  have hcell : ∀ i j u, i < len → (X i)[j]? = some u → w.cell? (a.add (i * P.cellsOf e + j)) = some u := fun i j u hi hj => by
   have hjs : j < P.cellsOf e := by
    rcases Nat.lt_or_ge j (X i).length with h' | h'
    ·rw [hlen i hi] at h'; exact h'
    ·rw [List.getElem?_eq_none h'] at hj; cases hj
   have := (World.cells?_some (hX i (by omega)).1).2.2 j hjs
   rw [add_add] at this
   rw [this, hj]
  refine ⟨len, X, ⟨(flat_at len X hlen).1, some a, cap, rfl, hl, by simp, fun j u hj => ?_⟩, by unfold maxLen at hm; omega, fun i hi => ⟨hlen i hi, n, _, (hX i (by omega)).2⟩⟩
  have hjl : j < len * P.cellsOf e := by
   rw [← (flat_at len X hlen).1]
   rcases Nat.lt_or_ge j ((List.range len).flatMap X).length with h' | h'
   ·exact h'
   ·rw [List.getElem?_eq_none h'] at hj; cases hj
  have h0len : 0 < len := by
   rcases Nat.eq_zero_or_pos len with h0 | h0
   ·subst h0; simp at hjl
   ·exact h0
  have hspot : a.spot = none := by
   have h1 : (X 0)[0]? = some ((X 0)[0]'(by rw [hlen 0 h0len]; exact hs)) := List.getElem?_eq_getElem _
   have := hcell 0 0 _ h0len h1
   rw [Nat.zero_mul, Nat.zero_add, show a.add 0 = a by simp [Addr.add]] at this
   exact (cell_some this).1
  have hdiv : j / P.cellsOf e < len := (Nat.div_lt_iff_lt_mul hs).2 hjl
  have hmod : j % P.cellsOf e < P.cellsOf e := Nat.mod_lt _ hs
  have hu : (X (j / P.cellsOf e))[j % P.cellsOf e]? = some ((X (j / P.cellsOf e))[j % P.cellsOf e]'(by rw [hlen _ hdiv]; exact hmod)) := List.getElem?_eq_getElem _
  have hidx : j / P.cellsOf e * P.cellsOf e + j % P.cellsOf e = j := Nat.div_add_mod' j _
  have h2 := (flat_at len X hlen).2 _ _ _ hdiv hu
  rw [hidx, hj] at h2
  rw [← h2] at hu
  have h3 := hcell _ _ _ hdiv hu
  rw [hidx] at h3
  obtain ⟨_, c, t', fr, hb, hc⟩ := cell_some h3
  refine ⟨a.block, a.off, c, t', fr, ?_, ?_, ?_⟩
  ·cases a; simp_all
  ·have e1 : (a.add j).block = a.block := by unfold Addr.add; split <;> rfl
   rw [e1] at hb
   exact hb
  ·have e1 : (a.add j).off = a.off + j := by unfold Addr.add; split <;> simp_all
   rw [e1] at hc
   exact hc
theorem flat_one {α : Type} (k : Nat) (X : Nat → List Value) (g : α → Value) (hX : ∀ i, i < k → ∃ y, X i = [g y]) : ∃ l : List α, l.length = k ∧ (List.range k).flatMap X = l.map g := by
 induction k with
 | zero => exact ⟨[], rfl, rfl⟩
 | succ k ih =>
  obtain ⟨l, h1, h2⟩ := ih fun i hi => hX i (by omega)
  obtain ⟨y, hy⟩ := hX k (by omega)
  refine ⟨l ++ [y], by simp [h1], ?_⟩
  rw [List.range_succ, List.flatMap_append, h2]
  simp [hy]
theorem trod_bytes (ht : P.underlying t = some (.slice e)) (he : P.underlying e = some (.int .u8)) (hc : P.cellsOf e = 1) (h : DataW.trod enc P w 0 sp held fuel t [v] = some x) :
  ∃ l : List UInt8, SlM (heapM w) v 1 l.length (bs l) ∧ (l.length : Int) ≤ 9223372036854775807 := by
 obtain ⟨k, X, hS, hk, hX⟩ := trod_SlM ht (by omega) h
 rw [hc] at hS
 obtain ⟨l, h1, h2⟩ := flat_one (α := UInt8) k X u8 fun i hi => by
  obtain ⟨_, n, y, hy⟩ := hX i hi
  obtain ⟨z, hz, _, hw⟩ := DataW.trod_int he hy
  simp only [Lit.wf, Bool.and_eq_true, decide_eq_true_eq] at hw
  have hw1 : 0 ≤ z := hw.1
  have hw2 : z ≤ 255 := hw.2
  refine ⟨UInt8.ofNat z.toNat, ?_⟩
  rw [hz]
  simp only [u8, List.cons.injEq, Value.int.injEq, true_and, and_true]
  rw [UInt8.toNat_ofNat']
  omega
 rw [h2] at hS
 subst h1
 exact ⟨l, hS, hk⟩
theorem post_true {f : Func} {s : ChangeSpec} {W W' : World} {args : Array Value} {ds gs : List (DataW H)} {before : List MemPlace} {b : TypeId} (hl : laidOutB P = true) (hpar : f.params.toList.all (fun t => P.readableRec t && decide (t < P.types.size)) = true) (hvars : s.vars = [])
  (hW : DataW.Whole enc P f.params.toList s.vars false W args.toList ds gs before) (t : Tch W W' [] []) (hfn : s.fn H ds = { results := [.lit (.bool true)], args := ds }) (hres : f.resultTypes = #[b]) (hb : P.underlying b = some .bool) :
  s.post enc P f false true false false W args (.bool true) W' := by
 have hlt := fun p hp => hW.lt p hp
 have hW0 := hW
 obtain ⟨p, q, hA, hV, rfl, hfz, _⟩ := hW
 have hq : q = [] ∧ gs = [] := by
  rw [hvars] at hV
  cases gs with
  | nil => exact ⟨hV, rfl⟩
  | cons _ _ => exact hV.elim
 obtain ⟨rfl, rfl⟩ := hq
 have stays : ∀ (ts : List TypeId) (vs : List Value) (ds : List (DataW H)) (p : List MemPlace), ts.all (fun t => P.readableRec t && decide (t < P.types.size)) = true → (∀ x ∈ p, x.block < W.heap.size) → DataW.TrodAll enc P W 0 (fun _ => true) true ts vs ds p → DataW.TrodAll enc P W' 0 (fun b => decide (b < W.heap.size)) true ts vs ds p := by
  intro ts
  induction ts with
  | nil => intro vs ds p _ _ h; cases vs <;> cases ds <;> first | exact h | exact h.elim
  | cons t0 ts ih =>
   intro vs ds p hall hp h
   cases vs with
   | nil => exact h.elim
   | cons v0 vs =>
    cases ds with
    | nil => exact h.elim
    | cons d0 ds =>
     obtain ⟨p1, q1, h1, h2, rfl⟩ := h
     simp only [List.all_cons, Bool.and_eq_true, decide_eq_true_eq] at hall
     exact ⟨p1, q1, Below.trod hl hall.1.1 hall.1.2 h1 t.below (fun x hx => hp x (List.mem_append_left _ hx)), ih vs ds q1 (by simpa using hall.2) (fun x hx => hp x (List.mem_append_right _ hx)) h2, rfl⟩
 refine ⟨ds, [], p ++ [], [], p, [], hW0, ?_, ?_, ?_, ?_, fun h => by cases h⟩
 all_goals try rw [List.append_nil ds]
 ·rw [hfn, hres]
  refine ⟨[], [], ⟨1, ?_⟩, rfl, rfl⟩
  simp [DataW.trod, Value.cells, hb, Value.resultList]
 ·rw [hfn]
  exact stays _ _ _ _ hpar (fun x hx => hlt x (by simpa using hx)) hA
 ·rw [hvars, hfn]
  rfl
 ·refine ⟨t.os, t.output, fun i hi => ?_⟩
  have := (World.keptBut_refl W (fun p_1 => p_1 ∈ p ++ [] ∧ (p_1 ∈ ([] : List MemPlace) ∨ p_1 ∈ p ∨ p_1 ∈ ([] : List MemPlace)))).2.2 i hi
  rw [t.block i hi (by simp)]
  exact this
end
end K
end Go.Proofs.Ytjjpakjgppmmdaa

namespace Go.Proofs.Ytjjpakjgppmmdaa
open Go Go.RowKit K SH PT
section
variable {P : Program} {w : World}
theorem part_of {T : TypeId} {agg : Bool} {size bytes off : Nat} {v : Value} {cs : Array Value} (tf : TyF P T agg size bytes) (hv : getV agg size cs off = some v) : (part T cs off).run P w = .ok v w := by
 unfold getV at hv
 cases agg with
 | true =>
  rw [if_pos rfl] at hv
  split at hv
  ·cases hv
   simp [part, tf.isagg, tf.sz]
  ·cases hv
 | false =>
  rw [if_neg (by simp), Array.getElem?_toList] at hv
  simp [part, tf.isagg, hv]
theorem eqF_cons {d : Nat} {xs ys : Array Value} {f : Field} {fs : List Field} {a b : Value} {r : Bool} (hn : f.name ≠ "_") (pa : (part f.type xs f.offset).run P w = .ok a w) (pb : (part f.type ys f.offset).run P w = .ok b w) (he : (Op.equalIn d f.type a b).run P w = .ok r w) {r' : Bool}
  (hr : (Op.eqFields d xs ys fs).run P w = .ok r' w) : (Op.eqFields d xs ys (f :: fs)).run P w = .ok (r && r') w := by
 simp only [Op.eqFields, hn, ne_eq, not_false_eq_true, if_true, Sem.run_bind, pa, pb, he, Result.andThen_ok]
 cases r
 ·simp
 ·simpa using hr
theorem eqF_nil {d : Nat} {xs ys : Array Value} : (Op.eqFields d xs ys []).run P w = .ok true w := by simp [Op.eqFields]
end
theorem eqIn_dig {w : World} {d : Nat} {a b : By} (ha : a.length = 32) (hb : b.length = 32) : (Op.equalIn (d + 2) 23 (arr a) (arr b)).run Try.prog w = .ok (decide (a = b)) w := by
 have tf := TF.t5
 obtain ⟨i, hi, hs, _⟩ := tf.info
 have h := run_equalIn_array (P := Try.prog) w (d + 1) (t := 23) (e := 5) (n := 32) (i := i) (bs a).toArray (bs b).toArray Try.underlying23 hi
 have hc : Try.prog.cellsOf 5 = 1 := tf.cells
 rw [hc] at h
 have h2 := run_eqItems_int (P := Try.prog) (w := w) tf Try.underlying5 (bs a).toArray (bs b).toArray (a.map fun x => (x.toNat : Int)) (b.map fun x => (x.toNat : Int)) (by rw [bs_ints]) (by rw [bs_ints]) (by simp [ha, hb]) d 32 0 (by simp [ha])
 rw [List.range_eq_range'] at h
 have e := h.trans h2
 rw [List.drop_zero, List.drop_zero] at e
 have e2 : decide ((a.map fun x => (x.toNat : Int)) = (b.map fun x => (x.toNat : Int))) = decide (a = b) := decide_eq_decide.2 ints_inj
 rw [e2] at e
 exact e
theorem getRt {t : Rt} (ht : t.ok) : getV true 32 (rtC t).toArray 1 = some (arr t.prev) ∧ getV true 32 (rtC t).toArray 33 = some (arr t.tree) ∧ getV true 32 (rtC t).toArray 65 = some (arr t.next) :=
  ⟨getV_seg (a := [u64 t.epoch]) (b := bs t.prev) (c := bs t.tree ++ bs t.next) (by simp [rtC]) rfl (by rw [length_bs, ht.1]),
   getV_seg (a := u64 t.epoch :: bs t.prev) (b := bs t.tree) (c := bs t.next) (by simp [rtC]) (by simp [length_bs, ht.1]) (by rw [length_bs, ht.2.1]),
   getV_seg (a := u64 t.epoch :: (bs t.prev ++ bs t.tree)) (b := bs t.next) (c := []) (by simp [rtC]) (by simp [length_bs, ht.1, ht.2.1]) (by rw [length_bs, ht.2.2])⟩
theorem run_eq_rt {w : World} {a b : Rt} (ha : a.ok) (hb : b.ok) : (Op.equal 55 (rtV a) (rtV b)).run Try.prog w = .ok (decide (a = b)) w := by
 unfold Op.equal
 rw [show Op.maxDepth = 9999 + 1 from rfl]
 have h := run_equalIn_struct (P := Try.prog) w 9999 55 (rtC a).toArray (rtC b).toArray (by unfold Program.fieldsOf; rw [Try.underlying55]) (by kernel_rfl)
 refine h.trans ?_
 simp only [Program.fieldsOf, Try.underlying55]
 obtain ⟨d, hd⟩ : ∃ d, 9999 = d + 2 := ⟨9997, rfl⟩
 rw [hd]
 have pa1 : (part 24 (rtC a).toArray 0).run Try.prog w = .ok (u64 a.epoch) w := part_of TF.t24 rfl
 have pb1 : (part 24 (rtC b).toArray 0).run Try.prog w = .ok (u64 b.epoch) w := part_of TF.t24 rfl
 have pa2 : (part 23 (rtC a).toArray 1).run Try.prog w = .ok (arr a.prev) w := part_of TF.t23 (getRt ha).1
 have pb2 : (part 23 (rtC b).toArray 1).run Try.prog w = .ok (arr b.prev) w := part_of TF.t23 (getRt hb).1
 have pa3 : (part 23 (rtC a).toArray 33).run Try.prog w = .ok (arr a.tree) w := part_of TF.t23 (getRt ha).2.1
 have pb3 : (part 23 (rtC b).toArray 33).run Try.prog w = .ok (arr b.tree) w := part_of TF.t23 (getRt hb).2.1
 have pa4 : (part 23 (rtC a).toArray 65).run Try.prog w = .ok (arr a.next) w := part_of TF.t23 (getRt ha).2.2
 have pb4 : (part 23 (rtC b).toArray 65).run Try.prog w = .ok (arr b.next) w := part_of TF.t23 (getRt hb).2.2
 have q1 : (Op.equalIn (d + 2) 24 (u64 a.epoch) (u64 b.epoch)).run Try.prog w = .ok ((a.epoch.toNat : Int) == (b.epoch.toNat : Int)) w := run_equalIn_int w (d + 1) 24 .u64 .u64 _ _ Try.underlying24
 refine Eq.trans (eqF_cons (a := u64 a.epoch) (b := u64 b.epoch) (r := (a.epoch.toNat : Int) == (b.epoch.toNat : Int)) (r' := decide (a.prev = b.prev) && (decide (a.tree = b.tree) && (decide (a.next = b.next) && true))) ?_ ?_ ?_ ?_ ?_) ?_
 ·decide
 ·exact pa1
 ·exact pb1
 ·exact q1
 ·refine eqF_cons (a := arr a.prev) (b := arr b.prev) ?_ ?_ ?_ ?_ ?_
  ·decide
  ·exact pa2
  ·exact pb2
  ·exact eqIn_dig (d := d) ha.1 hb.1
  ·refine eqF_cons (a := arr a.tree) (b := arr b.tree) ?_ ?_ ?_ ?_ ?_
   ·decide
   ·exact pa3
   ·exact pb3
   ·exact eqIn_dig (d := d) ha.2.1 hb.2.1
   ·refine eqF_cons (a := arr a.next) (b := arr b.next) ?_ ?_ ?_ ?_ eqF_nil
    ·decide
    ·exact pa4
    ·exact pb4
    ·exact eqIn_dig (d := d) ha.2.2 hb.2.2
 refine congrArg (fun z => Result.ok z w) ?_
 obtain ⟨e1, r1, k1, l1⟩ := a
 obtain ⟨e2, r2, k2, l2⟩ := b
 have h1 : ((e1.toNat : Int) == (e2.toNat : Int)) = decide (e1 = e2) := by
  rw [Bool.eq_iff_iff]
  simp only [beq_iff_eq, decide_eq_true_eq]
  exact u64_ne
 simp only [h1]
 rw [Bool.eq_iff_iff]
 simp
section
variable {r : Fr} {w : World} {ty U : TypeId} {x y : Operand}
theorem v_neRt {a b : Rt} (hx : ev r x = rtV a) (hy : ev r y = rtV b) (ha : a.ok) (hb : b.ok) : Val Try.prog (.binOp .neq 55 x y U) ty r w (.bool (decide (¬ a = b))) w := by
 intro _ _ _ _
 have hg := run_eqGuard_agg (P := Try.prog) w .neq 55 x y (rtC a).toArray (rtC b).toArray TF.e55
 have he := run_eq_rt (w := w) ha hb
 unfold rtV at hx hy he
 simp only [execOp, hx, hy, Sem.run_bind, hg, Result.andThen_ok, binOp, he, Sem.run_pure]
 simp
end
end Go.Proofs.Ytjjpakjgppmmdaa

namespace Go.Proofs.Ytjjpakjgppmmdaa
open Go Go.RowKit K SH PT
section lists
variable {α : Type} {c : α → List Value} {size : Nat}
structure LsM (m : Mem) (v : Value) (c : α → List Value) (size : Nat) (L : List α) : Prop where
 row : SlM m v size L.length (L.flatMap c)
 len : ∀ x ∈ L, (c x).length = size
theorem cellsAt_flat : ∀ {L : List α}, (∀ x ∈ L, (c x).length = size) → ∀ {i : Nat} (hi : i < L.length), cellsAt (L.flatMap c) size i = c L[i]
 | [], _, _, hi => by simp at hi
 | x :: L, h, 0, _ => by
  have h1 := h x (by simp)
  simp only [cellsAt, List.flatMap_cons, Nat.zero_mul, List.drop_zero, List.getElem_cons_zero]
  rw [List.take_left' h1]
 | x :: L, h, i + 1, hi => by
  have h1 := h x (by simp)
  have h2 := cellsAt_flat (L := L) (fun y hy => h y (by simp [hy])) (i := i) (by simp at hi; omega)
  rw [List.getElem_cons_succ, ← h2]
  simp only [cellsAt, List.flatMap_cons]
  rw [show (i + 1) * size = (c x).length + i * size by rw [h1, Nat.succ_mul]; omega, List.drop_append, List.drop_eq_nil_of_le (by omega), List.nil_append, Nat.add_sub_cancel_left]
theorem LsM.mono {m m' : Mem} {v : Value} {L : List α} (h : LsM m v c size L) (hm : ∀ k o, m k = some o → m' k = some o) : LsM m' v c size L := ⟨h.row.mono hm, h.len⟩
theorem LsM.nil {m : Mem} : LsM m (.slice none 0 0) c size [] := ⟨SlM.nil, by simp⟩
theorem LsM.sl {m : Mem} {v : Value} {L : List α} (h : LsM m v c size L) : ∃ a cap, v = .slice a L.length cap := by
 obtain ⟨_, a, cap, rfl, _⟩ := h.row
 exact ⟨a, cap, rfl⟩
theorem LsM.rd {P : Program} {m : Mem} {a : Option Addr} {k cap : Nat} {L : List α} (h : LsM m (.slice a k cap) c size L) {b o i : Nat} (ha : a = some ⟨b, o, none⟩) (hi : i < L.length) (hs : 0 < size) {T : TypeId} {agg : Bool} {sz bytes off : Nat} {v' : Value} (tf : TyF P T agg sz bytes) (hv : getV agg sz (c L[i]).toArray off = some v') {w : World} (him : Im m w) :
  Reads P w T ⟨b, o + i * size + off, none⟩ v' := by
 obtain ⟨b', o', cap', hv', _, hr⟩ := h.row.elem P (i := i) hi hs
 simp only [Value.slice.injEq] at hv'
 rw [ha] at hv'
 obtain ⟨he, _, _⟩ := hv'
 cases he
 exact hr him tf (by rw [cellsAt_flat h.len hi]; exact hv)
theorem LsM.ptr {m : Mem} {a : Option Addr} {k cap : Nat} {L : List α} (h : LsM m (.slice a k cap) c size L) (hi : 0 < L.length) (hs : 0 < size) : ∃ b o, a = some ⟨b, o, none⟩ := by
 obtain ⟨b, o, cap', hv, _, _⟩ := h.row.elem Try.prog (i := 0) hi hs
 simp only [Value.slice.injEq] at hv
 exact ⟨b, o, hv.1⟩
abbrev lsE (E : TypeId) (size : Nat) (c : α → List Value) (v : Value) (L : List α) : Ent := rowE v E size L.length (L.flatMap c)
variable {P : Program} {n : Nat} {ops : Array Oper} {Q : Po} {rest : List Oper} {r : Fr} {w : World} {d : Nat} {ty : TypeId} {pos : String} {after : Array Edge} {m0 m : Mem} {F : List Nat} {w0 : World} {Es : List Ent}
theorem wl_lsOne {T E : TypeId} {bytes : Nat} {z : Value} {x : Operand} (cv : List Value) (hT : P.underlying T = some (.slice E)) (tf : TyF P E true size bytes) (hz : TyZ P E z) (hs : 0 < size) (hs1 : size ≤ 16777216) (hl : cv.length = size) (hx : ev r x = .agg cv.toArray) (st : St m0 m F w0 w Es) (hd : Nat.blt d n = true)
  (k : ∀ b w', St m0 m F w0 w' (K.blk b cv.toArray E :: Es) → WL P n ops Q rest (upd d (.slice (some ⟨b, 0, none⟩) 1 1) r) w') :
  WL P n ops Q (⟨some d, .buildSlice T 1 #[(0, x)], ty, pos, after, none⟩ :: rest) r w := by
 refine wl_buildSlice (c' := cv.toArray) [(0, .agg cv.toArray)] hT tf hz (by omega) (by omega) (by simp [hx]) ⟨0, size, by simp, by simp [Value.cells, hl], by simp [size_madeCells], ?_⟩ st hd k
 exact setSeg_all (by simp [size_madeCells, Value.cells, hl])
theorem wl_lsApp (i : Nat) {T E : TypeId} {agg : Bool} {bytes b cap : Nat} {z v : Value} {s y : Operand} {L : List α} {e : α} (st : St m0 m F w0 w (K.blk b (c e).toArray E :: Es)) (hi : Es[i]? = some (lsE E size c v L)) (hT : P.underlying T = some (.slice E)) (tf : TyF P E agg size bytes) (hz : TyZ P E z) (hzs : z.cells.size = size) (hl : (c e).length = size) (hone : ∀ u ∈ c e, u.oneCell' = true)
  (hs : ev r s = v) (hy : ev r y = .slice (some ⟨b, 0, none⟩) 1 cap) (hb : (L.length + 1) * bytes ≤ 140737488355328) (h63 : L.length + 1 ≤ 9223372036854775807) (hd : Nat.blt d n = true)
  (k : ∀ v' w', St m0 m F w0 w' (Es.set i (lsE E size c v' (L ++ [e]))) → v'.oneCell' = true → WL P n ops Q rest (upd d v' r) w') :
  WL P n ops Q (⟨some d, .call ⟨.builtin .append, #[s, y], #[T, T]⟩, ty, pos, after, none⟩ :: rest) r w := by
 refine wl_append (news := c e) (i + 1) st hi hT hT (.inr ⟨_, rfl⟩) tf hz hzs hs hy (st.srcArr (off := 0) 0 rfl (by rw [hl]; omega) (fun j u hj => by simpa using hj) hone) h63 hb hd ?_
 intro v' w' _ st'
 have e1 : L.flatMap c ++ c e = (L ++ [e]).flatMap c := by simp
 have e2 : L.length + 1 = (L ++ [e]).length := by simp
 have st2 := st'.drop 0
 rw [e1, e2] at st2
 have st3 : St m0 m F w0 w' (Es.set i (lsE E size c v' (L ++ [e]))) := st2
 have hlt : i < Es.length := by
  rcases Nat.lt_or_ge i Es.length with h | h
  ·exact h
  ·rw [List.getElem?_eq_none h] at hi; cases hi
 have hrow : (lsE E size c v' (L ++ [e])).holds w' := st3.at (i := i) (by simp [hlt])
 exact k v' w' st3 (row_one hrow)
theorem K.St.keepLs (st : St m0 m [] w0 w Es) {i : Nat} {E : TypeId} {v : Value} {L : List α} (hi : Es[i]? = some (lsE E size c v L)) (hL : ∀ x ∈ L, (c x).length = size) :
  ∃ m', Grow m m' w0.heap.size ∧ LsM m' v c size L ∧ St m0 m' [] w0 w (Es.eraseIdx i) := by
 obtain ⟨m2, hg2, hm2, st2⟩ := st.freezeR hi (by simp)
 exact ⟨m2, hg2, ⟨row_SlM (m := m2) (st.at hi) hm2, hL⟩, st2⟩
theorem wl_buildSlice0 {T E : TypeId} {agg : Bool} {bytes : Nat} (hT : P.underlying T = some (.slice E)) (tf : TyF P E agg size bytes) (st : St m0 m F w0 w Es) (hd : Nat.blt d n = true)
  (k : ∀ v w', St m0 m F w0 w' (rowE v E size 0 [] :: Es) → WL P n ops Q rest (upd d v r) w') :
  WL P n ops Q (⟨some d, .buildSlice T 0 #[], ty, pos, after, none⟩ :: rest) r w := by
 have hst : St m0 m F w0 (w.alloc (.cells #[] E)) (rowE (.slice (some ⟨w.heap.size, 0, none⟩) 0 0) E size 0 [] :: Es) := by
  have st1 := st.new (E := K.blk w.heap.size #[] E) (touch_alloc w _) (heap_alloc_new w _)
  exact st1.rowShut 0 (b := w.heap.size) (k := 0) (cap := 0) (size := size) (xs := []) rfl (Nat.le_refl _) (by simp) (by omega) (by simp)
 refine wl_val (v := .slice (some ⟨w.heap.size, 0, none⟩) 0 0) (w' := w.alloc (.cells #[] E)) ?_ hd (k _ _ hst)
 intro _ _ _ _
 simp [execOp, Instr.buildSlice, run_underlying hT, tf.sz, newRow, Instr.fill]
 have e : (Array.map (fun _ => (default : Value)) (Array.range 0)) = #[] := by apply Array.ext'; simp
 rw [e]
theorem v_eq_nilS {T E U : TypeId} {x y : Operand} {a : Option Addr} {l k : Nat} (hT : P.underlying T = some (.slice E)) (hx : ev r x = .slice a l k) (hy : ev r y = .slice none 0 0) : Val P (.binOp .eql T x y U) ty r w (.bool a.isNone) w := by
 intro _ _ _ _
 have h : (Op.equal T (.slice a l k) (.slice none 0 0)).run P w = .ok a.isNone w := by
  unfold Op.equal
  rw [show Op.maxDepth = 9999 + 1 from rfl, Op.equalIn]
  simp only [Sem.run_bind, run_underlying hT, Result.andThen_ok]
  cases a <;> rfl
 simp [execOp, eqGuard, binOp, hx, hy, h]
end lists
structure Vw where
 pin : By
 head : Hd
 roots : List Rt
def vwC (pin : By) (h : Hd) (rv : Value) : List Value := bs pin ++ (hdC h ++ [rv])
abbrev RtsM (m : Mem) (v : Value) (L : List Rt) : Prop := LsM m v rtC 97 L
def VwM (m : Mem) (v : Value) (x : Vw) : Prop := ∃ rv, v = .agg (vwC x.pin x.head rv).toArray ∧ RtsM m rv x.roots ∧ x.pin.length = 32 ∧ x.head.ok ∧ ∀ t ∈ x.roots, t.ok
theorem VwM.mono {m m' : Mem} {v : Value} {x : Vw} (h : VwM m v x) (hm : ∀ k o, m k = some o → m' k = some o) : VwM m' v x := by
 obtain ⟨rv, h1, h2, h3⟩ := h
 exact ⟨rv, h1, h2.mono hm, h3⟩
def vw0 : Vw := ⟨z32, hd0, []⟩
section
variable {pin : By} {h : Hd} {rv : Value} (hp : pin.length = 32) (hh : h.ok)
include hp hh in
theorem length_vwC : (vwC pin h rv).length = 98 := by simp [vwC, length_bs, hp, length_hdC hh]
include hp in
theorem vw_p : getV true 32 (vwC pin h rv).toArray 0 = some (arr pin) := getV_seg (a := []) (b := bs pin) (c := hdC h ++ [rv]) (by simp [vwC]) rfl (by rw [length_bs, hp])
include hp hh in
theorem vw_h : getV true 65 (vwC pin h rv).toArray 32 = some (hdV h) := getV_seg (a := bs pin) (b := hdC h) (c := [rv]) (by simp [vwC]) (by rw [length_bs, hp]) (length_hdC hh)
include hp hh in
theorem vw_r : getV false 1 (vwC pin h rv).toArray 97 = some rv := getV_lst (a := bs pin ++ hdC h) (b := []) (c := []) (by simp [vwC]) (by simp [length_bs, hp, length_hdC hh])
theorem one_vwC (hr : rv.oneCell' = true) : ∀ u ∈ vwC pin h rv, u.oneCell' = true := by
 intro u hu
 simp only [vwC, List.mem_append, List.mem_singleton] at hu
 rcases hu with h | h | rfl
 ·exact one_bs _ u h
 ·exact one_hdC u h
 ·exact hr
include hp hh in
theorem set_vwH {g : Hd} (hg : g.ok) : setSeg (vwC pin h rv).toArray 32 (hdC g) = (vwC pin g rv).toArray := by
 have := setSeg_mid (a := bs pin) (b := hdC h) (c := [rv]) (l := hdC g) (o := 32) (by rw [length_bs, hp]) (by rw [length_hdC hh, length_hdC hg])
 simpa [vwC] using this
include hp hh in
theorem set_vwR {rv' : Value} : (vwC pin h rv).toArray.setIfInBounds 97 rv' = (vwC pin h rv').toArray := by
 have e : vwC pin h rv = (bs pin ++ hdC h) ++ rv :: [] := by simp [vwC]
 rw [e, set_app (by simp [length_bs, hp, length_hdC hh])]
 simp [vwC]
end
section
variable {m : Mem} {wI : World}
theorem c_clone {v : Value} {L : List Rt} (him : Im m wI) (hv : RtsM m v L) (hL : L.length ≤ 1000000) :
  Ret Try.prog 67 #[v] wI fun v' w' => Tch wI w' [] (lsE 55 97 rtC v' L).foot ∧ (lsE 55 97 rtC v' L).holds w' := by
 have st := St.start him
 obtain ⟨a, cap, rfl⟩ := hv.sl
 refine ret_of Try.call67 Try.func67 rfl Try.ntmps67 Try.results67 rfl ?_
 refine wc_seq ?_
 refine wc_region ?_
 refine wl_val (v_assign' (by conv => (lhs; whnf))) rfl ?_
 refine wl_nil ?_
 refine then_go ?_
 refine wc_seq ?_
 refine wc_seq ?_
 refine wc_region ?_
 refine wl_val (v_move' (by conv => (lhs; whnf))) rfl ?_
 refine wl_val (v_eq_nilS Try.underlying27 rfl rfl) rfl ?_
 refine wl_nil ?_
 refine then_go ?_
 refine wc_cond rfl (fun h4 => ?_) (fun h4 => ?_)
 ·refine wc_seq ?_
  refine wc_region ?_
  refine wl_val (v_assign' (by conv => (lhs; whnf))) rfl ?_
  refine wl_nil ?_
  refine then_go ?_
  refine wc_ret (then_ret ?_)
  have hL0 : L = [] := by
   obtain ⟨_, a', c', he, hk, hn, _⟩ := hv.row
   cases he
   have := hn (by simpa using h4)
   exact List.eq_nil_of_length_eq_zero (by omega)
  subst hL0
  have st : St m m [] wI _ [lsE 55 97 rtC (.slice none 0 0) []] := nilRow st 55 97
  have hf := St.finish (Es := []) (l := [_]) st
  exact ret1 (v := .slice none 0 0) rfl ⟨⟨hf.1.os, hf.1.tape, hf.1.output, hf.1.size, hf.1.block, fun k hk => hf.1.out k (by simpa [joinE] using hk)⟩, st.at (i := 0) rfl⟩
 ·refine wc_skip ?_
  refine then_go ?_
  refine wc_seq ?_
  refine wc_region ?_
  refine wl_buildSlice0 Try.underlying27 TF.t55 st rfl ?_
  intro v5 w st
  refine wl_val (v_move' (by conv => (lhs; whnf))) rfl ?_
  refine wl_append (news := L.flatMap rtC) 0 st rfl Try.underlying27 Try.underlying27 (.inr ⟨_, rfl⟩) TF.t55 TF.z55 rfl rfl rfl (hv.row.src st.im (fun u hu => by obtain ⟨t, _, h⟩ := List.mem_flatMap.1 hu; exact one_rtC u h)) (by omega) (by omega) rfl ?_
  intro v7 w _ st
  have st : St m m [] wI w [lsE 55 97 rtC v7 L] := by
   have st2 : St m m [] wI w [rowE v7 55 97 (0 + L.length) ([] ++ L.flatMap rtC)] := st
   rw [Nat.zero_add, List.nil_append] at st2
   exact st2
  refine wl_val (v_assign' (by conv => (lhs; whnf))) rfl ?_
  refine wl_nil ?_
  refine then_go ?_
  refine wc_ret ?_
  have hf := St.finish (Es := []) (l := [_]) st
  exact ret1 (v := v7) rfl ⟨⟨hf.1.os, hf.1.tape, hf.1.output, hf.1.size, hf.1.block, fun k hk => hf.1.out k (by simpa [joinE] using hk)⟩, st.at (i := 0) rfl⟩
theorem c_own {v : Value} {x : Vw} (him : Im m wI) (hv : VwM m v x) (hL : x.roots.length ≤ 1000000) :
  Ret Try.prog 44 #[v] wI fun v' w' => ∃ rv, v' = .agg (vwC x.pin x.head rv).toArray ∧ Tch wI w' [] (lsE 55 97 rtC rv x.roots).foot ∧ (lsE 55 97 rtC rv x.roots).holds w' := by
 have st := St.start him
 obtain ⟨rv0, rfl, hrt, hp, hh, hok⟩ := hv
 refine ret_of Try.call44 Try.func44 rfl Try.ntmps44 Try.results44 rfl ?_
 refine wc_seq ?_
 refine wc_region ?_
 refine wl_box (v := .agg (vwC x.pin x.head rv0).toArray) rfl st rfl ?_
 intro b1 w st
 refine wl_alloc TF.z29 st rfl ?_
 intro b2 w st
 refine wl_nil ?_
 refine then_go ?_
 refine wc_seq ?_
 refine wc_region ?_
 refine wl_val (v_fa TF.f29_2 rfl) rfl ?_
 refine wl_val (v_load rfl (st.reads (v := rv0) 1 rfl TF.t27 (vw_r hp hh))) rfl ?_
 refine wl_call rfl (c_clone st.im hrt hL) rfl ?_
 rintro v5 w ⟨t5, hE⟩
 have st := st.new (E := lsE 55 97 rtC v5 x.roots) t5 hE
 have hone := row_one hE
 refine wl_val (v_fa TF.f29_2 rfl) rfl ?_
 refine wl_store1 2 st rfl TF.t27 rfl (by conv => (lhs; whnf)) hone (by rw [show (Value.agg (vwC x.pin x.head rv0).toArray).cells = (vwC x.pin x.head rv0).toArray from rfl, List.size_toArray, length_vwC hp hh]; decide) ?_
 intro w st
 rw [show (Value.agg (vwC x.pin x.head rv0).toArray).cells = (vwC x.pin x.head rv0).toArray from rfl, show 0 + 97 = 97 from rfl, set_vwR hp hh] at st
 refine wl_nil ?_
 refine then_go ?_
 refine wc_seq ?_
 refine wc_region ?_
 refine wl_val (v_load rfl (st.reads (v := .agg (vwC x.pin x.head v5).toArray) 2 rfl TF.t29 (getV_all (by rw [List.size_toArray, length_vwC hp hh])))) rfl ?_
 refine wl_storeW (cs := (vwC x.pin x.head v5).toArray) 1 st rfl TF.t29 rfl rfl (by rw [List.size_toArray, length_vwC hp hh]) rfl (fun u hu => one_vwC hone u (by simpa using hu)) ?_
 intro w st
 refine wl_nil ?_
 refine then_go ?_
 refine wc_ret ?_
 have hrd := st.reads (v := .agg (vwC x.pin x.head v5).toArray) 1 rfl TF.t29 (getV_all (by rw [List.size_toArray, length_vwC hp hh]))
 have st := st.keepOnly (l := [lsE 55 97 rtC v5 x.roots]) (by simp)
 have hf := St.finish (Es := []) (l := [_]) st
 exact ret1c rfl hrd ⟨v5, rfl, ⟨hf.1.os, hf.1.tape, hf.1.output, hf.1.size, hf.1.block, fun k hk => hf.1.out k (by simpa [joinE] using hk)⟩, st.at (i := 0) rfl⟩
end
end Go.Proofs.Ytjjpakjgppmmdaa

namespace Go.Proofs.Ytjjpakjgppmmdaa
open Go Go.RowKit K SH PT
theorem LsM.rd0 {α : Type} {c : α → List Value} {size : Nat} {P : Program} {m : Mem} {a : Option Addr} {k cap : Nat} {L : List α} (h : LsM m (.slice a k cap) c size L) {b o i : Nat} (ha : a = some ⟨b, o, none⟩) (hi : i < L.length) (hs : 0 < size) {T : TypeId} {agg : Bool} {sz bytes : Nat} {v' : Value} (tf : TyF P T agg sz bytes) (hv : getV agg sz (c L[i]).toArray 0 = some v') {w : World} (him : Im m w) :
  Reads P w T ⟨b, o + i * size, none⟩ v' := h.rd ha hi hs tf hv him
theorem K.St.lsRd {α : Type} {c : α → List Value} {size : Nat} {m0 m : Mem} {F : List Nat} {w0 w : World} {Es : List Ent} (st : St m0 m F w0 w Es) (i : Nat) {E : TypeId} {v : Value} {L : List α} (hi : Es[i]? = some (lsE E size c v L)) (hl : ∀ x ∈ L, (c x).length = size) : LsM (heapM w) v c size L :=
 ⟨row_SlM (m := heapM w) (st.at hi) (fun _ _ _ ho => ho), hl⟩
def lrnE (x : Vw) (s : Sg) : Int := if 1 ≤ s.root.epoch.toNat ∧ s.root.epoch.toNat ≤ x.roots.length then (if x.roots[s.root.epoch.toNat - 1]? = some s.root then 0 else 17) else followE x.head s
def lrnV (x : Vw) (s : Sg) : Vw := if 1 ≤ s.root.epoch.toNat ∧ s.root.epoch.toNat ≤ x.roots.length then x else ⟨x.pin, followH x.head s, x.roots ++ [s.root]⟩
def learnG : Vw → List Sg → Vw × Int
 | x, [] => (x, 0)
 | x, s :: l => if lrnE x s = 0 then learnG (lrnV x s) l else (vw0, lrnE x s)
def sgP (p : Sg × Value) : List Value := sgC p.1.root p.2
def SgsM (m : Mem) (v : Value) (L : List (Sg × Value)) : Prop := LsM m v sgP 98 L ∧ ∀ p ∈ L, p.1.root.ok ∧ SlM m p.2 1 p.1.sig.length (bs p.1.sig)
theorem SgsM.mono {m m' : Mem} {v : Value} {L : List (Sg × Value)} (h : SgsM m v L) (hm : ∀ k o, m k = some o → m' k = some o) : SgsM m' v L := ⟨h.1.mono hm, fun p hp => ⟨(h.2 p hp).1, (h.2 p hp).2.mono hm⟩⟩
section
variable {m : Mem} {wI : World}
theorem c_start {pin : By} (him : Im m wI) (hp : pin.length = 32) : Ret Try.prog 47 #[arr pin] wI fun v' w' => Tch wI w' [] [] ∧ v' = hdV ⟨0, z32, pin⟩ := by
 have st := St.start him
 refine ret_of Try.call47 Try.func47 rfl Try.ntmps47 Try.results47 rfl ?_
 refine wc_seq ?_
 refine wc_region ?_
 refine wl_box (v := arr pin) rfl st rfl ?_
 intro b1 w st
 refine wl_alloc TF.z26 st rfl ?_
 intro b2 w st
 refine wl_nil ?_
 refine then_go ?_
 refine wc_seq ?_
 refine wc_region ?_
 refine wl_val (v_load rfl (st.reads (v := arr pin) 1 rfl TF.t23 (getV_all (by rw [size_arr, hp])))) rfl ?_
 refine wl_val (v_build (c' := (hdC ⟨0, z32, pin⟩).toArray) [(2, arr pin)] TF.z26 TF.p26 rfl (fill_one (u64 0 :: bs z32) (bs z32) [] rfl rfl (by rw [size_arr, hp]; rfl) (by simp [FillR, hdC, arr, Value.cells]))) rfl ?_
 refine wl_storeW (cs := (hdC ⟨0, z32, pin⟩).toArray) 0 st rfl TF.t26 rfl rfl (by rw [List.size_toArray, length_hdC ⟨rfl, hp⟩]) rfl (fun u hu => one_hdC u (by simpa using hu)) ?_
 intro w st
 refine wl_nil ?_
 refine then_go ?_
 refine wc_ret ?_
 exact ret1c rfl (st.reads 0 rfl TF.t26 (getV_all (by rw [List.size_toArray, length_hdC ⟨rfl, hp⟩]))) ⟨(st.keepOnly (l := []) (List.nil_sublist _)).touch, rfl⟩
def newV (pin : By) : Vw := ⟨pin, ⟨0, z32, pin⟩, []⟩
theorem newV_M {m : Mem} {pin : By} (hp : pin.length = 32) : VwM m (.agg (vwC pin ⟨0, z32, pin⟩ (.slice none 0 0)).toArray) (newV pin) := ⟨_, rfl, LsM.nil, hp, ⟨rfl, hp⟩, by simp [newV]⟩
theorem fill_vw2 {pin : By} {h : Hd} (hp : pin.length = 32) (hh : h.ok) : FillR (#[(0, 32), (32, 65), (97, 1)][·]?) (Value.agg (List.replicate 32 (Value.int .u8 0) ++ ([Value.int .u64 0] ++ List.replicate 32 (Value.int .u8 0) ++ List.replicate 32 (Value.int .u8 0)) ++ [Value.slice none 0 0]).toArray).cells [(0, arr pin), (1, hdV h)] (vwC pin h (.slice none 0 0)).toArray := by
 refine fill_one [] (bs z32) (hdC hd0 ++ [.slice none 0 0]) rfl rfl (by rw [size_arr, hp]; rfl) ?_
 refine fill_one (bs pin) (hdC hd0) [.slice none 0 0] (by simp [arr, Value.cells]) (by simp [length_bs, hp]; rfl) (by simp [hdV, Value.cells, length_hdC hh]; rfl) ?_
 simp [FillR, vwC, hdV, Value.cells]
theorem c_new {pin : By} (him : Im m wI) (hp : pin.length = 32) : Ret Try.prog 17 #[arr pin] wI fun v' w' => Tch wI w' [] [] ∧ v' = .agg (vwC pin ⟨0, z32, pin⟩ (.slice none 0 0)).toArray := by
 have st := St.start him
 have hh : Hd.ok ⟨0, z32, pin⟩ := ⟨rfl, hp⟩
 refine ret_of Try.call17 Try.func17 rfl Try.ntmps17 Try.results17 rfl ?_
 refine wc_seq ?_
 refine wc_region ?_
 refine wl_box (v := arr pin) rfl st rfl ?_
 intro b1 w st
 refine wl_alloc TF.z29 st rfl ?_
 intro b2 w st
 refine wl_nil ?_
 refine then_go ?_
 refine wc_seq ?_
 refine wc_draw TF.mixed ?_
 have st := st.pure (touch_drew _)
 refine fl_ld 0 rfl (v_load rfl (st.reads (v := arr pin) 1 rfl TF.t23 (getV_all (by rw [size_arr, hp])))) (by kernel_rfl) ?_
 refine fl_ld 1 rfl (v_load rfl (st.reads (v := arr pin) 1 rfl TF.t23 (getV_all (by rw [size_arr, hp])))) (by kernel_rfl) ?_
 refine fl_eff1 2 [] [0] (by kernel_rfl) ⟨obl_ld rfl rfl rfl (v_load rfl (st.reads (v := arr pin) 1 rfl TF.t23 (getV_all (by rw [size_arr, hp])))), obl_ld rfl rfl rfl (v_load rfl (st.reads (v := arr pin) 1 rfl TF.t23 (getV_all (by rw [size_arr, hp])))), trivial⟩ rfl ?_
 refine wl_call rfl (c_start st.im hp) rfl ?_
 rintro v5 w ⟨t5, rfl⟩
 have st := st.pure t5
 refine wl_nil ⟨rfl, ?_⟩
 refine fl_val 3 rfl (fun _ => (v_build (c' := (vwC pin ⟨0, z32, pin⟩ (.slice none 0 0)).toArray) [(0, arr pin), (1, hdV ⟨0, z32, pin⟩)] TF.z29 TF.p29 rfl (fill_vw2 hp hh))) rfl (by kernel_rfl) ?_
 refine fl_eff1 4 [] [] (by kernel_rfl) ⟨obl_ld rfl rfl rfl (v_load rfl (st.reads (v := arr pin) 1 rfl TF.t23 (getV_all (by rw [size_arr, hp])))), trivial⟩ rfl ?_
 refine wl_storeW (cs := (vwC pin ⟨0, z32, pin⟩ (.slice none 0 0)).toArray) 0 st rfl TF.t29 rfl rfl (by rw [List.size_toArray, length_vwC hp hh]) rfl (fun u hu => one_vwC rfl u (by simpa using hu)) ?_
 intro w st
 refine wl_nil ⟨rfl, ?_⟩
 refine fl_nil (by kernel_rfl) trivial ?_
 refine then_go ?_
 refine wc_ret ?_
 exact ret1c rfl (st.reads 0 rfl TF.t29 (getV_all (by rw [List.size_toArray, length_vwC hp hh]))) ⟨(st.keepOnly (l := []) (List.nil_sublist _)).touch, rfl⟩
end
end Go.Proofs.Ytjjpakjgppmmdaa

namespace Go.Proofs.Ytjjpakjgppmmdaa
open Go Go.RowKit K SH PT
theorem lrnV_ok {x : Vw} {s : Sg} (hh : x.head.ok) (hr : ∀ t ∈ x.roots, t.ok) (hs : s.root.ok) : (lrnV x s).head.ok ∧ (∀ t ∈ (lrnV x s).roots, t.ok) ∧ (lrnV x s).pin = x.pin ∧ (lrnV x s).roots.length ≤ x.roots.length + 1 := by
 unfold lrnV
 split
 ·exact ⟨hh, hr, rfl, by omega⟩
 ·refine ⟨followH_ok hs, fun t ht => ?_, rfl, by simp⟩
  rcases List.mem_append.1 ht with h | h
  ·exact hr t h
  ·simp at h; rw [h]; exact hs
theorem vw0_M {m : Mem} : VwM m (.agg (vwC z32 hd0 (.slice none 0 0)).toArray) vw0 := ⟨_, rfl, LsM.nil, rfl, hd0_ok, by simp [vw0]⟩
section
variable {m : Mem} {wI : World}
theorem c_learn {vv lv : Value} {x0 : Vw} {L : List (Sg × Value)} (him : Im m wI) (hv : VwM m vv x0) (hl : SgsM m lv L) (hb : x0.roots.length + L.length ≤ 1000000) :
  Ret Try.prog 14 #[vv, lv] wI fun v' w' => Out m wI w' fun m' => ∃ v2, v' = .tuple #[v2, .int .i64 (learnG x0 (L.map (·.1))).2] ∧ VwM m' v2 (learnG x0 (L.map (·.1))).1 := by
 have st := St.start him
 have hv0 := hv
 obtain ⟨rv0, rfl, hrt0, hp, hh0, hok0⟩ := hv
 obtain ⟨la, lc, rfl⟩ := hl.1.sl
 obtain ⟨R, hR⟩ : ∃ R, R = learnG x0 (L.map (·.1)) := ⟨_, rfl⟩
 have hz98 : (vwC z32 hd0 (.slice none 0 0)).length = 98 := length_vwC rfl hd0_ok
 rw [← hR]
 refine ret_of Try.call14 Try.func14 rfl Try.ntmps14 Try.results14 rfl ?_
 refine wc_seq ?_
 refine wc_region ?_
 refine wl_box (v := .agg (vwC x0.pin x0.head rv0).toArray) rfl st rfl ?_
 intro b2 w st
 refine wl_alloc TF.z29 st rfl ?_
 intro b4 w st
 refine wl_val (v_assign' (by conv => (lhs; whnf))) rfl ?_
 refine wl_nil ?_
 refine then_go ?_
 refine wc_seq ?_
 refine wc_region ?_
 refine wl_val (v_load rfl (st.reads (v := .agg (vwC x0.pin x0.head rv0).toArray) 1 rfl TF.t29 (getV_all (by rw [show (Value.agg (vwC x0.pin x0.head rv0).toArray).cells = (vwC x0.pin x0.head rv0).toArray from rfl, List.size_toArray, length_vwC hp hh0])))) rfl ?_
 refine wl_call rfl (c_own st.im hv0 (by omega)) rfl ?_
 rintro v12 w ⟨rv, rfl, t12, hE⟩
 have st := st.new (E := lsE 55 97 rtC rv x0.roots) t12 hE
 have hone := row_one hE
 refine wl_storeW (cs := (vwC x0.pin x0.head rv).toArray) 2 st rfl TF.t29 rfl rfl (by rw [List.size_toArray, length_vwC hp hh0]) (by rw [show (Value.agg (vwC x0.pin x0.head rv0).toArray).cells = (vwC x0.pin x0.head rv0).toArray from rfl, List.size_toArray, length_vwC hp hh0]) (fun u hu => one_vwC hone u (by simpa using hu)) ?_
 intro w st
 have st : St m m [] wI w [lsE 55 97 rtC rv x0.roots, K.blk b4 (vwC z32 hd0 (.slice none 0 0)).toArray 29, K.blk b2 (vwC x0.pin x0.head rv).toArray 29] := st
 refine wl_nil ?_
 refine then_go ?_
 refine wc_seq ?_
 refine wc_seq ?_
 refine wc_region ?_
 refine wl_val (v_move' (by conv => (lhs; whnf))) rfl ?_
 refine wl_val (v_len_s Try.underlying30 rfl) rfl ?_
 refine wl_val (v_move' (by conv => (lhs; whnf))) rfl ?_
 refine wl_nil ?_
 refine then_go ?_
 refine wc_block ?_
 refine wc_loop (S := Nat) (fun q r w' => ∃ (i : Nat) (x : Vw) (rv : Value) (m2 : Mem), q + i = L.length ∧ r 2 = .pointer (some ⟨b2, 0, none⟩) ∧ r 4 = .pointer (some ⟨b4, 0, none⟩) ∧ r 13 = .slice la L.length lc ∧ r 14 = .int .i64 L.length ∧ r 15 = .int .i64 i ∧ R = learnG x ((L.drop i).map (·.1)) ∧ x.pin.length = 32 ∧ x.head.ok ∧ (∀ t ∈ x.roots, t.ok) ∧ x.roots.length + (L.length - i) ≤ 1000000 ∧ SgsM m2 (.slice la L.length lc) L ∧
  St m m2 [] wI w' [lsE 55 97 rtC rv x.roots, K.blk b4 (vwC z32 hd0 (.slice none 0 0)).toArray 29, K.blk b2 (vwC x.pin x.head rv).toArray 29]) id L.length ⟨0, x0, _, m, by omega, rfl, rfl, rfl, rfl, rfl, hR, hp, hh0, hok0, by omega, hl, st⟩ ?_
 clear hl hone
 rintro q r w2 ⟨i, x, rv, m2, hqi, g2, g4, g13, g14, g15, hRx, hpx, hhx, hokx, hbx, hl, st⟩
 refine wc_o 2 g2 (wc_o 4 g4 (wc_o 13 g13 (wc_o 14 g14 (wc_o 15 g15 ?_))))
 refine wc_seq ?_
 refine wc_region ?_
 refine wl_val (v_lss rfl rfl) rfl ?_
 refine wl_nil ?_
 refine then_go ?_
 refine wc_seq ?_
 refine wc_if rfl (fun h16 => ?_) (fun h16 => ?_)
 ·refine wc_skip ?_
  refine then_go ?_
  refine wc_seq ?_
  refine wc_block ?_
  refine wc_seq ?_
  have hi : i < L.length := by omega
  obtain ⟨ba, oa, hba⟩ := hl.1.ptr (by omega) (by decide)
  subst hba
  obtain ⟨hrk, hsk⟩ := hl.2 _ (List.getElem_mem hi)
  have h98 := length_sgC (sv := L[i].2) hrk
  have hLen : ∀ t ∈ x.roots, (rtC t).length = 97 := fun t ht => length_rtC (hokx t ht)
  have hstep := (hR.symm.trans hRx).symm.trans hR.symm
  rw [List.drop_eq_getElem_cons hi, List.map_cons, learnG] at hRx
  obtain ⟨ko1, ko2, ko3, ko4⟩ := lrnV_ok hhx hokx hrk
  have hone : L[i].2.oneCell' = true := by obtain ⟨_, a, c, h, _⟩ := hsk; rw [h]; rfl
  refine wc_region ?_
  refine wl_val (v_ias i Try.underlying30 TF.t71 rfl rfl (by first | rfl | omega) (by first | omega | (dsimp only at *; omega))) rfl ?_
  refine wl_val (v_load rfl (hl.1.rd0 rfl hi (by decide) TF.t71 (v' := .agg (sgC L[i].1.root L[i].2).toArray) (getV_all (by rw [List.size_toArray]; exact h98)) st.im)) rfl ?_
  refine wl_alloc TF.z71 st rfl ?_
  intro b7 w st
  refine wl_storeW (cs := (sgC L[i].1.root L[i].2).toArray) 0 st rfl TF.t71 rfl rfl (by rw [List.size_toArray]; exact h98) rfl (fun u hu => by
   have hu' : u ∈ sgC L[i].1.root L[i].2 := by simpa using hu
   simp only [sgC, List.mem_append, List.mem_singleton] at hu'
   rcases hu' with h | rfl
   ·exact one_rtC u h
   ·exact hone) ?_
  intro w st
  refine wl_nil ?_
  refine then_go ?_
  refine wc_seq ?_
  refine wc_seq ?_
  refine wc_region ?_
  refine wl_val (v_fa TF.f71_0 rfl) rfl ?_
  refine wl_val (v_fa TF.f55_0 rfl) rfl ?_
  refine wl_val (v_load rfl (st.reads (v := u64 L[i].1.root.epoch) 0 rfl TF.t24 sg_e)) rfl ?_
  refine wl_val (v_assign' (by conv => (lhs; whnf))) rfl ?_
  refine wl_nil ?_
  refine then_go ?_
  refine wc_seq ?_
  refine wc_region ?_
  refine wl_val (v_move' (by conv => (lhs; whnf))) rfl ?_
  refine wl_val (v_geq rfl rfl) rfl ?_
  refine wl_val (v_move' (by conv => (lhs; whnf))) rfl ?_
  by_cases hg2 : (1 : Int) ≤ (L[i].1.root.epoch.toNat : Int)
  ·rw [show decide ((1 : Int) ≤ (L[i].1.root.epoch.toNat : Int)) = true from decide_eq_true hg2]
   obtain ⟨ra, rc, hrv⟩ := (st.lsRd 1 rfl hLen).sl
   subst hrv
   refine wl_on rfl rfl ?_
   refine wl_val (v_move' (by conv => (lhs; whnf))) rfl ?_
   refine wl_on rfl rfl ?_
   refine wl_val (v_fa TF.f29_2 rfl) rfl ?_
   refine wl_on rfl rfl ?_
   refine wl_val (v_load rfl (st.reads (v := .slice ra x.roots.length rc) 3 rfl TF.t27 (vw_r hpx hhx))) rfl ?_
   refine wl_on rfl rfl ?_
   refine wl_val (v_len_s Try.underlying27 rfl) rfl ?_
   refine wl_on rfl rfl ?_
   refine wl_val (v_to (v' := .int .u64 (x.roots.length : Nat)) (v_conv Try.underlying3 Try.underlying24 rfl) (by rw [wrap_u64_small (by omega)])) rfl ?_
   refine wl_on rfl rfl ?_
   refine wl_val (v_leq rfl rfl) rfl ?_
   refine wl_val (v_pick rfl) rfl ?_
   refine wl_nil ?_
   refine then_go ?_
   refine wc_if rfl (fun h31 => ?_) (fun h31 => ?_)
   ·refine wc_seq ?_
    refine wc_seq ?_
    have hcond : 1 ≤ L[i].1.root.epoch.toNat ∧ L[i].1.root.epoch.toNat ≤ x.roots.length := by omega
    have hj : L[i].1.root.epoch.toNat - 1 < x.roots.length := by omega
    have hrd2 := st.lsRd 1 rfl hLen
    obtain ⟨rb, ro, hra⟩ := hrd2.ptr (by omega) (by decide)
    subst hra
    have hse : lrnE x L[i].1 = if x.roots[L[i].1.root.epoch.toNat - 1] = L[i].1.root then 0 else 17 := by
     rw [lrnE, if_pos hcond, List.getElem?_eq_getElem hj]
     simp only [Option.some.injEq]
    refine wc_draw TF.mixed ?_
    have st := st.pure (touch_drew _)
    refine fl_val 0 rfl (fun _ => (v_fa TF.f29_2 rfl)) rfl (by kernel_rfl) ?_
    refine fl_ld 1 rfl (v_load rfl (st.reads (v := .slice (some ⟨rb, ro, none⟩) x.roots.length rc) 3 rfl TF.t27 (vw_r hpx hhx))) (by kernel_rfl) ?_
    refine fl_val 2 rfl (fun _ => (v_move' (by conv => (lhs; whnf)))) rfl (by kernel_rfl) ?_
    refine fl_val 3 rfl (fun _ => (v_to (v' := .int .u64 ((L[i].1.root.epoch.toNat - 1 : Nat) : Int)) (v_sub rfl rfl) (by rw [show ((L[i].1.root.epoch.toNat : Int) - 1) = ((L[i].1.root.epoch.toNat - 1 : Nat) : Int) by omega, wrap_u64_small (by have := L[i].1.root.epoch.toNat_lt; omega)]))) rfl (by kernel_rfl) ?_
    refine fl_val 4 rfl (fun _ => (v_ias (L[i].1.root.epoch.toNat - 1) Try.underlying27 TF.t55 rfl rfl (by first | rfl | omega) (by first | omega | (dsimp only at *; omega)))) rfl (by kernel_rfl) ?_
    refine fl_ld 5 rfl (v_load rfl (hrd2.rd0 rfl hj (by decide) TF.t55 (v' := rtV x.roots[L[i].1.root.epoch.toNat - 1]) (getV_all (by rw [List.size_toArray, hLen _ (List.getElem_mem hj)])) (im_heapM _))) (by kernel_rfl) ?_
    refine fl_val 6 rfl (fun _ => (v_fa TF.f71_0 rfl)) rfl (by kernel_rfl) ?_
    refine fl_ld 7 rfl (v_load rfl (st.reads (v := rtV L[i].1.root) 0 rfl TF.t55 (sg_rt hrk))) (by kernel_rfl) ?_
    refine fl_val 8 rfl (fun _ => (v_neRt rfl rfl (hokx _ (List.getElem_mem hj)) hrk)) rfl (by kernel_rfl) ?_
    refine fl_nil (by kernel_rfl) ⟨obl_ld rfl rfl rfl (v_load rfl (st.reads (v := rtV L[i].1.root) 0 rfl TF.t55 (sg_rt hrk))), obl_ld rfl rfl rfl (v_load rfl (hrd2.rd0 rfl hj (by decide) TF.t55 (v' := rtV x.roots[L[i].1.root.epoch.toNat - 1]) (getV_all (by rw [List.size_toArray, hLen _ (List.getElem_mem hj)])) (im_heapM _))), obl_ld rfl rfl rfl (v_load rfl (st.reads (v := .slice (some ⟨rb, ro, none⟩) x.roots.length rc) 3 rfl TF.t27 (vw_r hpx hhx))), trivial⟩ ?_
    refine then_go ?_
    refine wc_if rfl (fun h40 => ?_) (fun h40 => ?_)
    ·refine wc_seq ?_
     refine wc_region ?_
     refine wl_val (v_build (c' := (vwC z32 hd0 (.slice none 0 0)).toArray) [] TF.z29 TF.p29 rfl rfl) rfl ?_
     refine wl_storeW (cs := (vwC z32 hd0 (.slice none 0 0)).toArray) 2 st rfl TF.t29 rfl rfl rfl rfl (fun u hu => one_vwC rfl u (by simpa using hu)) ?_
     intro w st
     refine wl_val (v_assign' (by conv => (lhs; whnf))) rfl ?_
     refine wl_nil ?_
     refine then_go ?_
     refine wc_ret (then_ret (then_ret (block_ret (then_ret (then_ret (block_ret (then_ret ?_)))))))
     rw [hse, if_neg h40, if_neg (show ¬ ((17 : Int) = 0) by decide)] at hRx
     exact ret2c rfl (st.reads 2 rfl TF.t29 (getV_all rfl)) rfl ((st.keepOnly (l := []) (List.nil_sublist _)).out ⟨_, by rw [hRx]; rfl, by rw [hRx]; exact vw0_M⟩)
    ·refine wc_skip ?_
     refine then_go ?_
     refine wc_exit (then_exit (block_hit ?_))
     refine then_go ?_
     refine wc_region ?_
     refine wl_val (v_add' rfl rfl rfl (by first | omega | (dsimp only at *; omega)) (by first | omega | (dsimp only at *; omega))) rfl ?_
     refine wl_val (v_move' (by conv => (lhs; whnf))) rfl ?_
     refine wl_nil ?_
     refine then_go ?_
     rw [hse, if_pos (Decidable.not_not.1 h40), if_pos rfl, lrnV, if_pos hcond] at hRx
     exact ⟨q - 1, by simp; omega, i + 1, x, _, m2, by omega, rfl, rfl, rfl, rfl, rfl, hRx, hpx, hhx, hokx, by omega, hl, st.drop 0⟩
   ·refine wc_skip ?_
    refine then_go ?_
    refine wc_seq ?_
    have hcond : ¬ (1 ≤ L[i].1.root.epoch.toNat ∧ L[i].1.root.epoch.toNat ≤ x.roots.length) := by omega
    have hse : lrnE x L[i].1 = followE x.head L[i].1 := by rw [lrnE, if_neg hcond]
    refine wc_region ?_
    refine wl_val (v_fa TF.f29_1 rfl) rfl ?_
    refine wl_val (v_load rfl (st.reads (v := hdV x.head) 3 rfl TF.t26 (vw_h hpx hhx))) rfl ?_
    refine wl_val (v_load rfl (st.reads (v := .agg (sgC L[i].1.root L[i].2).toArray) 0 rfl TF.t71 (getV_all (by rw [List.size_toArray]; exact h98)))) rfl ?_
    refine wl_call rfl (c_follow (s := L[i].1) st.im hhx ⟨_, rfl, hsk, hrk⟩) rfl ?_
    rintro v46 w ⟨t46, m3, hg3, hi3, rfl⟩
    have st := st.grown hg3 t46 hi3
    have hl := hl.mono hg3.le
    refine wl_val (v_move' (by conv => (lhs; whnf))) rfl ?_
    refine wl_val (v_extract rfl rfl) rfl ?_
    refine wl_val (v_extract rfl rfl) rfl ?_
    refine wl_alloc TF.z26 st rfl ?_
    intro b9 w st
    refine wl_storeW (cs := (hdC (followH x.head L[i].1)).toArray) 0 st rfl TF.t26 rfl rfl (by rw [List.size_toArray, length_hdC (followH_ok hrk)]) rfl (fun u hu => one_hdC u (by simpa using hu)) ?_
    intro w st
    refine wl_val (v_assign' (by conv => (lhs; whnf))) rfl ?_
    refine wl_nil ?_
    refine then_go ?_
    refine wc_seq ?_
    refine wc_seq ?_
    refine wc_region ?_
    refine wl_val (v_move' (by conv => (lhs; whnf))) rfl ?_
    refine wl_val (v_neq rfl rfl) rfl ?_
    refine wl_nil ?_
    refine then_go ?_
    refine wc_if rfl (fun h50 => ?_) (fun h50 => ?_)
    ·refine wc_seq ?_
     refine wc_region ?_
     refine wl_val (v_build (c' := (vwC z32 hd0 (.slice none 0 0)).toArray) [] TF.z29 TF.p29 rfl rfl) rfl ?_
     refine wl_val (v_move' (by conv => (lhs; whnf))) rfl ?_
     refine wl_storeW (cs := (vwC z32 hd0 (.slice none 0 0)).toArray) 3 st rfl TF.t29 rfl rfl rfl rfl (fun u hu => one_vwC rfl u (by simpa using hu)) ?_
     intro w st
     refine wl_val (v_assign' (by conv => (lhs; whnf))) rfl ?_
     refine wl_nil ?_
     refine then_go ?_
     refine wc_ret (then_ret (block_ret (then_ret (then_ret (block_ret (then_ret ?_))))))
     rw [hse, if_neg h50] at hRx
     exact ret2c rfl (st.reads 3 rfl TF.t29 (getV_all rfl)) rfl ((st.keepOnly (l := []) (List.nil_sublist _)).out ⟨_, by rw [hRx]; rfl, by rw [hRx]; exact vw0_M⟩)
    ·refine wc_skip ?_
     refine then_go ?_
     refine wc_draw TF.mixed ?_
     have st := st.pure (touch_drew _)
     refine fl_ld 0 rfl (v_load rfl (by first | exact st.reads (v := hdV (followH x.head L[i].1)) 0 rfl TF.t26 (getV_all (by rw [List.size_toArray, length_hdC (followH_ok hrk)])) | exact st.reads (v := hdV (followH x.head L[i].1)) 1 rfl TF.t26 (getV_all (by rw [List.size_toArray, length_hdC (followH_ok hrk)])))) (by kernel_rfl) ?_
     refine fl_val 1 rfl (fun _ => (v_fa TF.f29_2 rfl)) rfl (by kernel_rfl) ?_
     refine fl_ld 2 rfl (v_load rfl (by first | exact st.reads 4 rfl TF.t27 (vw_r hpx hhx) | exact st.reads 5 rfl TF.t27 (vw_r hpx hhx))) (by kernel_rfl) ?_
     refine fl_val 3 rfl (fun _ => (v_fa TF.f71_0 rfl)) rfl (by kernel_rfl) ?_
     refine fl_ld 4 rfl (v_load rfl (by first | exact st.reads (v := rtV L[i].1.root) 1 rfl TF.t55 (sg_rt hrk) | exact st.reads (v := rtV L[i].1.root) 2 rfl TF.t55 (sg_rt hrk))) (by kernel_rfl) ?_
     refine fl_val 7 rfl (fun _ => (v_fa TF.f29_1 rfl)) rfl (by kernel_rfl) ?_
     refine fl_eff1 5 [7, 3, 1] [2, 0] (by kernel_rfl) ⟨obl_ld rfl rfl rfl (v_load rfl (by first | exact st.reads (v := rtV L[i].1.root) 1 rfl TF.t55 (sg_rt hrk) | exact st.reads (v := rtV L[i].1.root) 2 rfl TF.t55 (sg_rt hrk))), obl_ld rfl rfl rfl (v_load rfl (by first | exact st.reads 4 rfl TF.t27 (vw_r hpx hhx) | exact st.reads 5 rfl TF.t27 (vw_r hpx hhx))), obl_ld rfl rfl rfl (v_load rfl (by first | exact st.reads (v := hdV (followH x.head L[i].1)) 0 rfl TF.t26 (getV_all (by rw [List.size_toArray, length_hdC (followH_ok hrk)])) | exact st.reads (v := hdV (followH x.head L[i].1)) 1 rfl TF.t26 (getV_all (by rw [List.size_toArray, length_hdC (followH_ok hrk)])))), trivial⟩ rfl ?_
     refine wl_lsOne (rtC L[i].1.root) Try.underlying27 TF.t55 TF.z55 (by decide) (by decide) (length_rtC hrk) rfl st rfl ?_
     intro b58 w st
     refine wl_nil ⟨rfl, ?_⟩
     refine fl_eff1 6 [7, 3, 1] [0] (by kernel_rfl) ⟨obl_ld rfl rfl rfl (v_load rfl (by first | exact st.reads 4 rfl TF.t27 (vw_r hpx hhx) | exact st.reads 5 rfl TF.t27 (vw_r hpx hhx))), obl_ld rfl rfl rfl (v_load rfl (by first | exact st.reads (v := hdV (followH x.head L[i].1)) 0 rfl TF.t26 (getV_all (by rw [List.size_toArray, length_hdC (followH_ok hrk)])) | exact st.reads (v := hdV (followH x.head L[i].1)) 1 rfl TF.t26 (getV_all (by rw [List.size_toArray, length_hdC (followH_ok hrk)])))), trivial⟩ rfl ?_
     refine wl_lsApp 2 (c := rtC) (e := L[i].1.root) st rfl Try.underlying27 TF.t55 TF.z55 rfl (length_rtC hrk) one_rtC rfl rfl (by omega) (by omega) rfl ?_
     intro rv2 w st hrv2
     refine wl_nil ⟨rfl, ?_⟩
     refine fl_eff1 8 [3] [] (by kernel_rfl) ⟨obl_ld rfl rfl rfl (v_load rfl (by first | exact st.reads (v := hdV (followH x.head L[i].1)) 0 rfl TF.t26 (getV_all (by rw [List.size_toArray, length_hdC (followH_ok hrk)])) | exact st.reads (v := hdV (followH x.head L[i].1)) 1 rfl TF.t26 (getV_all (by rw [List.size_toArray, length_hdC (followH_ok hrk)])))), trivial⟩ rfl ?_
     refine wl_store (v := hdV (followH x.head L[i].1)) 4 st rfl TF.t26 rfl rfl (by simp [hdV, Value.cells, length_hdC (followH_ok hrk)]) (fun u hu => one_hdC u (by simpa [hdV, Value.cells] using hu)) (by rw [List.size_toArray, length_vwC hpx hhx]; decide) ?_
     intro w st
     rw [show (hdV (followH x.head L[i].1)).cells.toList = hdC (followH x.head L[i].1) by simp [hdV, Value.cells], show 0 + 32 = 32 from rfl, set_vwH hpx hhx (followH_ok hrk)] at st
     refine wl_nil ⟨rfl, ?_⟩
     refine fl_val 9 rfl (fun _ => (v_fa TF.f29_2 rfl)) rfl (by kernel_rfl) ?_
     refine fl_eff1 10 [] [] (by kernel_rfl) trivial rfl ?_
     refine wl_store1 4 st rfl TF.t27 rfl (by conv => (lhs; whnf)) hrv2 (by rw [List.size_toArray, length_vwC hpx (followH_ok hrk)]; decide) ?_
     intro w st
     rw [show 0 + 97 = 97 from rfl, set_vwR hpx (followH_ok hrk)] at st
     refine wl_nil ⟨rfl, ?_⟩
     refine fl_nil (by kernel_rfl) trivial ?_
     refine block_go (then_go ?_)
     refine wc_region ?_
     refine wl_val (v_add' rfl rfl rfl (by first | omega | (dsimp only at *; omega)) (by first | omega | (dsimp only at *; omega))) rfl ?_
     refine wl_val (v_move' (by conv => (lhs; whnf))) rfl ?_
     refine wl_nil ?_
     refine then_go ?_
     rw [hse, if_pos (Decidable.not_not.1 h50)] at hRx
     have hsv : lrnV x L[i].1 = ⟨x.pin, followH x.head L[i].1, x.roots ++ [L[i].1.root]⟩ := by rw [lrnV, if_neg hcond]
     refine ⟨q - 1, by simp; omega, i + 1, lrnV x L[i].1, rv2, _, by omega, rfl, rfl, rfl, rfl, rfl, hRx, by rw [ko3]; exact hpx, ko1, ko2, by omega, hl, ?_⟩
     rw [hsv]
     exact (st.drop 0).drop 0
  ·rw [show decide ((1 : Int) ≤ (L[i].1.root.epoch.toNat : Int)) = false from decide_eq_false hg2]
   refine wl_off rfl rfl rfl rfl ?_
   refine wl_off rfl rfl rfl rfl ?_
   refine wl_off rfl rfl rfl rfl ?_
   refine wl_off rfl rfl rfl rfl ?_
   refine wl_off rfl rfl rfl rfl ?_
   refine wl_off rfl rfl rfl rfl ?_
   refine wl_val (v_pick rfl) rfl ?_
   refine wl_nil ?_
   refine then_go ?_
   refine wc_false rfl ?_
   refine wc_skip ?_
   refine then_go ?_
   refine wc_seq ?_
   have hcond : ¬ (1 ≤ L[i].1.root.epoch.toNat ∧ L[i].1.root.epoch.toNat ≤ x.roots.length) := by omega
   have hse : lrnE x L[i].1 = followE x.head L[i].1 := by rw [lrnE, if_neg hcond]
   refine wc_region ?_
   refine wl_val (v_fa TF.f29_1 rfl) rfl ?_
   refine wl_val (v_load rfl (st.reads (v := hdV x.head) 3 rfl TF.t26 (vw_h hpx hhx))) rfl ?_
   refine wl_val (v_load rfl (st.reads (v := .agg (sgC L[i].1.root L[i].2).toArray) 0 rfl TF.t71 (getV_all (by rw [List.size_toArray]; exact h98)))) rfl ?_
   refine wl_call rfl (c_follow (s := L[i].1) st.im hhx ⟨_, rfl, hsk, hrk⟩) rfl ?_
   rintro v46 w ⟨t46, m3, hg3, hi3, rfl⟩
   have st := st.grown hg3 t46 hi3
   have hl := hl.mono hg3.le
   refine wl_val (v_move' (by conv => (lhs; whnf))) rfl ?_
   refine wl_val (v_extract rfl rfl) rfl ?_
   refine wl_val (v_extract rfl rfl) rfl ?_
   refine wl_alloc TF.z26 st rfl ?_
   intro b9 w st
   refine wl_storeW (cs := (hdC (followH x.head L[i].1)).toArray) 0 st rfl TF.t26 rfl rfl (by rw [List.size_toArray, length_hdC (followH_ok hrk)]) rfl (fun u hu => one_hdC u (by simpa using hu)) ?_
   intro w st
   refine wl_val (v_assign' (by conv => (lhs; whnf))) rfl ?_
   refine wl_nil ?_
   refine then_go ?_
   refine wc_seq ?_
   refine wc_seq ?_
   refine wc_region ?_
   refine wl_val (v_move' (by conv => (lhs; whnf))) rfl ?_
   refine wl_val (v_neq rfl rfl) rfl ?_
   refine wl_nil ?_
   refine then_go ?_
   refine wc_if rfl (fun h50 => ?_) (fun h50 => ?_)
   ·refine wc_seq ?_
    refine wc_region ?_
    refine wl_val (v_build (c' := (vwC z32 hd0 (.slice none 0 0)).toArray) [] TF.z29 TF.p29 rfl rfl) rfl ?_
    refine wl_val (v_move' (by conv => (lhs; whnf))) rfl ?_
    refine wl_storeW (cs := (vwC z32 hd0 (.slice none 0 0)).toArray) 3 st rfl TF.t29 rfl rfl rfl rfl (fun u hu => one_vwC rfl u (by simpa using hu)) ?_
    intro w st
    refine wl_val (v_assign' (by conv => (lhs; whnf))) rfl ?_
    refine wl_nil ?_
    refine then_go ?_
    refine wc_ret (then_ret (block_ret (then_ret (then_ret (block_ret (then_ret ?_))))))
    rw [hse, if_neg h50] at hRx
    exact ret2c rfl (st.reads 3 rfl TF.t29 (getV_all rfl)) rfl ((st.keepOnly (l := []) (List.nil_sublist _)).out ⟨_, by rw [hRx]; rfl, by rw [hRx]; exact vw0_M⟩)
   ·refine wc_skip ?_
    refine then_go ?_
    refine wc_draw TF.mixed ?_
    have st := st.pure (touch_drew _)
    refine fl_ld 0 rfl (v_load rfl (by first | exact st.reads (v := hdV (followH x.head L[i].1)) 0 rfl TF.t26 (getV_all (by rw [List.size_toArray, length_hdC (followH_ok hrk)])) | exact st.reads (v := hdV (followH x.head L[i].1)) 1 rfl TF.t26 (getV_all (by rw [List.size_toArray, length_hdC (followH_ok hrk)])))) (by kernel_rfl) ?_
    refine fl_val 1 rfl (fun _ => (v_fa TF.f29_2 rfl)) rfl (by kernel_rfl) ?_
    refine fl_ld 2 rfl (v_load rfl (by first | exact st.reads 4 rfl TF.t27 (vw_r hpx hhx) | exact st.reads 5 rfl TF.t27 (vw_r hpx hhx))) (by kernel_rfl) ?_
    refine fl_val 3 rfl (fun _ => (v_fa TF.f71_0 rfl)) rfl (by kernel_rfl) ?_
    refine fl_ld 4 rfl (v_load rfl (by first | exact st.reads (v := rtV L[i].1.root) 1 rfl TF.t55 (sg_rt hrk) | exact st.reads (v := rtV L[i].1.root) 2 rfl TF.t55 (sg_rt hrk))) (by kernel_rfl) ?_
    refine fl_val 7 rfl (fun _ => (v_fa TF.f29_1 rfl)) rfl (by kernel_rfl) ?_
    refine fl_eff1 5 [7, 3, 1] [2, 0] (by kernel_rfl) ⟨obl_ld rfl rfl rfl (v_load rfl (by first | exact st.reads (v := rtV L[i].1.root) 1 rfl TF.t55 (sg_rt hrk) | exact st.reads (v := rtV L[i].1.root) 2 rfl TF.t55 (sg_rt hrk))), obl_ld rfl rfl rfl (v_load rfl (by first | exact st.reads 4 rfl TF.t27 (vw_r hpx hhx) | exact st.reads 5 rfl TF.t27 (vw_r hpx hhx))), obl_ld rfl rfl rfl (v_load rfl (by first | exact st.reads (v := hdV (followH x.head L[i].1)) 0 rfl TF.t26 (getV_all (by rw [List.size_toArray, length_hdC (followH_ok hrk)])) | exact st.reads (v := hdV (followH x.head L[i].1)) 1 rfl TF.t26 (getV_all (by rw [List.size_toArray, length_hdC (followH_ok hrk)])))), trivial⟩ rfl ?_
    refine wl_lsOne (rtC L[i].1.root) Try.underlying27 TF.t55 TF.z55 (by decide) (by decide) (length_rtC hrk) rfl st rfl ?_
    intro b58 w st
    refine wl_nil ⟨rfl, ?_⟩
    refine fl_eff1 6 [7, 3, 1] [0] (by kernel_rfl) ⟨obl_ld rfl rfl rfl (v_load rfl (by first | exact st.reads 4 rfl TF.t27 (vw_r hpx hhx) | exact st.reads 5 rfl TF.t27 (vw_r hpx hhx))), obl_ld rfl rfl rfl (v_load rfl (by first | exact st.reads (v := hdV (followH x.head L[i].1)) 0 rfl TF.t26 (getV_all (by rw [List.size_toArray, length_hdC (followH_ok hrk)])) | exact st.reads (v := hdV (followH x.head L[i].1)) 1 rfl TF.t26 (getV_all (by rw [List.size_toArray, length_hdC (followH_ok hrk)])))), trivial⟩ rfl ?_
    refine wl_lsApp 2 (c := rtC) (e := L[i].1.root) st rfl Try.underlying27 TF.t55 TF.z55 rfl (length_rtC hrk) one_rtC rfl rfl (by omega) (by omega) rfl ?_
    intro rv2 w st hrv2
    refine wl_nil ⟨rfl, ?_⟩
    refine fl_eff1 8 [3] [] (by kernel_rfl) ⟨obl_ld rfl rfl rfl (v_load rfl (by first | exact st.reads (v := hdV (followH x.head L[i].1)) 0 rfl TF.t26 (getV_all (by rw [List.size_toArray, length_hdC (followH_ok hrk)])) | exact st.reads (v := hdV (followH x.head L[i].1)) 1 rfl TF.t26 (getV_all (by rw [List.size_toArray, length_hdC (followH_ok hrk)])))), trivial⟩ rfl ?_
    refine wl_store (v := hdV (followH x.head L[i].1)) 4 st rfl TF.t26 rfl rfl (by simp [hdV, Value.cells, length_hdC (followH_ok hrk)]) (fun u hu => one_hdC u (by simpa [hdV, Value.cells] using hu)) (by rw [List.size_toArray, length_vwC hpx hhx]; decide) ?_
    intro w st
    rw [show (hdV (followH x.head L[i].1)).cells.toList = hdC (followH x.head L[i].1) by simp [hdV, Value.cells], show 0 + 32 = 32 from rfl, set_vwH hpx hhx (followH_ok hrk)] at st
    refine wl_nil ⟨rfl, ?_⟩
    refine fl_val 9 rfl (fun _ => (v_fa TF.f29_2 rfl)) rfl (by kernel_rfl) ?_
    refine fl_eff1 10 [] [] (by kernel_rfl) trivial rfl ?_
    refine wl_store1 4 st rfl TF.t27 rfl (by conv => (lhs; whnf)) hrv2 (by rw [List.size_toArray, length_vwC hpx (followH_ok hrk)]; decide) ?_
    intro w st
    rw [show 0 + 97 = 97 from rfl, set_vwR hpx (followH_ok hrk)] at st
    refine wl_nil ⟨rfl, ?_⟩
    refine fl_nil (by kernel_rfl) trivial ?_
    refine block_go (then_go ?_)
    refine wc_region ?_
    refine wl_val (v_add' rfl rfl rfl (by first | omega | (dsimp only at *; omega)) (by first | omega | (dsimp only at *; omega))) rfl ?_
    refine wl_val (v_move' (by conv => (lhs; whnf))) rfl ?_
    refine wl_nil ?_
    refine then_go ?_
    rw [hse, if_pos (Decidable.not_not.1 h50)] at hRx
    have hsv : lrnV x L[i].1 = ⟨x.pin, followH x.head L[i].1, x.roots ++ [L[i].1.root]⟩ := by rw [lrnV, if_neg hcond]
    refine ⟨q - 1, by simp; omega, i + 1, lrnV x L[i].1, rv2, _, by omega, rfl, rfl, rfl, rfl, rfl, hRx, by rw [ko3]; exact hpx, ko1, ko2, by omega, hl, ?_⟩
    rw [hsv]
    exact (st.drop 0).drop 0
 ·refine wc_exit (then_exit (then_exit (block_hit ?_)))
  refine then_go ?_
  refine wc_seq ?_
  refine wc_region ?_
  refine wl_val (v_load rfl (st.reads (v := .agg (vwC x.pin x.head rv).toArray) 2 rfl TF.t29 (getV_all (by rw [List.size_toArray, length_vwC hpx hhx])))) rfl ?_
  refine wl_storeW (cs := (vwC x.pin x.head rv).toArray) 1 st rfl TF.t29 rfl rfl (by rw [List.size_toArray, length_vwC hpx hhx]) (by rw [List.size_toArray, hz98]) (fun u hu => one_vwC (row_one (st.at (i := 0) rfl)) u (by simpa using hu)) ?_
  intro w st
  refine wl_val (v_assign' (by conv => (lhs; whnf))) rfl ?_
  refine wl_nil ?_
  refine then_go ?_
  refine wc_ret ?_
  have hiL : i = L.length := by omega
  subst hiL
  rw [List.drop_length, List.map_nil, learnG] at hRx
  have hrd := st.reads (v := .agg (vwC x.pin x.head rv).toArray) 1 rfl TF.t29 (getV_all (by rw [List.size_toArray, length_vwC hpx hhx]))
  obtain ⟨m4, hg4, hq4, st⟩ := st.keepLs (i := 0) rfl (fun t ht => length_rtC (hokx t ht))
  exact ret2c rfl hrd rfl ((st.keepOnly (l := []) (List.nil_sublist _)).out ⟨_, by rw [hRx]; rfl, by rw [hRx]; exact ⟨rv, rfl, hq4, hpx, hhx, hokx⟩⟩)
end
end Go.Proofs.Ytjjpakjgppmmdaa

namespace Go.Proofs.Ytjjpakjgppmmdaa
open Go Go.RowKit K SH PT
end Go.Proofs.Ytjjpakjgppmmdaa

namespace Go.Proofs.Ytjjpakjgppmmdaa
open Go Go.RowKit K SH PT
def nameCh (c : UInt8) : Prop := (97 ≤ c.toNat ∧ c.toNat ≤ 122) ∨ (48 ≤ c.toNat ∧ c.toNat ≤ 57) ∨ c.toNat = 46 ∨ c.toNat = 45
instance {c : UInt8} : Decidable (nameCh c) := by unfold nameCh; infer_instance
def okName (n : By) : Prop := (∀ c ∈ n, nameCh c) ∧ n ≠ [] ∧ n.length ≤ 32
instance {n : By} : Decidable (okName n) := by unfold okName; infer_instance
theorem strB_size (n : By) : (strB n).size = n.length := rfl
section
variable {P : Program} {r : Fr} {w : World} {ty : TypeId}
theorem v_nes {T U : TypeId} {x y : Operand} {a b : By} (hx : ev r x = .string (strB a)) (hy : ev r y = .string (strB b)) : Val P (.binOp .neq T x y U) ty r w (.bool (decide (¬ a = b))) w := by
 intro _ _ _ _
 simp only [execOp, eqGuard, hx, hy, binOp, Op.stringOp, strB_toList, Sem.run_bind, Sem.run_pure, Result.andThen_ok]
 by_cases h : a = b
 ·subst h; simp
 ·simp [h]
theorem v_idxs {T : TypeId} {x ix : Operand} {n : By} {i : Nat} (hT : P.underlying T = some .string) (hx : ev r x = .string (strB n)) (hi : ev r ix = .int .i64 i) (h : i < n.length) : Val P (.index T x ix) ty r w (u8 n[i]) w := by
 refine v_index_str hT hx hi (by omega) ?_
 rw [Int.toNat_natCast, getElem?_pos (strB n) i h]
 rfl
theorem v_geB {T U : TypeId} {x y : Operand} {k : IntKind} {a b : Int} {z : Bool} (hx : ev r x = .int k a) (hy : ev r y = .int k b) (h : z = decide (b ≤ a)) : Val P (.binOp .geq T x y U) ty r w (.bool z) w := by rw [h]; exact v_geq hx hy
theorem v_leB {T U : TypeId} {x y : Operand} {k : IntKind} {a b : Int} {z : Bool} (hx : ev r x = .int k a) (hy : ev r y = .int k b) (h : z = decide (a ≤ b)) : Val P (.binOp .leq T x y U) ty r w (.bool z) w := by rw [h]; exact v_leq hx hy
theorem v_eqB {T U : TypeId} {x y : Operand} {k : IntKind} {a b : Int} {z : Bool} (hx : ev r x = .int k a) (hy : ev r y = .int k b) (h : z = decide (a = b)) : Val P (.binOp .eql T x y U) ty r w (.bool z) w := by rw [h]; exact v_eql hx hy
end
section
variable {m : Mem} {wI : World}
theorem c_recname {n : By} (him : Im m wI) (hn : n.length ≤ 9223372036854775807) : Ret Try.prog 73 #[.string (strB n)] wI fun v' w' => Tch wI w' [] [] ∧ v' = .bool (decide (okName n)) := by
  have st := St.start him
  have hsz := strB_size n
  refine ret_of Try.call73 Try.func73 rfl Try.ntmps73 Try.results73 rfl ?_
  refine wc_seq ?_
  refine wc_region ?_
  refine wl_val (v_assign' (by conv => (lhs; whnf))) rfl ?_
  refine wl_nil ?_
  refine then_go ?_
  refine wc_seq ?_
  refine wc_seq ?_
  refine wc_region ?_
  refine wl_val (v_assign' (by conv => (lhs; whnf))) rfl ?_
  refine wl_nil ?_
  refine then_go ?_
  refine wc_block ?_
  refine wc_loop (S := Nat) (fun q r w' => ∃ (i : Nat), q + i = n.length ∧ r 0 = .string (strB n) ∧ r 3 = .int .i64 i ∧ (∀ c ∈ n.take i, nameCh c) ∧ St m m [] wI w' []) id n.length ⟨0, by omega, rfl, rfl, by simp, st⟩ ?_
  rintro q r w2 ⟨i, hqi, g0, g3, hall, st⟩
  refine wc_o 0 g0 (wc_o 3 g3 ?_)
  refine wc_seq ?_
  refine wc_seq ?_
  refine wc_region ?_
  refine wl_val (v_move' (by conv => (lhs; whnf))) rfl ?_
  refine wl_val (v_move' (by conv => (lhs; whnf))) rfl ?_
  refine wl_val (v_len_str Try.underlying9 rfl) rfl ?_
  refine wl_val (v_lss rfl rfl) rfl ?_
  refine wl_nil ?_
  refine then_go ?_
  refine wc_if rfl (fun h8 => ?_) (fun h8 => ?_)
  · refine wc_skip ?_
    refine then_go ?_
    refine wc_seq ?_
    refine wc_block ?_
    refine wc_seq ?_
    have hi : i < n.length := by omega
    refine wc_region ?_
    refine wl_val (v_move' (by conv => (lhs; whnf))) rfl ?_
    refine wl_val (v_move' (by conv => (lhs; whnf))) rfl ?_
    refine wl_val (v_idxs Try.underlying9 rfl rfl hi) rfl ?_
    refine wl_val (v_assign' (by conv => (lhs; whnf))) rfl ?_
    refine wl_nil ?_
    refine then_go ?_
    refine wc_seq ?_
    by_cases hA : 97 ≤ n[i].toNat ∧ n[i].toNat ≤ 122
    · refine wc_region ?_
      refine wl_val (v_move' (by conv => (lhs; whnf))) rfl ?_
      refine wl_val (by first | exact v_geB (z := true) rfl rfl (decide_eq_true (by omega)).symm | exact v_geB (z := false) rfl rfl (decide_eq_false (by omega)).symm) rfl ?_
      refine wl_val (v_move' (by conv => (lhs; whnf))) rfl ?_
      refine wl_on rfl rfl ?_
      refine wl_val (v_move' (by conv => (lhs; whnf))) rfl ?_
      refine wl_on rfl rfl ?_
      refine wl_val (by first | exact v_leB (z := true) rfl rfl (decide_eq_true (by omega)).symm | exact v_leB (z := false) rfl rfl (decide_eq_false (by omega)).symm) rfl ?_
      refine wl_val (v_pick rfl) rfl ?_
      refine wl_val (v_move' (by conv => (lhs; whnf))) rfl ?_
      refine wl_off rfl rfl rfl rfl ?_
      refine wl_off rfl rfl rfl rfl ?_
      refine wl_off rfl rfl rfl rfl ?_
      refine offU rfl rfl rfl ?_
      refine offU rfl rfl rfl ?_
      refine wl_off rfl rfl rfl rfl ?_
      refine wl_val (v_pick rfl) rfl ?_
      refine wl_val (v_move' (by conv => (lhs; whnf))) rfl ?_
      refine wl_off rfl rfl rfl rfl ?_
      refine wl_off rfl rfl rfl rfl ?_
      refine wl_val (v_pick rfl) rfl ?_
      refine wl_val (v_move' (by conv => (lhs; whnf))) rfl ?_
      refine wl_off rfl rfl rfl rfl ?_
      refine wl_off rfl rfl rfl rfl ?_
      refine wl_val (v_pick rfl) rfl ?_
      refine wl_val (v_not rfl) rfl ?_
      refine wl_nil ?_
      refine then_go ?_
      refine wc_false rfl ?_
      refine wc_skip ?_
      refine block_go (then_go ?_)
      refine wc_region ?_
      refine wl_val (v_move' (by conv => (lhs; whnf))) rfl ?_
      refine wl_val (v_add' rfl rfl rfl (by first | omega | (dsimp only at *; omega)) (by first | omega | (dsimp only at *; omega))) rfl ?_
      refine wl_val (v_assign' (by conv => (lhs; whnf))) rfl ?_
      refine wl_nil ?_
      refine then_go ?_
      have hch : nameCh n[i] := by unfold nameCh; omega
      refine ⟨q - 1, by simp; omega, i + 1, by omega, rfl, rfl, fun c hc => ?_, st⟩
      rw [List.take_succ_eq_append_getElem hi] at hc
      rcases List.mem_append.1 hc with h | h
      · exact hall c h
      · simp at h; rw [h]; exact hch
    · by_cases hB : 48 ≤ n[i].toNat ∧ n[i].toNat ≤ 57
      · refine wc_region ?_
        refine wl_val (v_move' (by conv => (lhs; whnf))) rfl ?_
        refine wl_val (by first | exact v_geB (z := true) rfl rfl (decide_eq_true (by omega)).symm | exact v_geB (z := false) rfl rfl (decide_eq_false (by omega)).symm) rfl ?_
        refine wl_val (v_move' (by conv => (lhs; whnf))) rfl ?_
        refine wl_off rfl rfl rfl rfl ?_
        refine wl_off rfl rfl rfl rfl ?_
        refine wl_val (v_pick rfl) rfl ?_
        refine wl_val (v_move' (by conv => (lhs; whnf))) rfl ?_
        refine wl_on rfl rfl ?_
        refine wl_val (v_move' (by conv => (lhs; whnf))) rfl ?_
        refine wl_on rfl rfl ?_
        refine wl_val (by first | exact v_geB (z := true) rfl rfl (decide_eq_true (by omega)).symm | exact v_geB (z := false) rfl rfl (decide_eq_false (by omega)).symm) rfl ?_
        refine wl_on rfl rfl ?_
        refine wl_val (v_move' (by conv => (lhs; whnf))) rfl ?_
        refine wl_on rfl rfl ?_
        refine wl_val (v_move' (by conv => (lhs; whnf))) rfl ?_
        refine wl_on rfl rfl ?_
        refine wl_val (by first | exact v_leB (z := true) rfl rfl (decide_eq_true (by omega)).symm | exact v_leB (z := false) rfl rfl (decide_eq_false (by omega)).symm) rfl ?_
        refine wl_on rfl rfl ?_
        refine wl_val (v_pick rfl) rfl ?_
        refine wl_val (v_pick rfl) rfl ?_
        refine wl_val (v_move' (by conv => (lhs; whnf))) rfl ?_
        refine wl_off rfl rfl rfl rfl ?_
        refine wl_off rfl rfl rfl rfl ?_
        refine wl_val (v_pick rfl) rfl ?_
        refine wl_val (v_move' (by conv => (lhs; whnf))) rfl ?_
        refine wl_off rfl rfl rfl rfl ?_
        refine wl_off rfl rfl rfl rfl ?_
        refine wl_val (v_pick rfl) rfl ?_
        refine wl_val (v_not rfl) rfl ?_
        refine wl_nil ?_
        refine then_go ?_
        refine wc_false rfl ?_
        refine wc_skip ?_
        refine block_go (then_go ?_)
        refine wc_region ?_
        refine wl_val (v_move' (by conv => (lhs; whnf))) rfl ?_
        refine wl_val (v_add' rfl rfl rfl (by first | omega | (dsimp only at *; omega)) (by first | omega | (dsimp only at *; omega))) rfl ?_
        refine wl_val (v_assign' (by conv => (lhs; whnf))) rfl ?_
        refine wl_nil ?_
        refine then_go ?_
        have hch : nameCh n[i] := by unfold nameCh; omega
        refine ⟨q - 1, by simp; omega, i + 1, by omega, rfl, rfl, fun c hc => ?_, st⟩
        rw [List.take_succ_eq_append_getElem hi] at hc
        rcases List.mem_append.1 hc with h | h
        · exact hall c h
        · simp at h; rw [h]; exact hch
      · by_cases hC : n[i].toNat = 46
        · refine wc_region ?_
          refine wl_val (v_move' (by conv => (lhs; whnf))) rfl ?_
          refine wl_val (by first | exact v_geB (z := true) rfl rfl (decide_eq_true (by omega)).symm | exact v_geB (z := false) rfl rfl (decide_eq_false (by omega)).symm) rfl ?_
          refine wl_val (v_move' (by conv => (lhs; whnf))) rfl ?_
          refine wl_off rfl rfl rfl rfl ?_
          refine wl_off rfl rfl rfl rfl ?_
          refine wl_val (v_pick rfl) rfl ?_
          refine wl_val (v_move' (by conv => (lhs; whnf))) rfl ?_
          refine wl_on rfl rfl ?_
          refine wl_val (v_move' (by conv => (lhs; whnf))) rfl ?_
          refine wl_on rfl rfl ?_
          refine wl_val (by first | exact v_geB (z := true) rfl rfl (decide_eq_true (by omega)).symm | exact v_geB (z := false) rfl rfl (decide_eq_false (by omega)).symm) rfl ?_
          refine wl_on rfl rfl ?_
          refine wl_val (v_move' (by conv => (lhs; whnf))) rfl ?_
          refine wl_off rfl rfl rfl rfl ?_
          refine wl_off rfl rfl rfl rfl ?_
          refine wl_on rfl rfl ?_
          refine wl_val (v_pick rfl) rfl ?_
          refine wl_val (v_pick rfl) rfl ?_
          refine wl_val (v_move' (by conv => (lhs; whnf))) rfl ?_
          refine wl_on rfl rfl ?_
          refine wl_val (v_move' (by conv => (lhs; whnf))) rfl ?_
          refine wl_on rfl rfl ?_
          refine wl_val (by first | exact v_eqB (z := true) rfl rfl (decide_eq_true (by omega)).symm | exact v_eqB (z := false) rfl rfl (decide_eq_false (by omega)).symm) rfl ?_
          refine wl_val (v_pick rfl) rfl ?_
          refine wl_val (v_move' (by conv => (lhs; whnf))) rfl ?_
          refine wl_off rfl rfl rfl rfl ?_
          refine wl_off rfl rfl rfl rfl ?_
          refine wl_val (v_pick rfl) rfl ?_
          refine wl_val (v_not rfl) rfl ?_
          refine wl_nil ?_
          refine then_go ?_
          refine wc_false rfl ?_
          refine wc_skip ?_
          refine block_go (then_go ?_)
          refine wc_region ?_
          refine wl_val (v_move' (by conv => (lhs; whnf))) rfl ?_
          refine wl_val (v_add' rfl rfl rfl (by first | omega | (dsimp only at *; omega)) (by first | omega | (dsimp only at *; omega))) rfl ?_
          refine wl_val (v_assign' (by conv => (lhs; whnf))) rfl ?_
          refine wl_nil ?_
          refine then_go ?_
          have hch : nameCh n[i] := by unfold nameCh; omega
          refine ⟨q - 1, by simp; omega, i + 1, by omega, rfl, rfl, fun c hc => ?_, st⟩
          rw [List.take_succ_eq_append_getElem hi] at hc
          rcases List.mem_append.1 hc with h | h
          · exact hall c h
          · simp at h; rw [h]; exact hch
        · by_cases hE : n[i].toNat = 45
          · refine wc_region ?_
            refine wl_val (v_move' (by conv => (lhs; whnf))) rfl ?_
            refine wl_val (by first | exact v_geB (z := true) rfl rfl (decide_eq_true (by omega)).symm | exact v_geB (z := false) rfl rfl (decide_eq_false (by omega)).symm) rfl ?_
            refine wl_val (v_move' (by conv => (lhs; whnf))) rfl ?_
            refine wl_off rfl rfl rfl rfl ?_
            refine wl_off rfl rfl rfl rfl ?_
            refine wl_val (v_pick rfl) rfl ?_
            refine wl_val (v_move' (by conv => (lhs; whnf))) rfl ?_
            refine wl_on rfl rfl ?_
            refine wl_val (v_move' (by conv => (lhs; whnf))) rfl ?_
            refine wl_on rfl rfl ?_
            refine wl_val (by first | exact v_geB (z := true) rfl rfl (decide_eq_true (by omega)).symm | exact v_geB (z := false) rfl rfl (decide_eq_false (by omega)).symm) rfl ?_
            refine wl_on rfl rfl ?_
            refine wl_val (v_move' (by conv => (lhs; whnf))) rfl ?_
            refine wl_off rfl rfl rfl rfl ?_
            refine wl_off rfl rfl rfl rfl ?_
            refine wl_on rfl rfl ?_
            refine wl_val (v_pick rfl) rfl ?_
            refine wl_val (v_pick rfl) rfl ?_
            refine wl_val (v_move' (by conv => (lhs; whnf))) rfl ?_
            refine wl_on rfl rfl ?_
            refine wl_val (v_move' (by conv => (lhs; whnf))) rfl ?_
            refine wl_on rfl rfl ?_
            refine wl_val (by first | exact v_eqB (z := true) rfl rfl (decide_eq_true (by omega)).symm | exact v_eqB (z := false) rfl rfl (decide_eq_false (by omega)).symm) rfl ?_
            refine wl_val (v_pick rfl) rfl ?_
            refine wl_val (v_move' (by conv => (lhs; whnf))) rfl ?_
            refine wl_on rfl rfl ?_
            refine wl_val (v_move' (by conv => (lhs; whnf))) rfl ?_
            refine wl_on rfl rfl ?_
            refine wl_val (by first | exact v_eqB (z := true) rfl rfl (decide_eq_true (by omega)).symm | exact v_eqB (z := false) rfl rfl (decide_eq_false (by omega)).symm) rfl ?_
            refine wl_val (v_pick rfl) rfl ?_
            refine wl_val (v_not rfl) rfl ?_
            refine wl_nil ?_
            refine then_go ?_
            refine wc_false rfl ?_
            refine wc_skip ?_
            refine block_go (then_go ?_)
            refine wc_region ?_
            refine wl_val (v_move' (by conv => (lhs; whnf))) rfl ?_
            refine wl_val (v_add' rfl rfl rfl (by first | omega | (dsimp only at *; omega)) (by first | omega | (dsimp only at *; omega))) rfl ?_
            refine wl_val (v_assign' (by conv => (lhs; whnf))) rfl ?_
            refine wl_nil ?_
            refine then_go ?_
            have hch : nameCh n[i] := by unfold nameCh; omega
            refine ⟨q - 1, by simp; omega, i + 1, by omega, rfl, rfl, fun c hc => ?_, st⟩
            rw [List.take_succ_eq_append_getElem hi] at hc
            rcases List.mem_append.1 hc with h | h
            · exact hall c h
            · simp at h; rw [h]; exact hch
          · by_cases hF : 122 < n[i].toNat
            · refine wc_region ?_
              refine wl_val (v_move' (by conv => (lhs; whnf))) rfl ?_
              refine wl_val (by first | exact v_geB (z := true) rfl rfl (decide_eq_true (by omega)).symm | exact v_geB (z := false) rfl rfl (decide_eq_false (by omega)).symm) rfl ?_
              refine wl_val (v_move' (by conv => (lhs; whnf))) rfl ?_
              refine wl_on rfl rfl ?_
              refine wl_val (v_move' (by conv => (lhs; whnf))) rfl ?_
              refine wl_on rfl rfl ?_
              refine wl_val (by first | exact v_leB (z := true) rfl rfl (decide_eq_true (by omega)).symm | exact v_leB (z := false) rfl rfl (decide_eq_false (by omega)).symm) rfl ?_
              refine wl_val (v_pick rfl) rfl ?_
              refine wl_val (v_move' (by conv => (lhs; whnf))) rfl ?_
              refine wl_on rfl rfl ?_
              refine wl_val (v_move' (by conv => (lhs; whnf))) rfl ?_
              refine wl_on rfl rfl ?_
              refine wl_val (by first | exact v_geB (z := true) rfl rfl (decide_eq_true (by omega)).symm | exact v_geB (z := false) rfl rfl (decide_eq_false (by omega)).symm) rfl ?_
              refine wl_on rfl rfl ?_
              refine wl_val (v_move' (by conv => (lhs; whnf))) rfl ?_
              refine wl_on rfl rfl ?_
              refine wl_val (v_move' (by conv => (lhs; whnf))) rfl ?_
              refine wl_on rfl rfl ?_
              refine wl_val (by first | exact v_leB (z := true) rfl rfl (decide_eq_true (by omega)).symm | exact v_leB (z := false) rfl rfl (decide_eq_false (by omega)).symm) rfl ?_
              refine wl_on rfl rfl ?_
              refine wl_val (v_pick rfl) rfl ?_
              refine wl_val (v_pick rfl) rfl ?_
              refine wl_val (v_move' (by conv => (lhs; whnf))) rfl ?_
              refine wl_on rfl rfl ?_
              refine wl_val (v_move' (by conv => (lhs; whnf))) rfl ?_
              refine wl_on rfl rfl ?_
              refine wl_val (by first | exact v_eqB (z := true) rfl rfl (decide_eq_true (by omega)).symm | exact v_eqB (z := false) rfl rfl (decide_eq_false (by omega)).symm) rfl ?_
              refine wl_val (v_pick rfl) rfl ?_
              refine wl_val (v_move' (by conv => (lhs; whnf))) rfl ?_
              refine wl_on rfl rfl ?_
              refine wl_val (v_move' (by conv => (lhs; whnf))) rfl ?_
              refine wl_on rfl rfl ?_
              refine wl_val (by first | exact v_eqB (z := true) rfl rfl (decide_eq_true (by omega)).symm | exact v_eqB (z := false) rfl rfl (decide_eq_false (by omega)).symm) rfl ?_
              refine wl_val (v_pick rfl) rfl ?_
              refine wl_val (v_not rfl) rfl ?_
              refine wl_nil ?_
              refine then_go ?_
              refine wc_true rfl ?_
              refine wc_seq ?_
              refine wc_region ?_
              refine wl_val (v_assign' (by conv => (lhs; whnf))) rfl ?_
              refine wl_nil ?_
              refine then_go ?_
              refine wc_ret (block_ret (then_ret (then_ret (block_ret (then_ret ?_)))))
              exact ret1 rfl ⟨st.touch, by rw [show decide (okName n) = false from decide_eq_false (fun hc => by rcases hc.1 _ (List.getElem_mem hi) with h | h | h | h <;> omega)]; rfl⟩
            · by_cases hG : 58 ≤ n[i].toNat
              · refine wc_region ?_
                refine wl_val (v_move' (by conv => (lhs; whnf))) rfl ?_
                refine wl_val (by first | exact v_geB (z := true) rfl rfl (decide_eq_true (by omega)).symm | exact v_geB (z := false) rfl rfl (decide_eq_false (by omega)).symm) rfl ?_
                refine wl_val (v_move' (by conv => (lhs; whnf))) rfl ?_
                refine wl_off rfl rfl rfl rfl ?_
                refine wl_off rfl rfl rfl rfl ?_
                refine wl_val (v_pick rfl) rfl ?_
                refine wl_val (v_move' (by conv => (lhs; whnf))) rfl ?_
                refine wl_on rfl rfl ?_
                refine wl_val (v_move' (by conv => (lhs; whnf))) rfl ?_
                refine wl_on rfl rfl ?_
                refine wl_val (by first | exact v_geB (z := true) rfl rfl (decide_eq_true (by omega)).symm | exact v_geB (z := false) rfl rfl (decide_eq_false (by omega)).symm) rfl ?_
                refine wl_on rfl rfl ?_
                refine wl_val (v_move' (by conv => (lhs; whnf))) rfl ?_
                refine wl_on rfl rfl ?_
                refine wl_val (v_move' (by conv => (lhs; whnf))) rfl ?_
                refine wl_on rfl rfl ?_
                refine wl_val (by first | exact v_leB (z := true) rfl rfl (decide_eq_true (by omega)).symm | exact v_leB (z := false) rfl rfl (decide_eq_false (by omega)).symm) rfl ?_
                refine wl_on rfl rfl ?_
                refine wl_val (v_pick rfl) rfl ?_
                refine wl_val (v_pick rfl) rfl ?_
                refine wl_val (v_move' (by conv => (lhs; whnf))) rfl ?_
                refine wl_on rfl rfl ?_
                refine wl_val (v_move' (by conv => (lhs; whnf))) rfl ?_
                refine wl_on rfl rfl ?_
                refine wl_val (by first | exact v_eqB (z := true) rfl rfl (decide_eq_true (by omega)).symm | exact v_eqB (z := false) rfl rfl (decide_eq_false (by omega)).symm) rfl ?_
                refine wl_val (v_pick rfl) rfl ?_
                refine wl_val (v_move' (by conv => (lhs; whnf))) rfl ?_
                refine wl_on rfl rfl ?_
                refine wl_val (v_move' (by conv => (lhs; whnf))) rfl ?_
                refine wl_on rfl rfl ?_
                refine wl_val (by first | exact v_eqB (z := true) rfl rfl (decide_eq_true (by omega)).symm | exact v_eqB (z := false) rfl rfl (decide_eq_false (by omega)).symm) rfl ?_
                refine wl_val (v_pick rfl) rfl ?_
                refine wl_val (v_not rfl) rfl ?_
                refine wl_nil ?_
                refine then_go ?_
                refine wc_true rfl ?_
                refine wc_seq ?_
                refine wc_region ?_
                refine wl_val (v_assign' (by conv => (lhs; whnf))) rfl ?_
                refine wl_nil ?_
                refine then_go ?_
                refine wc_ret (block_ret (then_ret (then_ret (block_ret (then_ret ?_)))))
                exact ret1 rfl ⟨st.touch, by rw [show decide (okName n) = false from decide_eq_false (fun hc => by rcases hc.1 _ (List.getElem_mem hi) with h | h | h | h <;> omega)]; rfl⟩
              · refine wc_region ?_
                refine wl_val (v_move' (by conv => (lhs; whnf))) rfl ?_
                refine wl_val (by first | exact v_geB (z := true) rfl rfl (decide_eq_true (by omega)).symm | exact v_geB (z := false) rfl rfl (decide_eq_false (by omega)).symm) rfl ?_
                refine wl_val (v_move' (by conv => (lhs; whnf))) rfl ?_
                refine wl_off rfl rfl rfl rfl ?_
                refine wl_off rfl rfl rfl rfl ?_
                refine wl_val (v_pick rfl) rfl ?_
                refine wl_val (v_move' (by conv => (lhs; whnf))) rfl ?_
                refine wl_on rfl rfl ?_
                refine wl_val (v_move' (by conv => (lhs; whnf))) rfl ?_
                refine wl_on rfl rfl ?_
                refine wl_val (by first | exact v_geB (z := true) rfl rfl (decide_eq_true (by omega)).symm | exact v_geB (z := false) rfl rfl (decide_eq_false (by omega)).symm) rfl ?_
                refine wl_on rfl rfl ?_
                refine wl_val (v_move' (by conv => (lhs; whnf))) rfl ?_
                refine wl_off rfl rfl rfl rfl ?_
                refine wl_off rfl rfl rfl rfl ?_
                refine wl_on rfl rfl ?_
                refine wl_val (v_pick rfl) rfl ?_
                refine wl_val (v_pick rfl) rfl ?_
                refine wl_val (v_move' (by conv => (lhs; whnf))) rfl ?_
                refine wl_on rfl rfl ?_
                refine wl_val (v_move' (by conv => (lhs; whnf))) rfl ?_
                refine wl_on rfl rfl ?_
                refine wl_val (by first | exact v_eqB (z := true) rfl rfl (decide_eq_true (by omega)).symm | exact v_eqB (z := false) rfl rfl (decide_eq_false (by omega)).symm) rfl ?_
                refine wl_val (v_pick rfl) rfl ?_
                refine wl_val (v_move' (by conv => (lhs; whnf))) rfl ?_
                refine wl_on rfl rfl ?_
                refine wl_val (v_move' (by conv => (lhs; whnf))) rfl ?_
                refine wl_on rfl rfl ?_
                refine wl_val (by first | exact v_eqB (z := true) rfl rfl (decide_eq_true (by omega)).symm | exact v_eqB (z := false) rfl rfl (decide_eq_false (by omega)).symm) rfl ?_
                refine wl_val (v_pick rfl) rfl ?_
                refine wl_val (v_not rfl) rfl ?_
                refine wl_nil ?_
                refine then_go ?_
                refine wc_true rfl ?_
                refine wc_seq ?_
                refine wc_region ?_
                refine wl_val (v_assign' (by conv => (lhs; whnf))) rfl ?_
                refine wl_nil ?_
                refine then_go ?_
                refine wc_ret (block_ret (then_ret (then_ret (block_ret (then_ret ?_)))))
                exact ret1 rfl ⟨st.touch, by rw [show decide (okName n) = false from decide_eq_false (fun hc => by rcases hc.1 _ (List.getElem_mem hi) with h | h | h | h <;> omega)]; rfl⟩
  · refine wc_exit (then_exit (then_exit (block_hit ?_)))
    refine then_go ?_
    refine wc_seq ?_
    refine wc_region ?_
    refine wl_val (v_move' (by conv => (lhs; whnf))) rfl ?_
    refine wl_val (v_nes (b := []) rfl rfl) rfl ?_
    refine wl_val (v_move' (by conv => (lhs; whnf))) rfl ?_
    by_cases hg2 : ¬ n = []
    · rw [show decide (¬ n = []) = true from decide_eq_true hg2]
      refine wl_on rfl rfl ?_
      refine wl_val (v_move' (by conv => (lhs; whnf))) rfl ?_
      refine wl_on rfl rfl ?_
      refine wl_val (v_len_str Try.underlying9 rfl) rfl ?_
      refine wl_on rfl rfl ?_
      refine wl_val (v_leq rfl rfl) rfl ?_
      refine wl_val (v_pick rfl) rfl ?_
      refine wl_val (v_assign' (by conv => (lhs; whnf))) rfl ?_
      refine wl_nil ?_
      refine then_go ?_
      refine wc_ret ?_
      have hiN : i = n.length := by omega
      subst hiN
      rw [List.take_length] at hall
      refine ret1 rfl ⟨st.touch, ?_⟩
      first
        | (have e : decide (okName n) = decide ((n.length : Int) ≤ 32) := decide_eq_decide.2 ⟨fun h => by have := h.2.2; omega, fun h => ⟨hall, hg2, by omega⟩⟩
           rw [e]; rfl)
        | (rw [show decide (okName n) = false from decide_eq_false (fun hc => hg2 hc.2.1)]; rfl)
    · rw [show decide (¬ n = []) = false from decide_eq_false hg2]
      refine wl_off rfl rfl rfl rfl ?_
      refine wl_off rfl rfl rfl rfl ?_
      refine wl_off rfl rfl rfl rfl ?_
      refine wl_val (v_pick rfl) rfl ?_
      refine wl_val (v_assign' (by conv => (lhs; whnf))) rfl ?_
      refine wl_nil ?_
      refine then_go ?_
      refine wc_ret ?_
      have hiN : i = n.length := by omega
      subst hiN
      rw [List.take_length] at hall
      refine ret1 rfl ⟨st.touch, ?_⟩
      first
        | (have e : decide (okName n) = decide ((n.length : Int) ≤ 32) := decide_eq_decide.2 ⟨fun h => by have := h.2.2; omega, fun h => ⟨hall, hg2, by omega⟩⟩
           rw [e]; rfl)
        | (rw [show decide (okName n) = false from decide_eq_false (fun hc => hg2 hc.2.1)]; rfl)
end
end Go.Proofs.Ytjjpakjgppmmdaa

namespace Go.Proofs.Ytjjpakjgppmmdaa
open Go Go.RowKit K SH PT
structure Bd where
 name : By
 key : By
 serial : UInt64
 deriving DecidableEq
def bdC (b : Bd) (kv : Value) : List Value := [.string (strB b.name), kv, u64 b.serial]
def BdM (m : Mem) (v : Value) (b : Bd) : Prop := ∃ kv, v = .agg (bdC b kv).toArray ∧ SlM m kv 1 b.key.length (bs b.key) ∧ b.name.length ≤ 9223372036854775807
theorem BdM.mono {m m' : Mem} {v : Value} {b : Bd} (h : BdM m v b) (hm : ∀ k o, m k = some o → m' k = some o) : BdM m' v b := by
 obtain ⟨kv, h1, h2, h3⟩ := h
 exact ⟨kv, h1, h2.mono hm, h3⟩
def checkE (n key : By) : Int := if ¬ okName n then 4 else if key.length = 0 ∨ 64 < key.length then 5 else 0
def rightP (p : Prf) : Prop := p.S.length ≤ 256 ∧ (p.E = 1 ∨ p.E = 0 ∧ p.I = z32 ∧ p.V = z32)
instance {p : Prf} : Decidable (rightP p) := by unfold rightP; infer_instance
def endB (p : Prf) : By := if p.E = 1 then 76 :: (p.I ++ p.V) else [69]
section
variable {m : Mem} {wI : World}
theorem c_reccheck {v : Value} {b : Bd} (him : Im m wI) (hb : BdM m v b) : Ret Try.prog 48 #[v] wI fun v' w' => Tch wI w' [] [] ∧ v' = .int .i64 (checkE b.name b.key) := by
 have st := St.start him
 obtain ⟨kv, rfl, hk, hn⟩ := hb
 obtain ⟨_, ka, kc, rfl, _⟩ := id hk
 refine ret_of Try.call48 Try.func48 rfl Try.ntmps48 Try.results48 rfl ?_
 refine wc_seq ?_
 refine wc_region ?_
 refine wl_box (v := .agg (bdC b (.slice ka b.key.length kc)).toArray) rfl st rfl ?_
 intro b1 w st
 refine wl_val (v_assign' (by conv => (lhs; whnf))) rfl ?_
 refine wl_nil ?_
 refine then_go ?_
 refine wc_seq ?_
 refine wc_block ?_
 refine wc_seq ?_
 refine wc_region ?_
 refine wl_val (v_fa TF.f43_0 rfl) rfl ?_
 refine wl_val (v_load rfl (st.reads (v := .string (strB b.name)) 0 rfl TF.t9 rfl)) rfl ?_
 refine wl_call rfl (c_recname st.im hn) rfl ?_
 rintro v6 w ⟨t6, rfl⟩
 have st := st.pure t6
 refine wl_val (v_not rfl) rfl ?_
 refine wl_val (v_assign' (by conv => (lhs; whnf))) rfl ?_
 refine wl_nil ?_
 refine then_go ?_
 refine wc_cond rfl (fun h3 => ?_) (fun h3 => ?_)
 ·refine wc_seq ?_
  refine wc_region ?_
  refine wl_val (v_assign' (by conv => (lhs; whnf))) rfl ?_
  refine wl_nil ?_
  refine then_go ?_
  refine wc_ret (block_ret (then_ret ?_))
  have hno : ¬ okName b.name := by simpa using h3
  exact ret1 rfl ⟨(st.keepOnly (l := []) (List.nil_sublist _)).touch, by rw [checkE, if_pos hno]; rfl⟩
 ·refine wc_seq ?_
  refine wc_region ?_
  refine wl_val (v_fa TF.f43_1 rfl) rfl ?_
  refine wl_val (v_load rfl (st.reads (v := .slice ka b.key.length kc) 0 rfl TF.t41 rfl)) rfl ?_
  refine wl_val (v_len_s Try.underlying41 rfl) rfl ?_
  refine wl_val (v_eql rfl rfl) rfl ?_
  refine wl_val (v_move' (by conv => (lhs; whnf))) rfl ?_
  by_cases hg4 : (b.key.length : Int) = 0
  ·rw [show decide ((b.key.length : Int) = 0) = true from decide_eq_true hg4]
   refine wl_off rfl rfl rfl rfl ?_
   refine wl_off rfl rfl rfl rfl ?_
   refine wl_off rfl rfl rfl rfl ?_
   refine wl_off rfl rfl rfl rfl ?_
   refine wl_val (v_pick rfl) rfl ?_
   refine wl_val (v_assign' (by conv => (lhs; whnf))) rfl ?_
   refine wl_nil ?_
   refine then_go ?_
   refine wc_true rfl ?_
   refine wc_seq ?_
   refine wc_region ?_
   refine wl_val (v_assign' (by conv => (lhs; whnf))) rfl ?_
   refine wl_nil ?_
   refine then_go ?_
   refine wc_ret (block_ret (then_ret ?_))
   have hyes : okName b.name := by simpa using h3
   exact ret1 rfl ⟨(st.keepOnly (l := []) (List.nil_sublist _)).touch, by rw [checkE, if_neg (not_not_intro hyes), if_pos (.inl (by omega))]; rfl⟩
  ·rw [show decide ((b.key.length : Int) = 0) = false from decide_eq_false hg4]
   refine wl_on rfl rfl ?_
   refine wl_val (v_fa TF.f43_1 rfl) rfl ?_
   refine wl_on rfl rfl ?_
   refine wl_val (v_load rfl (st.reads (v := .slice ka b.key.length kc) 0 rfl TF.t41 rfl)) rfl ?_
   refine wl_on rfl rfl ?_
   refine wl_val (v_len_s Try.underlying41 rfl) rfl ?_
   refine wl_on rfl rfl ?_
   refine wl_val (v_gtr rfl rfl) rfl ?_
   refine wl_val (v_pick rfl) rfl ?_
   refine wl_val (v_assign' (by conv => (lhs; whnf))) rfl ?_
   refine wl_nil ?_
   refine then_go ?_
   refine wc_if rfl (fun h8 => ?_) (fun h8 => ?_)
   ·refine wc_seq ?_
    refine wc_region ?_
    refine wl_val (v_assign' (by conv => (lhs; whnf))) rfl ?_
    refine wl_nil ?_
    refine then_go ?_
    refine wc_ret (block_ret (then_ret ?_))
    have hyes : okName b.name := by simpa using h3
    exact ret1 rfl ⟨(st.keepOnly (l := []) (List.nil_sublist _)).touch, by rw [checkE, if_neg (not_not_intro hyes), if_pos (.inr (by omega))]; rfl⟩
   ·refine wc_skip ?_
    refine block_go (then_go ?_)
    refine wc_seq ?_
    refine wc_region ?_
    refine wl_val (v_assign' (by conv => (lhs; whnf))) rfl ?_
    refine wl_nil ?_
    refine then_go ?_
    refine wc_ret ?_
    have hyes : okName b.name := by simpa using h3
    exact ret1 rfl ⟨(st.keepOnly (l := []) (List.nil_sublist _)).touch, by rw [checkE, if_neg (not_not_intro hyes), if_neg (by omega)]; rfl⟩
theorem v_z32 {r : Fr} {w : World} {ty : TypeId} : Val Try.prog (.build 23 #[]) ty r w (arr z32) w :=
 v_build_a (c' := (bs z32).toArray) [] TF.z23 Try.underlying23 TF.t5 rfl rfl
theorem c_right {v : Value} {p : Prf} (him : Im m wI) (hp : PrM m v p) : Ret Try.prog 74 #[v] wI fun v' w' => Tch wI w' [] [] ∧ v' = .bool (decide (rightP p)) := by
 have st := St.start him
 obtain ⟨sv, rfl, hs, hI, hV⟩ := hp
 obtain ⟨sa, sc, rfl⟩ := hs.sl
 refine ret_of Try.call74 Try.func74 rfl Try.ntmps74 Try.results74 rfl ?_
 refine wc_seq ?_
 refine wc_region ?_
 refine wl_box (v := .agg (prC (.slice sa p.S.length sc) p.E p.I p.V)) rfl st rfl ?_
 intro b1 w st
 refine wl_val (v_assign' (by conv => (lhs; whnf))) rfl ?_
 refine wl_nil ?_
 refine then_go ?_
 refine wc_seq ?_
 refine wc_region ?_
 refine wl_val (v_fa TF.f40_2 rfl) rfl ?_
 refine wl_val (v_load rfl (st.reads (v := arr p.I) 0 rfl TF.t23 (prC_I hI))) rfl ?_
 refine wl_val v_z32 rfl ?_
 refine wl_val (v_eqD rfl rfl hI rfl) rfl ?_
 refine wl_val (v_move' (by conv => (lhs; whnf))) rfl ?_
 by_cases hg4 : p.I = z32
 ·rw [show decide (p.I = z32) = true from decide_eq_true hg4]
  refine wl_on rfl rfl ?_
  refine wl_val (v_fa TF.f40_3 rfl) rfl ?_
  refine wl_on rfl rfl ?_
  refine wl_val (v_load rfl (st.reads (v := arr p.V) 0 rfl TF.t23 (prC_V hI hV))) rfl ?_
  refine wl_on rfl rfl ?_
  refine wl_val v_z32 rfl ?_
  refine wl_on rfl rfl ?_
  refine wl_val (v_eqD rfl rfl hV rfl) rfl ?_
  refine wl_val (v_pick rfl) rfl ?_
  refine wl_val (v_assign' (by conv => (lhs; whnf))) rfl ?_
  refine wl_nil ?_
  refine then_go ?_
  refine wc_seq ?_
  have hI0 := hg4
  refine wc_region ?_
  refine wl_val (v_fa TF.f40_0 rfl) rfl ?_
  refine wl_val (v_load rfl (st.reads (v := .slice sa p.S.length sc) 0 rfl TF.t38 prC_S)) rfl ?_
  refine wl_val (v_len_s Try.underlying38 rfl) rfl ?_
  refine wl_val (v_leq rfl rfl) rfl ?_
  refine wl_val (v_move' (by conv => (lhs; whnf))) rfl ?_
  by_cases hg4 : (p.S.length : Int) ≤ 256
  ·rw [show decide ((p.S.length : Int) ≤ 256) = true from decide_eq_true hg4]
   refine wl_on rfl rfl ?_
   refine wl_val (v_fa TF.f40_1 rfl) rfl ?_
   refine wl_on rfl rfl ?_
   refine wl_val (v_load rfl (st.reads (v := .int .i64 p.E) 0 rfl TF.t3 prC_E)) rfl ?_
   refine wl_on rfl rfl ?_
   refine wl_val (v_eql rfl rfl) rfl ?_
   refine wl_on rfl rfl ?_
   refine wl_val (v_move' (by conv => (lhs; whnf))) rfl ?_
   by_cases hg8 : p.E = 1
   ·rw [show decide (p.E = 1) = true from decide_eq_true hg8]
    refine wl_off rfl rfl rfl rfl ?_
    refine wl_off rfl rfl rfl rfl ?_
    refine wl_off rfl rfl rfl rfl ?_
    refine wl_off rfl rfl rfl rfl ?_
    refine offU rfl rfl rfl ?_
    refine wl_off rfl rfl rfl rfl ?_
    refine wl_on rfl rfl ?_
    refine wl_val (v_pick rfl) rfl ?_
    refine wl_val (v_pick rfl) rfl ?_
    refine wl_val (v_assign' (by conv => (lhs; whnf))) rfl ?_
    refine wl_nil ?_
    refine then_go ?_
    refine wc_ret ?_
    exact ret1 rfl ⟨(st.keepOnly (l := []) (List.nil_sublist _)).touch, by rw [show decide (rightP p) = true from decide_eq_true ⟨by omega, .inl hg8⟩]; rfl⟩
   ·rw [show decide (p.E = 1) = false from decide_eq_false hg8]
    refine wl_on rfl rfl ?_
    refine wl_val (v_fa TF.f40_1 rfl) rfl ?_
    refine wl_on rfl rfl ?_
    refine wl_val (v_load rfl (st.reads (v := .int .i64 p.E) 0 rfl TF.t3 prC_E)) rfl ?_
    refine wl_on rfl rfl ?_
    refine wl_val (v_eql rfl rfl) rfl ?_
    refine wl_on rfl rfl ?_
    refine wl_val (v_move' (by conv => (lhs; whnf))) rfl ?_
    by_cases hg12 : p.E = 0
    ·rw [show decide (p.E = 0) = true from decide_eq_true hg12]
     refine wl_on rfl rfl ?_
     refine wl_val (v_move' (by conv => (lhs; whnf))) rfl ?_
     refine wl_on rfl rfl ?_
     refine wl_val (v_pick rfl) rfl ?_
     refine wl_on rfl rfl ?_
     refine wl_val (v_pick rfl) rfl ?_
     refine wl_val (v_pick rfl) rfl ?_
     refine wl_val (v_assign' (by conv => (lhs; whnf))) rfl ?_
     refine wl_nil ?_
     refine then_go ?_
     refine wc_ret ?_
     exact ret1 rfl ⟨(st.keepOnly (l := []) (List.nil_sublist _)).touch, by rw [show decide (rightP p) = decide (p.V = z32) from decide_eq_decide.2 ⟨fun h => (h.2.resolve_left hg8).2.2, fun h => ⟨by omega, .inr ⟨hg12, hI0, h⟩⟩⟩]; rfl⟩
    ·rw [show decide (p.E = 0) = false from decide_eq_false hg12]
     refine wl_off rfl rfl rfl rfl ?_
     refine wl_on rfl rfl ?_
     refine wl_val (v_pick rfl) rfl ?_
     refine wl_on rfl rfl ?_
     refine wl_val (v_pick rfl) rfl ?_
     refine wl_val (v_pick rfl) rfl ?_
     refine wl_val (v_assign' (by conv => (lhs; whnf))) rfl ?_
     refine wl_nil ?_
     refine then_go ?_
     refine wc_ret ?_
     exact ret1 rfl ⟨(st.keepOnly (l := []) (List.nil_sublist _)).touch, by rw [show decide (rightP p) = false from decide_eq_false (fun h => hg12 (h.2.resolve_left hg8).1)]; rfl⟩
  ·rw [show decide ((p.S.length : Int) ≤ 256) = false from decide_eq_false hg4]
   refine wl_off rfl rfl rfl rfl ?_
   refine wl_off rfl rfl rfl rfl ?_
   refine wl_off rfl rfl rfl rfl ?_
   refine wl_off rfl rfl rfl rfl ?_
   refine offU rfl rfl rfl ?_
   refine offU rfl rfl rfl ?_
   refine offU rfl rfl rfl ?_
   refine offU rfl rfl rfl ?_
   refine offU rfl rfl rfl ?_
   refine offU rfl rfl rfl ?_
   refine wl_off rfl rfl rfl rfl ?_
   refine wl_val (v_pick rfl) rfl ?_
   refine wl_val (v_assign' (by conv => (lhs; whnf))) rfl ?_
   refine wl_nil ?_
   refine then_go ?_
   refine wc_ret ?_
   exact ret1 rfl ⟨(st.keepOnly (l := []) (List.nil_sublist _)).touch, by rw [show decide (rightP p) = false from decide_eq_false (fun h => by have := h.1; omega)]; rfl⟩
 ·rw [show decide (p.I = z32) = false from decide_eq_false hg4]
  refine wl_off rfl rfl rfl rfl ?_
  refine wl_off rfl rfl rfl rfl ?_
  refine wl_off rfl rfl rfl rfl ?_
  refine wl_off rfl rfl rfl rfl ?_
  refine wl_val (v_pick rfl) rfl ?_
  refine wl_val (v_assign' (by conv => (lhs; whnf))) rfl ?_
  refine wl_nil ?_
  refine then_go ?_
  refine wc_seq ?_
  have hI0 := hg4
  refine wc_region ?_
  refine wl_val (v_fa TF.f40_0 rfl) rfl ?_
  refine wl_val (v_load rfl (st.reads (v := .slice sa p.S.length sc) 0 rfl TF.t38 prC_S)) rfl ?_
  refine wl_val (v_len_s Try.underlying38 rfl) rfl ?_
  refine wl_val (v_leq rfl rfl) rfl ?_
  refine wl_val (v_move' (by conv => (lhs; whnf))) rfl ?_
  by_cases hg4 : (p.S.length : Int) ≤ 256
  ·rw [show decide ((p.S.length : Int) ≤ 256) = true from decide_eq_true hg4]
   refine wl_on rfl rfl ?_
   refine wl_val (v_fa TF.f40_1 rfl) rfl ?_
   refine wl_on rfl rfl ?_
   refine wl_val (v_load rfl (st.reads (v := .int .i64 p.E) 0 rfl TF.t3 prC_E)) rfl ?_
   refine wl_on rfl rfl ?_
   refine wl_val (v_eql rfl rfl) rfl ?_
   refine wl_on rfl rfl ?_
   refine wl_val (v_move' (by conv => (lhs; whnf))) rfl ?_
   by_cases hg8 : p.E = 1
   ·rw [show decide (p.E = 1) = true from decide_eq_true hg8]
    refine wl_off rfl rfl rfl rfl ?_
    refine wl_off rfl rfl rfl rfl ?_
    refine wl_off rfl rfl rfl rfl ?_
    refine wl_off rfl rfl rfl rfl ?_
    refine offU rfl rfl rfl ?_
    refine wl_off rfl rfl rfl rfl ?_
    refine wl_on rfl rfl ?_
    refine wl_val (v_pick rfl) rfl ?_
    refine wl_val (v_pick rfl) rfl ?_
    refine wl_val (v_assign' (by conv => (lhs; whnf))) rfl ?_
    refine wl_nil ?_
    refine then_go ?_
    refine wc_ret ?_
    exact ret1 rfl ⟨(st.keepOnly (l := []) (List.nil_sublist _)).touch, by rw [show decide (rightP p) = true from decide_eq_true ⟨by omega, .inl hg8⟩]; rfl⟩
   ·rw [show decide (p.E = 1) = false from decide_eq_false hg8]
    refine wl_on rfl rfl ?_
    refine wl_val (v_fa TF.f40_1 rfl) rfl ?_
    refine wl_on rfl rfl ?_
    refine wl_val (v_load rfl (st.reads (v := .int .i64 p.E) 0 rfl TF.t3 prC_E)) rfl ?_
    refine wl_on rfl rfl ?_
    refine wl_val (v_eql rfl rfl) rfl ?_
    refine wl_on rfl rfl ?_
    refine wl_val (v_move' (by conv => (lhs; whnf))) rfl ?_
    by_cases hg12 : p.E = 0
    ·rw [show decide (p.E = 0) = true from decide_eq_true hg12]
     refine wl_on rfl rfl ?_
     refine wl_val (v_move' (by conv => (lhs; whnf))) rfl ?_
     refine wl_on rfl rfl ?_
     refine wl_val (v_pick rfl) rfl ?_
     refine wl_on rfl rfl ?_
     refine wl_val (v_pick rfl) rfl ?_
     refine wl_val (v_pick rfl) rfl ?_
     refine wl_val (v_assign' (by conv => (lhs; whnf))) rfl ?_
     refine wl_nil ?_
     refine then_go ?_
     refine wc_ret ?_
     exact ret1 rfl ⟨(st.keepOnly (l := []) (List.nil_sublist _)).touch, by rw [show decide (rightP p) = false from decide_eq_false (fun h => hI0 (h.2.resolve_left hg8).2.1)]; rfl⟩
    ·rw [show decide (p.E = 0) = false from decide_eq_false hg12]
     refine wl_off rfl rfl rfl rfl ?_
     refine wl_on rfl rfl ?_
     refine wl_val (v_pick rfl) rfl ?_
     refine wl_on rfl rfl ?_
     refine wl_val (v_pick rfl) rfl ?_
     refine wl_val (v_pick rfl) rfl ?_
     refine wl_val (v_assign' (by conv => (lhs; whnf))) rfl ?_
     refine wl_nil ?_
     refine then_go ?_
     refine wc_ret ?_
     exact ret1 rfl ⟨(st.keepOnly (l := []) (List.nil_sublist _)).touch, by rw [show decide (rightP p) = false from decide_eq_false (fun h => hg12 (h.2.resolve_left hg8).1)]; rfl⟩
  ·rw [show decide ((p.S.length : Int) ≤ 256) = false from decide_eq_false hg4]
   refine wl_off rfl rfl rfl rfl ?_
   refine wl_off rfl rfl rfl rfl ?_
   refine wl_off rfl rfl rfl rfl ?_
   refine wl_off rfl rfl rfl rfl ?_
   refine offU rfl rfl rfl ?_
   refine offU rfl rfl rfl ?_
   refine offU rfl rfl rfl ?_
   refine offU rfl rfl rfl ?_
   refine offU rfl rfl rfl ?_
   refine offU rfl rfl rfl ?_
   refine wl_off rfl rfl rfl rfl ?_
   refine wl_val (v_pick rfl) rfl ?_
   refine wl_val (v_assign' (by conv => (lhs; whnf))) rfl ?_
   refine wl_nil ?_
   refine then_go ?_
   refine wc_ret ?_
   exact ret1 rfl ⟨(st.keepOnly (l := []) (List.nil_sublist _)).touch, by rw [show decide (rightP p) = false from decide_eq_false (fun h => by have := h.1; omega)]; rfl⟩
theorem c_end {v : Value} {p : Prf} (him : Im m wI) (hp : PrM m v p) : Ret Try.prog 82 #[v] wI fun v' w' => Out m wI w' fun m' => SlM m' v' 1 (endB p).length (bs (endB p)) := by
 have st := St.start him
 obtain ⟨sv, rfl, hs, hI, hV⟩ := hp
 refine ret_of Try.call82 Try.func82 rfl Try.ntmps82 Try.results82 rfl ?_
 refine wc_seq ?_
 refine wc_region ?_
 refine wl_box (v := .agg (prC sv p.E p.I p.V)) rfl st rfl ?_
 intro b1 w st
 refine wl_val (v_assign' (by conv => (lhs; whnf))) rfl ?_
 refine wl_nil ?_
 refine then_go ?_
 refine wc_seq ?_
 refine wc_seq ?_
 refine wc_region ?_
 refine wl_val (v_fa TF.f40_1 rfl) rfl ?_
 refine wl_val (v_load rfl (st.reads (v := .int .i64 p.E) 0 rfl TF.t3 prC_E)) rfl ?_
 refine wl_val (v_eql rfl rfl) rfl ?_
 refine wl_nil ?_
 refine then_go ?_
 refine wc_if rfl (fun h5 => ?_) (fun h5 => ?_)
 ·refine wc_seq ?_
  refine wc_region ?_
  refine wl_val (v_fa TF.f40_2 rfl) rfl ?_
  refine wl_val (v_load rfl (st.reads (v := arr p.I) 0 rfl TF.t23 (prC_I hI))) rfl ?_
  refine wl_val (v_fa TF.f40_3 rfl) rfl ?_
  refine wl_val (v_load rfl (st.reads (v := arr p.V) 0 rfl TF.t23 (prC_V hI hV))) rfl ?_
  refine wl_call rfl (c_leafb st.im hI hV) rfl ?_
  rintro v10 w ⟨t10, m1, hg1, hi1, hb⟩
  have st := st.grown hg1 t10 hi1
  refine wl_val (v_assign' (by conv => (lhs; whnf))) rfl ?_
  refine wl_nil ?_
  refine then_go ?_
  refine wc_ret (then_ret ?_)
  exact ret1 rfl ((st.keepOnly (l := []) (List.nil_sublist _)).out (by rw [endB, if_pos h5]; exact hb))
 ·refine wc_skip ?_
  refine then_go ?_
  refine wc_seq ?_
  refine wc_region ?_
  refine wl_call rfl (c_emptyb st.im) rfl ?_
  rintro v11 w ⟨t11, m1, hg1, hi1, hb⟩
  have st := st.grown hg1 t11 hi1
  refine wl_val (v_assign' (by conv => (lhs; whnf))) rfl ?_
  refine wl_nil ?_
  refine then_go ?_
  refine wc_ret ?_
  exact ret1 rfl ((st.keepOnly (l := []) (List.nil_sublist _)).out (by rw [endB, if_neg h5]; exact hb))
end
end Go.Proofs.Ytjjpakjgppmmdaa

namespace Go.Proofs.Ytjjpakjgppmmdaa
open Go Go.RowKit K SH PT
section
variable {m : Mem} {wI : World}
theorem c_under {a b : By} {n : Int} (him : Im m wI) (ha : a.length = 32) (hb : b.length = 32) : Ret Try.prog 75 #[arr a, arr b, .int .i64 n] wI fun v w' => Tch wI w' [] [] ∧ v = .bool (decide (n ≤ (common a b : Int))) := by
 have st := St.start him
 refine ret_of Try.call75 Try.func75 rfl Try.ntmps75 Try.results75 rfl ?_
 refine wc_seq ?_
 refine wc_region ?_
 refine wl_box (v := arr a) rfl st rfl ?_
 intro b3 w st
 refine wl_box (v := arr b) rfl st rfl ?_
 intro b4 w st
 refine wl_val (v_assign' (by conv => (lhs; whnf))) rfl ?_
 refine wl_nil ?_
 refine then_go ?_
 refine wc_seq ?_
 refine wc_region ?_
 refine wl_val (v_load rfl (st.reads (v := arr a) 1 rfl TF.t23 (getV_all (by rw [size_arr, ha])))) rfl ?_
 refine wl_val (v_load rfl (st.reads (v := arr b) 0 rfl TF.t23 (getV_all (by rw [size_arr, hb])))) rfl ?_
 refine wl_call rfl (c_common st.im ha hb) rfl ?_
 rintro v9 w ⟨t9, rfl⟩
 have st := st.pure t9
 refine wl_val (v_move' (by conv => (lhs; whnf))) rfl ?_
 refine wl_val (v_geq rfl rfl) rfl ?_
 refine wl_val (v_assign' (by conv => (lhs; whnf))) rfl ?_
 refine wl_nil ?_
 refine then_go ?_
 refine wc_ret ?_
 exact ret1 rfl ⟨(st.keepOnly (l := []) (List.nil_sublist _)).touch, rfl⟩
end
end Go.Proofs.Ytjjpakjgppmmdaa

namespace Go.Proofs.Ytjjpakjgppmmdaa
open Go Go.RowKit K SH PT
def revK (xs : List Value) (k : Nat) : List Value := (List.range xs.length).map fun j => if j < k ∨ xs.length - k ≤ j then xs.getD (xs.length - 1 - j) undef else xs.getD j undef
theorem length_revK {xs : List Value} {k : Nat} : (revK xs k).length = xs.length := by simp [revK]
theorem get_revK {xs : List Value} {k j : Nat} (h : j < xs.length) : (revK xs k)[j]? = some (if j < k ∨ xs.length - k ≤ j then xs.getD (xs.length - 1 - j) undef else xs.getD j undef) := by
 simp [revK, h]
theorem revK_zero {xs : List Value} : revK xs 0 = xs := by
 refine List.ext_getElem? fun j => ?_
 by_cases h : j < xs.length
 ·rw [get_revK h, if_neg (by omega)]
  simp [List.getD, h]
 ·rw [List.getElem?_eq_none (by rw [length_revK]; omega), List.getElem?_eq_none (by omega)]
theorem revK_end {xs : List Value} {k : Nat} (hk : xs.length ≤ 2 * k + 1) : revK xs k = xs.reverse := by
 refine List.ext_getElem? fun j => ?_
 by_cases h : j < xs.length
 ·rw [get_revK h, List.getElem?_reverse h]
  by_cases hc : j < k ∨ xs.length - k ≤ j
  ·rw [if_pos hc]
   simp [List.getD, show xs.length - 1 - j < xs.length by omega]
  ·rw [if_neg hc, show xs.length - 1 - j = j by omega]
   simp [List.getD, h]
 ·rw [List.getElem?_eq_none (by rw [length_revK]; omega), List.getElem?_eq_none (by simp; omega)]
theorem revK_step {xs sp : List Value} {k : Nat} (hk : k < xs.length - 1 - k) :
  ((revK xs k ++ sp).toArray.setIfInBounds k (xs.getD (xs.length - 1 - k) undef)).setIfInBounds (xs.length - 1 - k) (xs.getD k undef) = (revK xs (k + 1) ++ sp).toArray := by
 apply Array.ext'
 simp only [Array.toList_setIfInBounds]
 refine List.ext_getElem? fun j => ?_
 have hl : (revK xs k ++ sp).length = xs.length + sp.length := by rw [List.length_append, length_revK]
 by_cases h1 : j = xs.length - 1 - k
 ·subst h1
  rw [List.getElem?_set_self (by simp only [List.length_set]; omega), List.getElem?_append_left (by rw [length_revK]; omega), get_revK (by omega), if_pos (by omega), show xs.length - 1 - (xs.length - 1 - k) = k by omega]
 ·rw [List.getElem?_set_ne (by omega)]
  by_cases h2 : j = k
  ·subst h2
   rw [List.getElem?_set_self (by omega), List.getElem?_append_left (by rw [length_revK]; omega), get_revK (by omega), if_pos (by omega)]
  ·rw [List.getElem?_set_ne (by omega)]
   by_cases h3 : j < xs.length
   ·rw [List.getElem?_append_left (by rw [length_revK]; omega), List.getElem?_append_left (by rw [length_revK]; omega), get_revK h3, get_revK h3]
    by_cases h4 : j < k ∨ xs.length - k ≤ j
    ·rw [if_pos h4, if_pos (by omega)]
    ·rw [if_neg h4, if_neg (by omega)]
   ·rw [List.getElem?_append_right (by rw [length_revK]; omega), List.getElem?_append_right (by rw [length_revK]; omega), length_revK, length_revK]
section
variable {m : Mem} {wI : World}
theorem c_reverse {g cap : Nat} {xs sp : List Value} (him : Im m wI) (hE : (K.blk g (xs ++ sp).toArray 41).holds wI) (hm : m g = none) (h1 : ∀ u ∈ xs, u.oneCell' = true) (hn : xs.length ≤ 1000000) :
  Ret Try.prog 85 #[.slice (some ⟨g, 0, none⟩) xs.length cap] wI fun _ w' => Tch wI w' [g] [g] ∧ (K.blk g (xs.reverse ++ sp).toArray 41).holds w' := by
 have st := St.startE him hE (by simpa [K.blk] using hm)
 refine ret_of Try.call85 Try.func85 rfl Try.ntmps85 Try.results85 rfl ?_
 refine wc_seq ?_
 refine wc_region ?_
 refine wl_val (v_move' (by conv => (lhs; whnf))) rfl ?_
 refine wl_val (v_len_s Try.underlying102 rfl) rfl ?_
 refine wl_val (v_sub' (c := (xs.length : Int) - 1) rfl rfl rfl (by omega) (by omega)) rfl ?_
 refine wl_val (v_assign' (by conv => (lhs; whnf))) rfl ?_
 refine wl_val (v_assign' (by conv => (lhs; whnf))) rfl ?_
 refine wl_nil ?_
 refine then_go ?_
 refine wc_block ?_
 refine wc_loop (S := Nat) (fun q r w' => ∃ (k : Nat), q + k = xs.length ∧ r 0 = .slice (some ⟨g, 0, none⟩) xs.length cap ∧ r 2 = .int .i64 k ∧ r 3 = .int .i64 ((xs.length : Int) - 1 - k) ∧ St m m [g] wI w' [K.blk g (revK xs k ++ sp).toArray 41]) id xs.length ⟨0, by omega, rfl, rfl, by simp; rfl, by rw [revK_zero]; exact st⟩ ?_
 rintro q r w2 ⟨k, hqk, g0, g2, g3, st⟩
 refine wc_o 0 g0 (wc_o 2 g2 (wc_o 3 g3 ?_))
 refine wc_seq ?_
 refine wc_seq ?_
 refine wc_region ?_
 refine wl_val (v_move' (by conv => (lhs; whnf))) rfl ?_
 refine wl_val (v_move' (by conv => (lhs; whnf))) rfl ?_
 refine wl_val (v_lss rfl rfl) rfl ?_
 refine wl_nil ?_
 refine then_go ?_
 refine wc_if rfl (fun h9 => ?_) (fun h9 => ?_)
 ·refine wc_skip ?_
  refine then_go ?_
  refine wc_seq ?_
  refine wc_block ?_
  have hk : k < xs.length - 1 - k := by omega
  have hl : (revK xs k ++ sp).length = xs.length + sp.length := by rw [List.length_append, length_revK]
  have ga : (revK xs k ++ sp)[xs.length - 1 - k]? = some (xs.getD (xs.length - 1 - k) undef) := by rw [List.getElem?_append_left (by rw [length_revK]; omega), get_revK (by omega), if_neg (by omega)]
  have gb : (revK xs k ++ sp)[k]? = some (xs.getD k undef) := by rw [List.getElem?_append_left (by rw [length_revK]; omega), get_revK (by omega), if_neg (by omega)]
  have oa : (xs.getD (xs.length - 1 - k) undef).oneCell' = true := h1 _ (by simp only [List.getD, List.getElem?_eq_getElem (show xs.length - 1 - k < xs.length by omega), Option.getD_some]; exact List.getElem_mem _)
  have ob : (xs.getD k undef).oneCell' = true := h1 _ (by simp only [List.getD, List.getElem?_eq_getElem (show k < xs.length by omega), Option.getD_some]; exact List.getElem_mem _)
  refine wc_draw TF.mixed ?_
  have st := st.pure (touch_drew _)
  refine fl_val 0 rfl (fun _ => (v_move' (by conv => (lhs; whnf)))) rfl (by kernel_rfl) ?_
  refine fl_val 1 rfl (fun _ => (v_move' (by conv => (lhs; whnf)))) rfl (by kernel_rfl) ?_
  refine fl_val 2 rfl (fun _ => (v_move' (by conv => (lhs; whnf)))) rfl (by kernel_rfl) ?_
  refine fl_val 3 rfl (fun _ => (v_move' (by conv => (lhs; whnf)))) rfl (by kernel_rfl) ?_
  refine fl_val 4 rfl (fun _ => (v_move' (by conv => (lhs; whnf)))) rfl (by kernel_rfl) ?_
  refine fl_val 5 rfl (fun _ => (v_move' (by conv => (lhs; whnf)))) rfl (by kernel_rfl) ?_
  refine fl_val 6 rfl (fun _ => (v_ias (xs.length - 1 - k) Try.underlying102 TF.t41 rfl rfl (by first | rfl | omega) (by first | omega | (dsimp only at *; omega)))) rfl (by kernel_rfl) ?_
  refine fl_ld 7 rfl (v_load rfl (st.reads (b := g) (c := (revK xs k ++ sp).toArray) (v := xs.getD (xs.length - 1 - k) undef) 0 rfl TF.t41 (by unfold getV; rw [if_neg (by simp), show 0 + (xs.length - 1 - k) * 1 = xs.length - 1 - k by omega]; exact ga))) (by kernel_rfl) ?_
  refine fl_val 8 rfl (fun _ => (v_move' (by conv => (lhs; whnf)))) rfl (by kernel_rfl) ?_
  refine fl_val 9 rfl (fun _ => (v_move' (by conv => (lhs; whnf)))) rfl (by kernel_rfl) ?_
  refine fl_val 10 rfl (fun _ => (v_ias k Try.underlying102 TF.t41 rfl rfl (by first | rfl | omega) (by first | omega | (dsimp only at *; omega)))) rfl (by kernel_rfl) ?_
  refine fl_ld 11 rfl (v_load rfl (st.reads (b := g) (c := (revK xs k ++ sp).toArray) (v := xs.getD k undef) 0 rfl TF.t41 (by unfold getV; rw [if_neg (by simp), show 0 + k * 1 = k by omega]; exact gb))) (by kernel_rfl) ?_
  refine fl_val 12 rfl (fun _ => (v_ias k Try.underlying102 TF.t41 rfl rfl (by first | rfl | omega) (by first | omega | (dsimp only at *; omega)))) rfl (by kernel_rfl) ?_
  refine fl_eff1 13 [10, 9, 8, 3, 2] [] (by kernel_rfl) ⟨obl_ld rfl rfl rfl (v_load rfl (st.reads (b := g) (c := (revK xs k ++ sp).toArray) (v := xs.getD k undef) 0 rfl TF.t41 (by unfold getV; rw [if_neg (by simp), show 0 + k * 1 = k by omega]; exact gb))), obl_ld rfl rfl rfl (v_load rfl (st.reads (b := g) (c := (revK xs k ++ sp).toArray) (v := xs.getD (xs.length - 1 - k) undef) 0 rfl TF.t41 (by unfold getV; rw [if_neg (by simp), show 0 + (xs.length - 1 - k) * 1 = xs.length - 1 - k by omega]; exact ga))), trivial⟩ rfl ?_
  refine wl_store1 (off := 0 + k * 1) 0 st rfl TF.t41 rfl rfl oa (by simp only [List.size_toArray]; omega) ?_
  intro w st
  refine wl_nil ⟨rfl, ?_⟩
  refine fl_val 14 rfl (fun _ => (v_ias (xs.length - 1 - k) Try.underlying102 TF.t41 rfl rfl (by first | rfl | omega) (by first | omega | (dsimp only at *; omega)))) rfl (by kernel_rfl) ?_
  refine fl_eff1 15 [] [] (by kernel_rfl) trivial rfl ?_
  refine wl_store1 (off := 0 + (xs.length - 1 - k) * 1) 0 st rfl TF.t41 rfl rfl ob (by simp only [Array.size_setIfInBounds, List.size_toArray]; omega) ?_
  intro w st
  rw [show 0 + k * 1 = k by omega, show 0 + (xs.length - 1 - k) * 1 = xs.length - 1 - k by omega] at st
  have st : St m m [g] wI w [K.blk g (revK xs (k + 1) ++ sp).toArray 41] := by rw [← revK_step hk]; exact st
  refine wl_nil ⟨rfl, ?_⟩
  refine fl_nil (by kernel_rfl) trivial ?_
  refine block_go (then_go ?_)
  refine wc_region ?_
  refine wl_val (v_move' (by conv => (lhs; whnf))) rfl ?_
  refine wl_val (v_add' (c := ((k + 1 : Nat) : Int)) rfl rfl (by omega) (by omega) (by omega)) rfl ?_
  refine wl_val (v_move' (by conv => (lhs; whnf))) rfl ?_
  refine wl_val (v_sub' (c := (xs.length : Int) - 1 - ((k + 1 : Nat) : Int)) rfl rfl (by omega) (by omega) (by omega)) rfl ?_
  refine wl_val (v_assign' (by conv => (lhs; whnf))) rfl ?_
  refine wl_val (v_assign' (by conv => (lhs; whnf))) rfl ?_
  refine wl_nil ?_
  refine then_go ?_
  exact ⟨q - 1, by simp; omega, k + 1, by omega, rfl, rfl, rfl, st⟩
 ·refine wc_exit (then_exit (then_exit (block_hit ?_)))
  refine end0 ?_
  have hf := St.finish (Es := []) (l := [_]) st
  rw [revK_end (by omega)] at hf
  exact ⟨⟨hf.1.os, hf.1.tape, hf.1.output, hf.1.size, hf.1.block, fun j hj => hf.1.out j (by simpa [joinE, K.blk] using hj)⟩, by have := hf.2; simpa [joinE] using this⟩
end
end Go.Proofs.Ytjjpakjgppmmdaa

namespace Go.Proofs.Ytjjpakjgppmmdaa
open Go Go.RowKit K SH PT
def hB (idx : By) : Nat → List By → By → By
 | _, [], e => e
 | d, s :: S, e => 78 :: (if bitI idx d = true then s ++ sum (hB idx (d + 1) S e) else sum (hB idx (d + 1) S e) ++ s)
def hashedL (idx : By) : Nat → List By → By → List By
 | _, [], e => [e]
 | d, s :: S, e => hB idx d (s :: S) e :: hashedL idx (d + 1) S e
theorem hashedL_cons {idx : By} {d : Nat} {S : List By} {e : By} : ∃ T, hashedL idx d S e = hB idx d S e :: T := by
 cases S with
 | nil => exact ⟨[], rfl⟩
 | cons s S => exact ⟨_, rfl⟩
theorem length_hashedL {idx : By} : ∀ {d : Nat} {S : List By} {e : By}, (hashedL idx d S e).length = S.length + 1
 | _, [], _ => rfl
 | d, s :: S, e => by rw [hashedL, List.length_cons, length_hashedL, List.length_cons]
theorem hB_len {idx : By} : ∀ {d : Nat} {S : List By} {e : By}, D32 S → e.length ≤ 65 → (hB idx d S e).length ≤ 65
 | _, [], _, _, h => h
 | d, s :: S, e, hS, h => by
  have h1 := hS s (by simp)
  rw [hB]
  split <;> simp [h1, length_sum]
theorem endB_len {p : Prf} (hI : p.I.length = 32) (hV : p.V.length = 32) : (endB p).length ≤ 65 := by
 unfold endB
 split <;> simp [hI, hV]
def svC (x : By × Value) : List Value := [x.2]
theorem flat_sv (L : List (By × Value)) : L.flatMap svC = L.map (·.2) := by
 induction L with
 | nil => rfl
 | cons x L ih => rw [List.flatMap_cons, ih]; rfl
section
variable {P : Program} {n : Nat} {ops : Array Oper} {Q : Po} {rest : List Oper} {r : Fr} {w : World} {d : Nat} {ty : TypeId} {pos : String} {after : Array Edge} {m0 m : Mem} {F : List Nat} {w0 : World} {Es : List Ent}
theorem wl_svOne {T E : TypeId} {bytes : Nat} {v : Value} {x : Operand} (hT : P.underlying T = some (.slice E)) (tf : TyF P E false 1 bytes) (hz : TyZ P E (.slice none 0 0)) (ho : v.oneCell' = true) (hx : ev r x = v) (st : St m0 m F w0 w Es) (hd : Nat.blt d n = true)
  (k : ∀ b w', St m0 m F w0 w' (K.blk b #[v] E :: Es) → WL P n ops Q rest (upd d (.slice (some ⟨b, 0, none⟩) 1 1) r) w') :
  WL P n ops Q (⟨some d, .buildSlice T 1 #[(0, x)], ty, pos, after, none⟩ :: rest) r w := by
 refine wl_buildSlice (c' := #[v]) [(0, v)] hT tf hz (by decide) (by decide) (by simp [hx]) ⟨0, 1, rfl, by rw [cells_one ho]; rfl, by simp [size_madeCells], ?_⟩ st hd k
 rw [cells_one ho]
 exact setSeg_all (by simp [size_madeCells])
end
theorem pcs_of {m : Mem} {v : Value} {L : List (By × Value)} (h : LsM m v svC 1 L) (h2 : ∀ x ∈ L, SlM m x.2 1 x.1.length (bs x.1)) : PcsM m v L := by
 refine ⟨?_, h2⟩
 have := h.row
 rw [flat_sv] at this
 exact this
section
variable {m : Mem} {wI : World}
theorem c_hashed {v : Value} {idx : By} {p : Prf} (him : Im m wI) (hx : idx.length = 32) (hp : PrM m v p) (hS : p.S.length ≤ 300) :
  Ret Try.prog 59 #[arr idx, v] wI fun v' w' => Out m wI w' fun m' => ∃ L, PcsM m' v' L ∧ L.map (·.1) = hashedL idx 0 p.S (endB p) := by
 have st := St.start him
 have hp0 := hp
 obtain ⟨sv, rfl, hs, hI, hV⟩ := hp
 obtain ⟨sa, sc, rfl⟩ := hs.sl
 have he := endB_len hI hV
 obtain ⟨e, hee⟩ : ∃ e, e = endB p := ⟨_, rfl⟩
 rw [← hee] at he
 refine ret_of Try.call59 Try.func59 rfl Try.ntmps59 Try.results59 rfl ?_
 refine wc_seq ?_
 refine wc_region ?_
 refine wl_box (v := arr idx) rfl st rfl ?_
 intro b2 w st
 refine wl_box (v := .agg (prC (.slice sa p.S.length sc) p.E p.I p.V)) rfl st rfl ?_
 intro b3 w st
 refine wl_val (v_assign' (by conv => (lhs; whnf))) rfl ?_
 refine wl_nil ?_
 refine then_go ?_
 refine wc_seq ?_
 refine wc_region ?_
 refine wl_val (v_load rfl (st.reads (v := .agg (prC (.slice sa p.S.length sc) p.E p.I p.V)) 0 rfl TF.t40 (getV_all (size_prC hI hV)))) rfl ?_
 refine wl_call rfl (c_end st.im hp0) rfl ?_
 rintro v9 w ⟨t9, m1, hg1, hi1, hb⟩
 have st := st.grown hg1 t9 hi1
 have hs := hs.mono hg1.le
 rw [← hee] at hb
 have ho9 : v9.oneCell' = true := by obtain ⟨_, a, c, h, _⟩ := hb; rw [h]; rfl
 refine wl_svOne Try.underlying102 TF.t41 TF.z41 ho9 rfl st rfl ?_
 intro b10 w st
 have st := st.rowShut 0 (b := b10) (k := 1) (cap := 1) (size := 1) (xs := [v9]) rfl (by omega) rfl (by omega) rfl
 have st : St m m1 [] wI w [lsE 41 1 svC (.slice (some ⟨b10, 0, none⟩) 1 1) [(e, v9)], K.blk b3 (prC (.slice sa p.S.length sc) p.E p.I p.V) 40, K.blk b2 (arr idx).cells 23] := st
 refine wl_val (v_assign' (by conv => (lhs; whnf))) rfl ?_
 refine wl_nil ?_
 refine then_go ?_
 refine wc_seq ?_
 refine wc_seq ?_
 refine wc_region ?_
 refine wl_val (v_fa TF.f40_0 rfl) rfl ?_
 refine wl_val (v_load rfl (st.reads (v := .slice sa p.S.length sc) 1 rfl TF.t38 prC_S)) rfl ?_
 refine wl_val (v_len_s Try.underlying38 rfl) rfl ?_
 refine wl_val (v_sub' (c := (p.S.length : Int) - 1) rfl rfl rfl (by omega) (by omega)) rfl ?_
 refine wl_val (v_assign' (by conv => (lhs; whnf))) rfl ?_
 refine wl_nil ?_
 refine then_go ?_
 refine wc_block ?_
 refine wc_loop (S := Nat) (fun q r w' => ∃ (k : Nat) (L : List (By × Value)) (v : Value) (m2 : Mem), q + k = p.S.length ∧ r 2 = .pointer (some ⟨b2, 0, none⟩) ∧ r 3 = .pointer (some ⟨b3, 0, none⟩) ∧ r 5 = v ∧ r 6 = .int .i64 ((p.S.length : Int) - 1 - k) ∧ L.map (·.1) = (hashedL idx (p.S.length - k) (p.S.drop (p.S.length - k)) e).reverse ∧ (∀ x ∈ L, SlM m2 x.2 1 x.1.length (bs x.1)) ∧ DigM m2 (.slice sa p.S.length sc) p.S ∧
  St m m2 [] wI w' [lsE 41 1 svC v L, K.blk b3 (prC (.slice sa p.S.length sc) p.E p.I p.V) 40, K.blk b2 (arr idx).cells 23]) id p.S.length ⟨0, [(e, v9)], _, m1, by omega, rfl, rfl, rfl, by simp; rfl, by rw [Nat.sub_zero, List.drop_length]; rfl, by intro x hx; simp at hx; rw [hx]; exact hb, hs, st⟩ ?_
 clear hs
 rintro q r w2 ⟨k, L, v, m2, hqk, g2, g3, g5, g6, hL, hLs, hs, st⟩
 refine wc_o 2 g2 (wc_o 3 g3 (wc_o 5 g5 (wc_o 6 g6 ?_)))
 refine wc_seq ?_
 refine wc_seq ?_
 refine wc_region ?_
 refine wl_val (v_move' (by conv => (lhs; whnf))) rfl ?_
 refine wl_val (v_geq rfl rfl) rfl ?_
 refine wl_nil ?_
 refine then_go ?_
 refine wc_if rfl (fun h16 => ?_) (fun h16 => ?_)
 ·refine wc_skip ?_
  refine then_go ?_
  refine wc_seq ?_
  refine wc_block ?_
  refine wc_seq ?_
  have hk : k < p.S.length := by omega
  obtain ⟨dd, hdd⟩ : ∃ dd, dd = p.S.length - 1 - k := ⟨_, rfl⟩
  have hdl : dd < p.S.length := by omega
  have hLl : L.length = k + 1 := by
   have := congrArg List.length hL
   rw [List.length_map, List.length_reverse, length_hashedL, List.length_drop] at this
   omega
  have hrd := st.lsRd 0 rfl (fun _ _ => rfl)
  obtain ⟨va, vc, hve⟩ := hrd.sl
  subst hve
  obtain ⟨vb, vo, hvb⟩ := hrd.ptr (by omega) (by decide)
  subst hvb
  have hlt : L.length - 1 < L.length := by omega
  have hlast : L[L.length - 1].1 = hB idx (dd + 1) (p.S.drop (dd + 1)) e := by
   obtain ⟨T, hT⟩ := hashedL_cons (idx := idx) (d := dd + 1) (S := p.S.drop (dd + 1)) (e := e)
   rw [show p.S.length - k = dd + 1 by omega, hT, List.reverse_cons] at hL
   have h1 : (L.map (·.1))[L.length - 1]? = some L[L.length - 1].1 := by simp [hlt]
   have hTl : T.length = L.length - 1 := by
    have := congrArg List.length hL
    simp at this
    omega
   rw [hL, List.getElem?_append_right (by simp; omega)] at h1
   simp [hTl] at h1
   exact h1.symm
  have hsl := hLs _ (List.getElem_mem hlt)
  have hbl : L[L.length - 1].1.length ≤ 65 := by rw [hlast]; exact hB_len (fun y hy => hs.1 y (List.mem_of_mem_drop hy)) he
  obtain ⟨da, doo, hda⟩ := hs.ptr (by omega)
  subst hda
  have hSd := hs.1.get hdl
  have hnew : hB idx dd (p.S.drop dd) e = 78 :: (if bitI idx dd = true then p.S[dd] ++ sum L[L.length - 1].1 else sum L[L.length - 1].1 ++ p.S[dd]) := by
   rw [List.drop_eq_getElem_cons hdl, hB, hlast]
  have hLn : ∀ z : Value, (L ++ [(hB idx dd (p.S.drop dd) e, z)]).map (·.1) = (hashedL idx (p.S.length - (k + 1)) (p.S.drop (p.S.length - (k + 1))) e).reverse := by
   intro z
   rw [List.map_append, hL, show p.S.length - (k + 1) = dd by omega, List.drop_eq_getElem_cons hdl, hashedL, List.reverse_cons, show p.S.length - k = dd + 1 by omega]
   rfl
  have hz6 : ((p.S.length : Int) - 1 - k) = (dd : Int) := by omega
  refine wc_region ?_
  refine wl_val (v_move' (by conv => (lhs; whnf))) rfl ?_
  refine wl_val (v_move' (by conv => (lhs; whnf))) rfl ?_
  refine wl_val (v_len_s Try.underlying102 rfl) rfl ?_
  refine wl_val (v_sub' (c := ((L.length - 1 : Nat) : Int)) rfl rfl (by omega) (by omega) (by omega)) rfl ?_
  refine wl_val (v_ias (L.length - 1) Try.underlying102 TF.t41 rfl rfl (by first | rfl | omega) (by first | omega | (dsimp only at *; omega))) rfl ?_
  refine wl_val (v_load rfl (hrd.rd0 rfl hlt (by decide) TF.t41 (v' := L[L.length - 1].2) rfl (im_heapM _))) rfl ?_
  refine wl_call rfl (c_tagsof st.im hsl (by omega)) rfl ?_
  rintro v25 w ⟨t25, rfl⟩
  have st := st.pure t25
  refine wl_alloc TF.z23 st rfl ?_
  intro b7 w st
  refine wl_storeW (cs := (bs (sum L[L.length - 1].1)).toArray) 0 st rfl TF.t23 rfl rfl (by simp [length_bs, length_sum]) rfl (fun u hu => one_bs _ u (by simpa using hu)) ?_
  intro w st
  refine wl_nil ?_
  refine then_go ?_
  refine wc_seq ?_
  refine wc_region ?_
  refine wl_val (v_load rfl (st.reads (v := arr idx) 3 rfl TF.t23 (getV_all (by rw [size_arr, hx])))) rfl ?_
  refine wl_val (v_move' (by conv => (lhs; whnf))) rfl ?_
  refine wl_call rfl (c_bit st.im hx) rfl ?_
  rintro v28 w ⟨t28, rfl⟩
  have st := st.pure t28
  rw [hz6]
  refine wl_nil ?_
  refine then_go ?_
  refine wc_cond rfl (fun h28 => ?_) (fun h28 => ?_)
  ·refine wc_draw TF.mixed ?_
   have st := st.pure (touch_drew _)
   refine fl_val 0 rfl (fun _ => (v_move' (by conv => (lhs; whnf)))) rfl (by kernel_rfl) ?_
   refine fl_val 1 rfl (fun _ => (v_fa TF.f40_0 rfl)) rfl (by kernel_rfl) ?_
   refine fl_ld 2 rfl (v_load rfl (by first | exact st.reads (b := b3) (c := prC (.slice (some ⟨da, doo, none⟩) p.S.length sc) p.E p.I p.V) (v := .slice (some ⟨da, doo, none⟩) p.S.length sc) 2 rfl TF.t38 prC_S | exact st.reads (b := b3) (c := prC (.slice (some ⟨da, doo, none⟩) p.S.length sc) p.E p.I p.V) (v := .slice (some ⟨da, doo, none⟩) p.S.length sc) 3 rfl TF.t38 prC_S)) (by kernel_rfl) ?_
   refine fl_val 3 rfl (fun _ => (v_move' (by conv => (lhs; whnf)))) rfl (by kernel_rfl) ?_
   refine fl_val 4 rfl (fun _ => (v_ias dd Try.underlying38 TF.t23 rfl rfl (by first | rfl | omega) (by first | omega | (dsimp only at *; omega)))) rfl (by kernel_rfl) ?_
   refine fl_ld 5 rfl (v_load rfl (hs.rd rfl hdl rfl st.im)) (by kernel_rfl) ?_
   refine fl_ld 6 rfl (v_load rfl (by first | exact st.reads (v := arr (sum L[L.length - 1].1)) 0 rfl TF.t23 (getV_all (by simp [length_bs, length_sum])) | exact st.reads (v := arr (sum L[L.length - 1].1)) 1 rfl TF.t23 (getV_all (by simp [length_bs, length_sum])))) (by kernel_rfl) ?_
   refine fl_eff1 7 [4, 3, 1, 0] [2] (by kernel_rfl) ⟨obl_ld rfl rfl rfl (v_load rfl (by first | exact st.reads (v := arr (sum L[L.length - 1].1)) 0 rfl TF.t23 (getV_all (by simp [length_bs, length_sum])) | exact st.reads (v := arr (sum L[L.length - 1].1)) 1 rfl TF.t23 (getV_all (by simp [length_bs, length_sum])))), obl_ld rfl rfl rfl (v_load rfl (hs.rd rfl hdl rfl st.im)), obl_ld rfl rfl rfl (v_load rfl (by first | exact st.reads (b := b3) (c := prC (.slice (some ⟨da, doo, none⟩) p.S.length sc) p.E p.I p.V) (v := .slice (some ⟨da, doo, none⟩) p.S.length sc) 2 rfl TF.t38 prC_S | exact st.reads (b := b3) (c := prC (.slice (some ⟨da, doo, none⟩) p.S.length sc) p.E p.I p.V) (v := .slice (some ⟨da, doo, none⟩) p.S.length sc) 3 rfl TF.t38 prC_S)), trivial⟩ rfl ?_
   refine wl_call rfl (c_nodeb st.im hSd (length_sum _)) rfl ?_
   rintro v36 w ⟨t36, m3, hg3, hi3, hn⟩
   have st := st.grown hg3 t36 hi3
   have hs := hs.mono hg3.le
   have hLs : ∀ x ∈ L, SlM m3 x.2 1 x.1.length (bs x.1) := fun x hx => (hLs x hx).mono hg3.le
   rw [if_pos h28] at hnew
   rw [← hnew] at hn
   have ho : v36.oneCell' = true := by obtain ⟨_, a, c, h, _⟩ := hn; rw [h]; rfl
   refine wl_nil ⟨rfl, ?_⟩
   refine fl_eff1 8 [4, 3, 1, 0] [2] (by kernel_rfl) ⟨obl_ld rfl rfl rfl (v_load rfl (by first | exact st.reads (b := b3) (c := prC (.slice (some ⟨da, doo, none⟩) p.S.length sc) p.E p.I p.V) (v := .slice (some ⟨da, doo, none⟩) p.S.length sc) 2 rfl TF.t38 prC_S | exact st.reads (b := b3) (c := prC (.slice (some ⟨da, doo, none⟩) p.S.length sc) p.E p.I p.V) (v := .slice (some ⟨da, doo, none⟩) p.S.length sc) 3 rfl TF.t38 prC_S)), trivial⟩ rfl ?_
   refine wl_svOne Try.underlying102 TF.t41 TF.z41 ho rfl st rfl ?_
   intro b37 w st
   refine wl_nil ⟨rfl, ?_⟩
   refine fl_eff1 9 [4, 3, 1] [2] (by kernel_rfl) ⟨obl_ld rfl rfl rfl (v_load rfl (by first | exact st.reads (b := b3) (c := prC (.slice (some ⟨da, doo, none⟩) p.S.length sc) p.E p.I p.V) (v := .slice (some ⟨da, doo, none⟩) p.S.length sc) 2 rfl TF.t38 prC_S | exact st.reads (b := b3) (c := prC (.slice (some ⟨da, doo, none⟩) p.S.length sc) p.E p.I p.V) (v := .slice (some ⟨da, doo, none⟩) p.S.length sc) 3 rfl TF.t38 prC_S)), trivial⟩ rfl ?_
   refine wl_lsApp 1 (c := svC) (e := (hB idx dd (p.S.drop dd) e, v36)) st rfl Try.underlying102 TF.t41 TF.z41 rfl rfl (by simp [svC, ho]) rfl rfl (by omega) (by omega) rfl ?_
   intro v38 w st hv38
   refine wl_nil ⟨rfl, ?_⟩
   refine fl_eff1 10 [] [] (by kernel_rfl) ⟨obl_ld rfl rfl rfl (v_load rfl (by first | exact st.reads (b := b3) (c := prC (.slice (some ⟨da, doo, none⟩) p.S.length sc) p.E p.I p.V) (v := .slice (some ⟨da, doo, none⟩) p.S.length sc) 2 rfl TF.t38 prC_S | exact st.reads (b := b3) (c := prC (.slice (some ⟨da, doo, none⟩) p.S.length sc) p.E p.I p.V) (v := .slice (some ⟨da, doo, none⟩) p.S.length sc) 3 rfl TF.t38 prC_S)), trivial⟩ rfl ?_
   refine wl_val (v_assign' (by conv => (lhs; whnf))) rfl ?_
   refine wl_nil ⟨rfl, ?_⟩
   refine fl_nil (by kernel_rfl) trivial ?_
   refine block_go (then_go ?_)
   refine wc_region ?_
   refine wl_val (v_move' (by conv => (lhs; whnf))) rfl ?_
   refine wl_val (v_sub' (c := (p.S.length : Int) - 1 - ((k + 1 : Nat) : Int)) rfl rfl (by omega) (by omega) (by omega)) rfl ?_
   refine wl_val (v_assign' (by conv => (lhs; whnf))) rfl ?_
   refine wl_nil ?_
   refine then_go ?_
   exact ⟨q - 1, by simp; omega, k + 1, _, v38, m3, by omega, rfl, rfl, rfl, rfl, hLn v36, (fun x hx => by rcases List.mem_append.1 hx with h | h; exact hLs x h; simp at h; rw [h]; exact hn), hs, st.drop 0⟩
  ·refine wc_draw TF.mixed ?_
   have st := st.pure (touch_drew _)
   refine fl_val 0 rfl (fun _ => (v_move' (by conv => (lhs; whnf)))) rfl (by kernel_rfl) ?_
   refine fl_ld 1 rfl (v_load rfl (by first | exact st.reads (v := arr (sum L[L.length - 1].1)) 0 rfl TF.t23 (getV_all (by simp [length_bs, length_sum])) | exact st.reads (v := arr (sum L[L.length - 1].1)) 1 rfl TF.t23 (getV_all (by simp [length_bs, length_sum])))) (by kernel_rfl) ?_
   refine fl_val 2 rfl (fun _ => (v_fa TF.f40_0 rfl)) rfl (by kernel_rfl) ?_
   refine fl_ld 3 rfl (v_load rfl (by first | exact st.reads (b := b3) (c := prC (.slice (some ⟨da, doo, none⟩) p.S.length sc) p.E p.I p.V) (v := .slice (some ⟨da, doo, none⟩) p.S.length sc) 2 rfl TF.t38 prC_S | exact st.reads (b := b3) (c := prC (.slice (some ⟨da, doo, none⟩) p.S.length sc) p.E p.I p.V) (v := .slice (some ⟨da, doo, none⟩) p.S.length sc) 3 rfl TF.t38 prC_S)) (by kernel_rfl) ?_
   refine fl_val 4 rfl (fun _ => (v_move' (by conv => (lhs; whnf)))) rfl (by kernel_rfl) ?_
   refine fl_val 5 rfl (fun _ => (v_ias dd Try.underlying38 TF.t23 rfl rfl (by first | rfl | omega) (by first | omega | (dsimp only at *; omega)))) rfl (by kernel_rfl) ?_
   refine fl_ld 6 rfl (v_load rfl (hs.rd rfl hdl rfl st.im)) (by kernel_rfl) ?_
   refine fl_eff1 7 [5, 4, 2, 0] [3] (by kernel_rfl) ⟨obl_ld rfl rfl rfl (v_load rfl (hs.rd rfl hdl rfl st.im)), obl_ld rfl rfl rfl (v_load rfl (by first | exact st.reads (b := b3) (c := prC (.slice (some ⟨da, doo, none⟩) p.S.length sc) p.E p.I p.V) (v := .slice (some ⟨da, doo, none⟩) p.S.length sc) 2 rfl TF.t38 prC_S | exact st.reads (b := b3) (c := prC (.slice (some ⟨da, doo, none⟩) p.S.length sc) p.E p.I p.V) (v := .slice (some ⟨da, doo, none⟩) p.S.length sc) 3 rfl TF.t38 prC_S)), obl_ld rfl rfl rfl (v_load rfl (by first | exact st.reads (v := arr (sum L[L.length - 1].1)) 0 rfl TF.t23 (getV_all (by simp [length_bs, length_sum])) | exact st.reads (v := arr (sum L[L.length - 1].1)) 1 rfl TF.t23 (getV_all (by simp [length_bs, length_sum])))), trivial⟩ rfl ?_
   refine wl_call rfl (c_nodeb st.im (length_sum _) hSd) rfl ?_
   rintro v36 w ⟨t36, m3, hg3, hi3, hn⟩
   have st := st.grown hg3 t36 hi3
   have hs := hs.mono hg3.le
   have hLs : ∀ x ∈ L, SlM m3 x.2 1 x.1.length (bs x.1) := fun x hx => (hLs x hx).mono hg3.le
   rw [if_neg (by rw [h28]; simp)] at hnew
   rw [← hnew] at hn
   have ho : v36.oneCell' = true := by obtain ⟨_, a, c, h, _⟩ := hn; rw [h]; rfl
   refine wl_nil ⟨rfl, ?_⟩
   refine fl_eff1 8 [5, 4, 2, 0] [3] (by kernel_rfl) ⟨obl_ld rfl rfl rfl (v_load rfl (by first | exact st.reads (b := b3) (c := prC (.slice (some ⟨da, doo, none⟩) p.S.length sc) p.E p.I p.V) (v := .slice (some ⟨da, doo, none⟩) p.S.length sc) 2 rfl TF.t38 prC_S | exact st.reads (b := b3) (c := prC (.slice (some ⟨da, doo, none⟩) p.S.length sc) p.E p.I p.V) (v := .slice (some ⟨da, doo, none⟩) p.S.length sc) 3 rfl TF.t38 prC_S)), trivial⟩ rfl ?_
   refine wl_svOne Try.underlying102 TF.t41 TF.z41 ho rfl st rfl ?_
   intro b37 w st
   refine wl_nil ⟨rfl, ?_⟩
   refine fl_eff1 9 [5, 4, 2] [3] (by kernel_rfl) ⟨obl_ld rfl rfl rfl (v_load rfl (by first | exact st.reads (b := b3) (c := prC (.slice (some ⟨da, doo, none⟩) p.S.length sc) p.E p.I p.V) (v := .slice (some ⟨da, doo, none⟩) p.S.length sc) 2 rfl TF.t38 prC_S | exact st.reads (b := b3) (c := prC (.slice (some ⟨da, doo, none⟩) p.S.length sc) p.E p.I p.V) (v := .slice (some ⟨da, doo, none⟩) p.S.length sc) 3 rfl TF.t38 prC_S)), trivial⟩ rfl ?_
   refine wl_lsApp 1 (c := svC) (e := (hB idx dd (p.S.drop dd) e, v36)) st rfl Try.underlying102 TF.t41 TF.z41 rfl rfl (by simp [svC, ho]) rfl rfl (by omega) (by omega) rfl ?_
   intro v38 w st hv38
   refine wl_nil ⟨rfl, ?_⟩
   refine fl_eff1 10 [] [] (by kernel_rfl) ⟨obl_ld rfl rfl rfl (v_load rfl (by first | exact st.reads (b := b3) (c := prC (.slice (some ⟨da, doo, none⟩) p.S.length sc) p.E p.I p.V) (v := .slice (some ⟨da, doo, none⟩) p.S.length sc) 2 rfl TF.t38 prC_S | exact st.reads (b := b3) (c := prC (.slice (some ⟨da, doo, none⟩) p.S.length sc) p.E p.I p.V) (v := .slice (some ⟨da, doo, none⟩) p.S.length sc) 3 rfl TF.t38 prC_S)), trivial⟩ rfl ?_
   refine wl_val (v_assign' (by conv => (lhs; whnf))) rfl ?_
   refine wl_nil ⟨rfl, ?_⟩
   refine fl_nil (by kernel_rfl) trivial ?_
   refine block_go (then_go ?_)
   refine wc_region ?_
   refine wl_val (v_move' (by conv => (lhs; whnf))) rfl ?_
   refine wl_val (v_sub' (c := (p.S.length : Int) - 1 - ((k + 1 : Nat) : Int)) rfl rfl (by omega) (by omega) (by omega)) rfl ?_
   refine wl_val (v_assign' (by conv => (lhs; whnf))) rfl ?_
   refine wl_nil ?_
   refine then_go ?_
   exact ⟨q - 1, by simp; omega, k + 1, _, v38, m3, by omega, rfl, rfl, rfl, rfl, hLn v36, (fun x hx => by rcases List.mem_append.1 hx with h | h; exact hLs x h; simp at h; rw [h]; exact hn), hs, st.drop 0⟩
 ·refine wc_exit (then_exit (then_exit (block_hit ?_)))
  refine then_go ?_
  refine wc_seq ?_
  have hkn : k = p.S.length := by omega
  subst hkn
  rw [Nat.sub_self, List.drop_zero] at hL
  have hLl : L.length = p.S.length + 1 := by
   have := congrArg List.length hL
   rw [List.length_map, List.length_reverse, length_hashedL] at this
   exact this
  have hone : ∀ u ∈ L.flatMap svC, u.oneCell' = true := by
   intro u hu
   obtain ⟨x, hx, h⟩ := List.mem_flatMap.1 hu
   simp [svC] at h
   obtain ⟨_, a, c, h2, _⟩ := hLs x hx
   rw [h, h2]
   rfl
  have hfl : (L.flatMap svC).length = L.length := by rw [flat_sv, List.length_map]
  obtain ⟨g, cap, sp, hvg, hcap, hcs, hc63, st⟩ := st.rowOpen 0 rfl (by omega)
  subst hvg
  refine wc_region ?_
  refine wl_val (v_move' (by conv => (lhs; whnf))) rfl ?_
  refine wl_call rfl (by have h := c_reverse (cap := cap) st.im (st.at (i := 0) rfl) (st.none (i := 0) rfl g (by simp [K.blk])) hone (by rw [hfl]; omega); rw [hfl] at h; exact h) rfl ?_
  rintro v50 w ⟨t50, hE⟩
  have st := st.step 0 rfl t50 hE
  have st := st.rowShut 0 (b := g) (k := L.length) (cap := cap) (size := 1) (xs := L.reverse.flatMap svC) rfl hcap (by rw [List.size_toArray, List.length_append, List.length_reverse, ← List.length_append]; exact hcs) hc63 (by rw [flat_sv, flat_sv, List.map_reverse]; rw [List.toList_toArray, Nat.mul_one, List.take_left' (by simp)])
  have st : St m m2 [] wI w [lsE 41 1 svC (.slice (some ⟨g, 0, none⟩) L.length cap) L.reverse, K.blk b3 (prC (.slice sa p.S.length sc) p.E p.I p.V) 40, K.blk b2 (arr idx).cells 23] := by
   unfold lsE
   rw [List.length_reverse]
   exact st
  refine wl_nil ?_
  refine then_go ?_
  refine wc_seq ?_
  refine wc_region ?_
  refine wl_val (v_move' (by conv => (lhs; whnf))) rfl ?_
  refine wl_val (v_assign' (by conv => (lhs; whnf))) rfl ?_
  refine wl_nil ?_
  refine then_go ?_
  refine wc_ret ?_
  obtain ⟨m4, hg4, hq4, st⟩ := st.keepLs (i := 0) rfl (fun _ _ => rfl)
  refine ret1 rfl ((st.keepOnly (l := []) (List.nil_sublist _)).out ⟨L.reverse, pcs_of hq4 (fun x hx => (hLs x (by simpa using hx)).mono hg4.le), ?_⟩)
  rw [List.map_reverse, hL, List.reverse_reverse, hee]
end
end Go.Proofs.Ytjjpakjgppmmdaa

namespace Go.Proofs.Ytjjpakjgppmmdaa
open Go Go.RowKit K SH PT
def rootH (idx : By) (p : Prf) : By := sum (hB idx 0 p.S (endB p))
section
variable {m : Mem} {wI : World}
theorem c_proot {v : Value} {idx : By} {p : Prf} (him : Im m wI) (hx : idx.length = 32) (hp : PrM m v p) (hS : p.S.length ≤ 300) :
  Ret Try.prog 76 #[arr idx, v] wI fun v' w' => Out m wI w' fun _ => v' = arr (rootH idx p) := by
 have st := St.start him
 have hp0 := hp
 obtain ⟨sv, rfl, hs, hI, hV⟩ := hp
 refine ret_of Try.call76 Try.func76 rfl Try.ntmps76 Try.results76 rfl ?_
 refine wc_seq ?_
 refine wc_region ?_
 refine wl_box (v := arr idx) rfl st rfl ?_
 intro b2 w st
 refine wl_box (v := .agg (prC sv p.E p.I p.V)) rfl st rfl ?_
 intro b3 w st
 refine wl_alloc TF.z23 st rfl ?_
 intro b4 w st
 refine wl_nil ?_
 refine then_go ?_
 refine wc_seq ?_
 refine wc_region ?_
 refine wl_val (v_load rfl (st.reads (v := arr idx) 2 rfl TF.t23 (getV_all (by rw [size_arr, hx])))) rfl ?_
 refine wl_val (v_load rfl (st.reads (v := .agg (prC sv p.E p.I p.V)) 1 rfl TF.t40 (getV_all (size_prC hI hV)))) rfl ?_
 refine wl_call rfl (c_hashed st.im hx hp0 hS) rfl ?_
 rintro v7 w ⟨t7, m1, hg1, hi1, L, hpc, hL⟩
 have st := st.grown hg1 t7 hi1
 have hLl : L.length = p.S.length + 1 := by
  have := congrArg List.length hL
  rw [List.length_map, length_hashedL] at this
  exact this
 have h0 : 0 < L.length := by omega
 obtain ⟨T, hT⟩ := hashedL_cons (idx := idx) (d := 0) (S := p.S) (e := endB p)
 have hfst : L[0].1 = hB idx 0 p.S (endB p) := by
  have h1 : (L.map (·.1))[0]? = some L[0].1 := by simp [h0]
  rw [hL, hT] at h1
  simp at h1
  exact h1.symm
 obtain ⟨lb, lo, lcap, hlv, hel, hrd⟩ := hpc.elem h0
 subst hlv
 have hbl : L[0].1.length ≤ 65 := by rw [hfst]; exact hB_len hs.1 (endB_len hI hV)
 refine wl_val (v_ias 0 Try.underlying102 TF.t41 rfl rfl (by first | rfl | omega) (by first | omega | (dsimp only at *; omega))) rfl ?_
 refine wl_val (v_load rfl (hrd st.im)) rfl ?_
 refine wl_call rfl (c_tagsof st.im hel (by omega)) rfl ?_
 rintro v10 w ⟨t10, rfl⟩
 have st := st.pure t10
 refine wl_storeW (cs := (bs (sum L[0].1)).toArray) 0 st rfl TF.t23 rfl rfl (by simp [length_bs, length_sum]) rfl (fun u hu => one_bs _ u (by simpa using hu)) ?_
 intro w st
 refine wl_nil ?_
 refine then_go ?_
 refine wc_ret ?_
 exact ret1c rfl (st.reads 0 rfl TF.t23 (getV_all (by simp [length_bs, length_sum]))) ((st.keepOnly (l := []) (List.nil_sublist _)).out (by rw [rootH, ← hfst]; rfl))
end
end Go.Proofs.Ytjjpakjgppmmdaa

namespace Go.Proofs.Ytjjpakjgppmmdaa
open Go Go.RowKit K SH PT
def provesP (root idx : By) (p : Prf) : Prop := rightP p ∧ (p.E = 1 → p.S.length ≤ common p.I idx) ∧ rootH idx p = root
instance {root idx : By} {p : Prf} : Decidable (provesP root idx p) := by unfold provesP; infer_instance
def chkE (root idx : By) (p : Prf) : Int := if provesP root idx p then 0 else 15
def chkT (root idx : By) (p : Prf) : Prop := provesP root idx p ∧ p.E = 1 ∧ p.I = idx
instance {root idx : By} {p : Prf} : Decidable (chkT root idx p) := by unfold chkT; infer_instance
def chkV (root idx : By) (p : Prf) : By := if chkT root idx p then p.V else z32
def chkR (root idx : By) (p : Prf) : Value := .tuple #[arr (chkV root idx p), .bool (decide (chkT root idx p)), .int .i64 (chkE root idx p)]
theorem chk_no {root idx : By} {p : Prf} (h : ¬ provesP root idx p) : chkR root idx p = .tuple #[arr z32, .bool false, .int .i64 15] := by
 have h2 : ¬ chkT root idx p := fun hc => h hc.1
 unfold chkR chkV chkE
 rw [if_neg h2, if_neg h, decide_eq_false h2]
theorem chk_yes {root idx : By} {p : Prf} (h : chkT root idx p) : chkR root idx p = .tuple #[arr p.V, .bool true, .int .i64 0] := by
 unfold chkR chkV chkE
 rw [if_pos h, if_pos h.1, decide_eq_true h]
theorem chk_off {root idx : By} {p : Prf} (h : provesP root idx p) (h2 : ¬ (p.E = 1 ∧ p.I = idx)) : chkR root idx p = .tuple #[arr z32, .bool false, .int .i64 0] := by
 have h3 : ¬ chkT root idx p := fun hc => h2 hc.2
 unfold chkR chkV chkE
 rw [if_neg h3, if_pos h, decide_eq_false h3]
theorem ret3c {P : Program} {R : Value → World → Prop} {r : Fr} {w : World} {t T u s : Nat} {p : Addr} {v v' v'' : Value} (ht : r t = .pointer (some p)) (hr : Reads P w T p v) (hu : r u = v') (hs : r s = v'') (h : R (.tuple #[v, v', v'']) w) : bodyQ P [.cell t T, .tmp u, .tmp s] R .ret r w :=
 ⟨[v, v', v''], ⟨⟨p, ht, hr⟩, hu, hs, trivial⟩, h⟩
section
variable {m : Mem} {wI : World}
theorem c_pcheck {v : Value} {root idx : By} {p : Prf} (him : Im m wI) (hr : root.length = 32) (hx : idx.length = 32) (hp : PrM m v p) :
  Ret Try.prog 49 #[arr root, arr idx, v] wI fun v' w' => Out m wI w' fun _ => v' = chkR root idx p := by
 have st := St.start him
 have hp0 := hp
 obtain ⟨sv, rfl, hs, hI, hV⟩ := hp
 obtain ⟨sa, sc, rfl⟩ := hs.sl
 refine ret_of Try.call49 Try.func49 rfl Try.ntmps49 Try.results49 rfl ?_
 refine wc_seq ?_
 refine wc_region ?_
 refine wl_box (v := arr root) rfl st rfl ?_
 intro b3 w st
 refine wl_box (v := arr idx) rfl st rfl ?_
 intro b4 w st
 refine wl_box (v := .agg (prC (.slice sa p.S.length sc) p.E p.I p.V)) rfl st rfl ?_
 intro b5 w st
 refine wl_alloc TF.z23 st rfl ?_
 intro b6 w st
 refine wl_val (v_assign' (by conv => (lhs; whnf))) rfl ?_
 refine wl_val (v_assign' (by conv => (lhs; whnf))) rfl ?_
 refine wl_nil ?_
 refine then_go ?_
 refine wc_seq ?_
 refine wc_block ?_
 refine wc_seq ?_
 refine wc_block ?_
 refine wc_block ?_
 refine wc_block ?_
 refine wc_seq ?_
 refine wc_seq ?_
 refine wc_seq ?_
 refine wc_region ?_
 refine wl_val (v_load rfl (st.reads (v := .agg (prC (.slice sa p.S.length sc) p.E p.I p.V)) 1 rfl TF.t40 (getV_all (size_prC hI hV)))) rfl ?_
 refine wl_call rfl (c_right st.im hp0) rfl ?_
 rintro v11 w ⟨t11, rfl⟩
 have st := st.pure t11
 refine wl_val (v_not rfl) rfl ?_
 refine wl_val (v_assign' (by conv => (lhs; whnf))) rfl ?_
 refine wl_nil ?_
 refine then_go ?_
 refine wc_cond rfl (fun h9 => ?_) (fun h9 => ?_)
 ·refine wc_exit (then_exit (then_exit (block_hit ?_)))
  refine block_go (block_go (then_go ?_))
  refine wc_seq ?_
  refine wc_seq ?_
  refine wc_region ?_
  refine wl_val v_z32 rfl ?_
  refine wl_storeW (cs := (bs z32).toArray) 0 st rfl TF.t23 rfl rfl rfl rfl (fun u hu => one_bs z32 u (by simpa using hu)) ?_
  intro w st
  refine wl_val (v_assign' (by conv => (lhs; whnf))) rfl ?_
  refine wl_val (v_assign' (by conv => (lhs; whnf))) rfl ?_
  refine wl_nil ?_
  refine then_go ?_
  refine wc_ret (then_ret (block_ret (then_ret ?_)))
  have hno : ¬ provesP root idx p := fun hc => by have := hc.1; simp [this] at h9
  exact ret3c rfl (st.reads 0 rfl TF.t23 (getV_all rfl)) rfl rfl ((st.keepOnly (l := []) (List.nil_sublist _)).out (by rw [chk_no hno]; rfl))
 ·refine wc_skip ?_
  refine then_go ?_
  refine wc_seq ?_
  refine wc_seq ?_
  refine wc_region ?_
  refine wl_val (v_fa TF.f40_1 rfl) rfl ?_
  refine wl_val (v_load rfl (st.reads (v := .int .i64 p.E) 1 rfl TF.t3 prC_E)) rfl ?_
  refine wl_val (v_eql rfl rfl) rfl ?_
  refine wl_val (v_move' (by conv => (lhs; whnf))) rfl ?_
  by_cases hg3 : p.E = 1
  ·rw [show decide (p.E = 1) = true from decide_eq_true hg3]
   refine wl_on rfl rfl ?_
   refine wl_val (v_fa TF.f40_2 rfl) rfl ?_
   refine wl_on rfl rfl ?_
   refine wl_val (v_load rfl (st.reads (v := arr p.I) 1 rfl TF.t23 (prC_I hI))) rfl ?_
   refine wl_on rfl rfl ?_
   refine wl_val (v_load rfl (st.reads (v := arr idx) 2 rfl TF.t23 (getV_all (by rw [size_arr, hx])))) rfl ?_
   refine wl_on rfl rfl ?_
   refine wl_val (v_fa TF.f40_0 rfl) rfl ?_
   refine wl_on rfl rfl ?_
   refine wl_val (v_load rfl (st.reads (v := .slice sa p.S.length sc) 1 rfl TF.t38 prC_S)) rfl ?_
   refine wl_on rfl rfl ?_
   refine wl_val (v_len_s Try.underlying38 rfl) rfl ?_
   refine wl_on rfl rfl ?_
   refine wl_call rfl (c_under st.im hI hx) rfl ?_
   rintro v24 w ⟨t24, rfl⟩
   have st := st.pure t24
   refine wl_on rfl rfl ?_
   refine wl_val (v_not rfl) rfl ?_
   refine wl_val (v_pick rfl) rfl ?_
   refine wl_val (v_assign' (by conv => (lhs; whnf))) rfl ?_
   refine wl_nil ?_
   refine then_go ?_
   refine wc_cond rfl (fun h13 => ?_) (fun h13 => ?_)
   ·refine wc_exit (then_exit (then_exit (block_miss rfl (block_hit ?_))))
    refine block_go (then_go ?_)
    refine wc_seq ?_
    refine wc_seq ?_
    refine wc_region ?_
    refine wl_val v_z32 rfl ?_
    refine wl_storeW (cs := (bs z32).toArray) 0 st rfl TF.t23 rfl rfl rfl rfl (fun u hu => one_bs z32 u (by simpa using hu)) ?_
    intro w st
    refine wl_val (v_assign' (by conv => (lhs; whnf))) rfl ?_
    refine wl_val (v_assign' (by conv => (lhs; whnf))) rfl ?_
    refine wl_nil ?_
    refine then_go ?_
    refine wc_ret (then_ret (block_ret (then_ret ?_)))
    have hno : ¬ provesP root idx p := fun hc => by have := hc.2.1 hg3; simp at h13; omega
    exact ret3c rfl (st.reads 0 rfl TF.t23 (getV_all rfl)) rfl rfl ((st.keepOnly (l := []) (List.nil_sublist _)).out (by rw [chk_no hno]; rfl))
   ·refine wc_skip ?_
    refine then_go ?_
    refine wc_seq ?_
    have hok : rightP p := by simpa using h9
    refine wc_draw TF.mixed ?_
    have st := st.pure (touch_drew _)
    refine fl_ld 0 rfl (v_load rfl (st.reads (v := arr idx) 2 rfl TF.t23 (getV_all (by rw [size_arr, hx])))) (by kernel_rfl) ?_
    refine fl_ld 1 rfl (v_load rfl (st.reads (v := .agg (prC (.slice sa p.S.length sc) p.E p.I p.V)) 1 rfl TF.t40 (getV_all (size_prC hI hV)))) (by kernel_rfl) ?_
    refine fl_ld 3 rfl (v_load rfl (st.reads (v := arr root) 3 rfl TF.t23 (getV_all (by rw [size_arr, hr])))) (by kernel_rfl) ?_
    refine fl_eff1 2 [] [3] (by kernel_rfl) ⟨obl_ld rfl rfl rfl (v_load rfl (st.reads (v := arr root) 3 rfl TF.t23 (getV_all (by rw [size_arr, hr])))), obl_ld rfl rfl rfl (v_load rfl (st.reads (v := .agg (prC (.slice sa p.S.length sc) p.E p.I p.V)) 1 rfl TF.t40 (getV_all (size_prC hI hV)))), obl_ld rfl rfl rfl (v_load rfl (st.reads (v := arr idx) 2 rfl TF.t23 (getV_all (by rw [size_arr, hx])))), trivial⟩ rfl ?_
    refine wl_call rfl (c_proot st.im hx hp0 (by have := hok.1; omega)) rfl ?_
    rintro v30 w ⟨t30, m1, hg1, hi1, rfl⟩
    have st := st.grown hg1 t30 hi1
    refine wl_nil ⟨rfl, ?_⟩
    refine fl_val 4 rfl (fun _ => (v_neD rfl rfl (length_sum _) hr)) rfl (by kernel_rfl) ?_
    refine fl_eff1 5 [] [3] (by kernel_rfl) ⟨obl_ld rfl rfl rfl (v_load rfl (st.reads (v := arr root) 3 rfl TF.t23 (getV_all (by rw [size_arr, hr])))), trivial⟩ rfl ?_
    refine wl_val (v_assign' (by conv => (lhs; whnf))) rfl ?_
    refine wl_nil ⟨rfl, ?_⟩
    refine fl_nil (by kernel_rfl) ⟨obl_ld rfl rfl rfl (v_load rfl (st.reads (v := arr root) 3 rfl TF.t23 (getV_all (by rw [size_arr, hr])))), trivial⟩ ?_
    refine then_go ?_
    refine wc_if rfl (fun h27 => ?_) (fun h27 => ?_)
    ·refine wc_exit (then_exit (block_miss rfl (block_miss rfl (block_hit ?_))))
     refine then_go ?_
     refine wc_seq ?_
     refine wc_seq ?_
     refine wc_region ?_
     refine wl_val v_z32 rfl ?_
     refine wl_storeW (cs := (bs z32).toArray) 0 st rfl TF.t23 rfl rfl rfl rfl (fun u hu => one_bs z32 u (by simpa using hu)) ?_
     intro w st
     refine wl_val (v_assign' (by conv => (lhs; whnf))) rfl ?_
     refine wl_val (v_assign' (by conv => (lhs; whnf))) rfl ?_
     refine wl_nil ?_
     refine then_go ?_
     refine wc_ret (then_ret (block_ret (then_ret ?_)))
     have hno : ¬ provesP root idx p := fun hc => h27 hc.2.2
     exact ret3c rfl (st.reads 0 rfl TF.t23 (getV_all rfl)) rfl rfl ((st.keepOnly (l := []) (List.nil_sublist _)).out (by rw [chk_no hno]; rfl))
    ·refine wc_skip ?_
     refine then_go ?_
     refine wc_exit (block_miss rfl (block_miss rfl (block_miss rfl (then_exit (block_hit ?_)))))
     refine then_go ?_
     refine wc_seq ?_
     refine wc_seq ?_
     refine wc_region ?_
     refine wl_val (v_fa TF.f40_1 rfl) rfl ?_
     refine wl_val (v_load rfl (st.reads (v := .int .i64 p.E) 1 rfl TF.t3 prC_E)) rfl ?_
     refine wl_val (v_eqlT hg3 rfl rfl) rfl ?_
     refine wl_val (v_move' (by conv => (lhs; whnf))) rfl ?_
     refine wl_on rfl rfl ?_
     refine wl_val (v_fa TF.f40_2 rfl) rfl ?_
     refine wl_on rfl rfl ?_
     refine wl_val (v_load rfl (st.reads (v := arr p.I) 1 rfl TF.t23 (prC_I hI))) rfl ?_
     refine wl_on rfl rfl ?_
     refine wl_val (v_load rfl (st.reads (v := arr idx) 2 rfl TF.t23 (getV_all (by rw [size_arr, hx])))) rfl ?_
     refine wl_on rfl rfl ?_
     refine wl_val (v_eqD rfl rfl hI hx) rfl ?_
     refine wl_val (v_pick rfl) rfl ?_
     refine wl_nil ?_
     refine then_go ?_
     refine wc_if rfl (fun h42 => ?_) (fun h42 => ?_)
     ·refine wc_seq ?_
      refine wc_region ?_
      refine wl_val (v_fa TF.f40_3 rfl) rfl ?_
      refine wl_val (v_load rfl (st.reads (v := arr p.V) 1 rfl TF.t23 (prC_V hI hV))) rfl ?_
      refine wl_storeW (cs := (bs p.V).toArray) 0 st rfl TF.t23 rfl rfl (by simp [length_bs, hV]) rfl (fun u hu => one_bs _ u (by simpa using hu)) ?_
      intro w st
      refine wl_val (v_assign' (by conv => (lhs; whnf))) rfl ?_
      refine wl_val (v_assign' (by conv => (lhs; whnf))) rfl ?_
      refine wl_nil ?_
      refine then_go ?_
      refine wc_ret (then_ret ?_)
      have hyes : provesP root idx p := ⟨hok, fun _ => by simp at h13; omega, Decidable.not_not.1 h27⟩
      exact ret3c rfl (st.reads 0 rfl TF.t23 (getV_all (by simp [length_bs, hV]))) rfl rfl ((st.keepOnly (l := []) (List.nil_sublist _)).out (by rw [chk_yes ⟨hyes, hg3, h42⟩]; rfl))
     ·refine wc_skip ?_
      refine then_go ?_
      refine wc_seq ?_
      refine wc_region ?_
      refine wl_val v_z32 rfl ?_
      refine wl_storeW (cs := (bs z32).toArray) 0 st rfl TF.t23 rfl rfl rfl rfl (fun u hu => one_bs z32 u (by simpa using hu)) ?_
      intro w st
      refine wl_val (v_assign' (by conv => (lhs; whnf))) rfl ?_
      refine wl_val (v_assign' (by conv => (lhs; whnf))) rfl ?_
      refine wl_nil ?_
      refine then_go ?_
      refine wc_ret ?_
      have hyes : provesP root idx p := ⟨hok, fun _ => by simp at h13; omega, Decidable.not_not.1 h27⟩
      exact ret3c rfl (st.reads 0 rfl TF.t23 (getV_all rfl)) rfl rfl ((st.keepOnly (l := []) (List.nil_sublist _)).out (by rw [chk_off hyes (fun hc => h42 hc.2)]; rfl))
  ·rw [show decide (p.E = 1) = false from decide_eq_false hg3]
   refine wl_off rfl rfl rfl rfl ?_
   refine wl_off rfl rfl rfl rfl ?_
   refine wl_off rfl rfl rfl rfl ?_
   refine wl_off rfl rfl rfl rfl ?_
   refine wl_off rfl rfl rfl rfl ?_
   refine wl_off rfl rfl rfl rfl ?_
   refine wl_off rfl rfl rfl rfl ?_
   refine wl_off rfl rfl rfl rfl ?_
   refine wl_val (v_pick rfl) rfl ?_
   refine wl_val (v_assign' (by conv => (lhs; whnf))) rfl ?_
   refine wl_nil ?_
   refine then_go ?_
   refine wc_false rfl ?_
   refine wc_skip ?_
   refine then_go ?_
   refine wc_seq ?_
   have hok : rightP p := by simpa using h9
   refine wc_draw TF.mixed ?_
   have st := st.pure (touch_drew _)
   refine fl_ld 0 rfl (v_load rfl (st.reads (v := arr idx) 2 rfl TF.t23 (getV_all (by rw [size_arr, hx])))) (by kernel_rfl) ?_
   refine fl_ld 1 rfl (v_load rfl (st.reads (v := .agg (prC (.slice sa p.S.length sc) p.E p.I p.V)) 1 rfl TF.t40 (getV_all (size_prC hI hV)))) (by kernel_rfl) ?_
   refine fl_ld 3 rfl (v_load rfl (st.reads (v := arr root) 3 rfl TF.t23 (getV_all (by rw [size_arr, hr])))) (by kernel_rfl) ?_
   refine fl_eff1 2 [] [3] (by kernel_rfl) ⟨obl_ld rfl rfl rfl (v_load rfl (st.reads (v := arr root) 3 rfl TF.t23 (getV_all (by rw [size_arr, hr])))), obl_ld rfl rfl rfl (v_load rfl (st.reads (v := .agg (prC (.slice sa p.S.length sc) p.E p.I p.V)) 1 rfl TF.t40 (getV_all (size_prC hI hV)))), obl_ld rfl rfl rfl (v_load rfl (st.reads (v := arr idx) 2 rfl TF.t23 (getV_all (by rw [size_arr, hx])))), trivial⟩ rfl ?_
   refine wl_call rfl (c_proot st.im hx hp0 (by have := hok.1; omega)) rfl ?_
   rintro v30 w ⟨t30, m1, hg1, hi1, rfl⟩
   have st := st.grown hg1 t30 hi1
   refine wl_nil ⟨rfl, ?_⟩
   refine fl_val 4 rfl (fun _ => (v_neD rfl rfl (length_sum _) hr)) rfl (by kernel_rfl) ?_
   refine fl_eff1 5 [] [3] (by kernel_rfl) ⟨obl_ld rfl rfl rfl (v_load rfl (st.reads (v := arr root) 3 rfl TF.t23 (getV_all (by rw [size_arr, hr])))), trivial⟩ rfl ?_
   refine wl_val (v_assign' (by conv => (lhs; whnf))) rfl ?_
   refine wl_nil ⟨rfl, ?_⟩
   refine fl_nil (by kernel_rfl) ⟨obl_ld rfl rfl rfl (v_load rfl (st.reads (v := arr root) 3 rfl TF.t23 (getV_all (by rw [size_arr, hr])))), trivial⟩ ?_
   refine then_go ?_
   refine wc_if rfl (fun h27 => ?_) (fun h27 => ?_)
   ·refine wc_exit (then_exit (block_miss rfl (block_miss rfl (block_hit ?_))))
    refine then_go ?_
    refine wc_seq ?_
    refine wc_seq ?_
    refine wc_region ?_
    refine wl_val v_z32 rfl ?_
    refine wl_storeW (cs := (bs z32).toArray) 0 st rfl TF.t23 rfl rfl rfl rfl (fun u hu => one_bs z32 u (by simpa using hu)) ?_
    intro w st
    refine wl_val (v_assign' (by conv => (lhs; whnf))) rfl ?_
    refine wl_val (v_assign' (by conv => (lhs; whnf))) rfl ?_
    refine wl_nil ?_
    refine then_go ?_
    refine wc_ret (then_ret (block_ret (then_ret ?_)))
    have hno : ¬ provesP root idx p := fun hc => h27 hc.2.2
    exact ret3c rfl (st.reads 0 rfl TF.t23 (getV_all rfl)) rfl rfl ((st.keepOnly (l := []) (List.nil_sublist _)).out (by rw [chk_no hno]; rfl))
   ·refine wc_skip ?_
    refine then_go ?_
    refine wc_exit (block_miss rfl (block_miss rfl (block_miss rfl (then_exit (block_hit ?_)))))
    refine then_go ?_
    refine wc_seq ?_
    refine wc_seq ?_
    refine wc_region ?_
    refine wl_val (v_fa TF.f40_1 rfl) rfl ?_
    refine wl_val (v_load rfl (st.reads (v := .int .i64 p.E) 1 rfl TF.t3 prC_E)) rfl ?_
    refine wl_val (v_eqlF hg3 rfl rfl) rfl ?_
    refine wl_val (v_move' (by conv => (lhs; whnf))) rfl ?_
    refine wl_off rfl rfl rfl rfl ?_
    refine wl_off rfl rfl rfl rfl ?_
    refine wl_off rfl rfl rfl rfl ?_
    refine wl_off rfl rfl rfl rfl ?_
    refine wl_val (v_pick rfl) rfl ?_
    refine wl_nil ?_
    refine then_go ?_
    refine wc_false rfl ?_
    refine wc_skip ?_
    refine then_go ?_
    refine wc_seq ?_
    refine wc_region ?_
    refine wl_val v_z32 rfl ?_
    refine wl_storeW (cs := (bs z32).toArray) 0 st rfl TF.t23 rfl rfl rfl rfl (fun u hu => one_bs z32 u (by simpa using hu)) ?_
    intro w st
    refine wl_val (v_assign' (by conv => (lhs; whnf))) rfl ?_
    refine wl_val (v_assign' (by conv => (lhs; whnf))) rfl ?_
    refine wl_nil ?_
    refine then_go ?_
    refine wc_ret ?_
    have hyes : provesP root idx p := ⟨hok, fun hc => (hg3 hc).elim, Decidable.not_not.1 h27⟩
    exact ret3c rfl (st.reads 0 rfl TF.t23 (getV_all rfl)) rfl rfl ((st.keepOnly (l := []) (List.nil_sublist _)).out (by rw [chk_off hyes (fun hc => hg3 hc.1)]; rfl))
end
end Go.Proofs.Ytjjpakjgppmmdaa

namespace Go.Proofs.Ytjjpakjgppmmdaa
open Go Go.RowKit K SH PT
section
variable {P : Program} {n : Nat} {ops : Array Oper} {Q : Po} {rest : List Oper} {r : Fr} {w : World} {d : Nat} {ty : TypeId} {pos : String} {after : Array Edge} {m0 m : Mem} {F : List Nat} {w0 : World} {Es : List Ent}
theorem wl_s2b {S T E : TypeId} {x : Operand} {l : By} (hS : P.underlying S = some .string) (hT : P.underlying T = some (.slice E)) (hE : P.underlying E = some (.int .u8)) (hx : ev r x = .string (strB l)) (st : St m0 m F w0 w Es) (hd : Nat.blt d n = true)
  (k : ∀ v' m' w', Grow m m' w.heap.size → SlM m' v' 1 l.length (bs l) → v'.oneCell' = true → St m0 m' F w0 w' Es → WL P n ops Q rest (upd d v' r) w') :
  WL P n ops Q (⟨some d, .convert S T x, ty, pos, after, none⟩ :: rest) r w := by
 have hrun := Lib.run_convert_string_bytes (P := P) w S T E (strB l) hS hT hE
 have hnone : m w.heap.size = none := by
  cases hm : m w.heap.size with
  | none => rfl
  | some o => exact absurd (lt_of_get (st.im _ _ hm)) (Nat.lt_irrefl _)
 obtain ⟨o, ho⟩ : ∃ o, o = Obj.cells (Lib.bytesCells w E (strB l)) E ((Lib.bytesCells w E (strB l)).size, (Lib.bytesCells w E (strB l)).size + 1) := ⟨_, rfl⟩
 have hnew := Lib.bytesWorld_at_new w E (strB l)
 rw [← ho] at hnew
 have hg : Grow m (fun j => if j = w.heap.size then some o else m j) w.heap.size := by
  refine ⟨fun j u hj => ?_, fun j u hj => ?_⟩
  ·by_cases h : j = w.heap.size
   ·rw [h, hnone] at hj; cases hj
   ·simp [h, hj]
  ·by_cases h : j = w.heap.size
   ·exact .inr (by omega)
   ·simp [h] at hj; exact .inl hj
 have t : Tch w (Lib.bytesWorld w E (strB l)) [] [] :=
  ⟨rfl, rfl, rfl, by rw [Lib.bytesWorld_size]; omega, fun j hj _ => Lib.bytesWorld_at_old w E (strB l) j hj, by simp⟩
 have hi : Im (fun j => if j = w.heap.size then some o else m j) (Lib.bytesWorld w E (strB l)) := by
  intro j u hj
  by_cases h : j = w.heap.size
  ·simp [h] at hj; subst hj; rw [h]; exact hnew
  ·simp [h] at hj
   rw [Lib.bytesWorld_at_old w E (strB l) j (lt_of_get (st.im _ _ hj))]
   exact st.im _ _ hj
 refine wl_val (v := .slice (some ⟨w.heap.size, 0, none⟩) (strB l).size (grownCap w (strB l).size 0 E)) (w' := Lib.bytesWorld w E (strB l)) ?_ hd (k _ _ _ hg ?_ rfl (st.grown hg t hi))
 ·intro _ _ _ _
  simp only [execOp, hx, Sem.run_bind, hrun, Result.andThen_ok, Sem.run_pure]
 ·have hsz : (strB l).size = l.length := rfl
  have hge := grownCap_ge w (strB l).size 0 E
  rw [hsz] at hge ⊢
  refine SlM.ofBlock (pre := []) (post := List.replicate (grownCap w (strB l).size 0 E - (strB l).size) (.int .u8 0)) (by rw [if_pos rfl, ho]) ?_ rfl hge
  simp [Lib.bytesCells, strB, bs, u8]
end
def valB (salt : By) (b : Bd) : By := 86 :: (salt ++ (num8 (UInt64.ofNat b.name.length) ++ (b.name ++ (num8 b.serial ++ b.key))))
theorem valB_len {salt : By} {b : Bd} (hs : salt.length = 32) : (valB salt b).length = 49 + b.name.length + b.key.length := by
 simp [valB, length_num8, hs]; omega
section
variable {m : Mem} {wI : World}
theorem c_valueb {v : Value} {salt : By} {b : Bd} (him : Im m wI) (hs : salt.length = 32) (hb : BdM m v b) (hn : b.name.length ≤ 1000000) (hk : b.key.length ≤ 1000000) :
  Ret Try.prog 61 #[arr salt, v] wI fun v w' => Out m wI w' fun m' => SlM m' v 1 (valB salt b).length (bs (valB salt b)) := by
 have st := St.start him
 obtain ⟨kv, rfl, hkey, hnl⟩ := hb
 obtain ⟨_, ka, kc, rfl, _⟩ := id hkey
 have hno : (IntKind.u64.wrap (b.name.length : Int) : Int) = (UInt64.ofNat b.name.length).toNat := by
  rw [wrap_u64_small (by omega)]
  rw [UInt64.toNat_ofNat', Nat.mod_eq_of_lt (by omega)]
 refine ret_of Try.call61 Try.func61 rfl Try.ntmps61 Try.results61 rfl ?_
 refine wc_seq ?_
 refine wc_region ?_
 refine wl_box (v := arr salt) rfl st rfl ?_
 intro b2 w st
 refine wl_box (v := .agg (bdC b (.slice ka b.key.length kc)).toArray) rfl st rfl ?_
 intro b3 w st
 refine wl_val (v_assign' (by conv => (lhs; whnf))) rfl ?_
 refine wl_nil ?_
 obtain ⟨m1, hg1, hm1, st⟩ := st.freeze (i := 0) rfl (by simp)
 change St _ _ _ _ _ [_] at st
 obtain ⟨m2, hg2, hm2, st⟩ := st.freeze (i := 0) rfl (by simp)
 change St _ _ _ _ _ [] at st
 have hm1 := hg2.le _ _ hm1
 have hkey := hkey.mono (fun k o h => hg2.le _ _ (hg1.le _ _ h))
 have hsl : SlM m2 (.slice (some ⟨b2, 0 + 0 * 1, none⟩) (32 - 0) (32 - 0)) 1 salt.length (bs salt) := by
  have := SlM.ofBlock (o := 0) (cap := 32) (l := salt) (pre := []) (post := []) hm2 (by simp [arr, Value.cells]) rfl (by omega)
  rw [hs] at this ⊢
  exact this
 refine then_go ?_
 refine wc_seq ?_
 refine wc_draw TF.mixed ?_
 have st := st.pure (touch_drew _)
 show FL _ _ ?ops1 ?post1 [] [] [] _ _
 have fin : ∀ (r : Fr) (w : World) (m3 : Mem) (v10 v13 v16 : Value), r 5 = .slice (some ⟨b2, 0 + 0 * 1, none⟩) (32 - 0) (32 - 0) → r 10 = v10 → r 13 = v13 → r 16 = v16 → r 3 = .pointer (some ⟨b3, 0, none⟩) → r 6 = .pointer (some ⟨b3, 0 + 0, none⟩) → r 7 = .string (strB b.name) → r 17 = .pointer (some ⟨b3, 0 + 1, none⟩) → r 18 = .slice ka b.key.length kc → m3 b3 = some (.cells (Value.agg (bdC b (.slice ka b.key.length kc)).toArray).cells 43 (0, 0)) →
  SlM m3 (.slice (some ⟨b2, 0 + 0 * 1, none⟩) (32 - 0) (32 - 0)) 1 salt.length (bs salt) → SlM m3 v10 1 (num8 (UInt64.ofNat b.name.length)).length (bs (num8 (UInt64.ofNat b.name.length))) → SlM m3 v13 1 b.name.length (bs b.name) → SlM m3 v16 1 (num8 b.serial).length (bs (num8 b.serial)) → SlM m3 (.slice ka b.key.length kc) 1 b.key.length (bs b.key) →
  St m m3 [] wI w [] → FL Try.prog 21 ?ops1 ?post1 [11, 8, 5, 13, 12, 10, 9, 7, 6, 4, 3, 2, 1, 0] [12, 9, 6, 3, 1, 0] [13, 2] r w := by
  clear st hsl hkey hm1 hm2
  rintro r w m3 v10 v13 v16 g5 g10 g13 g16 g3 g6 g7 g17 g18 hm1 hsl h10 h13 h16 hkey st
  refine fl_o 5 g5 (fl_o 10 g10 (fl_o 13 g13 (fl_o 16 g16 (fl_o 3 g3 (fl_o 6 g6 (fl_o 7 g7 (fl_o 17 g17 (fl_o 18 g18 ?_))))))))
  refine fl_eff1 14 [12, 9, 6, 3, 1] [2] (by kernel_rfl) ⟨obl_ld rfl rfl rfl (v_load rfl (st.readm (v := .slice ka b.key.length kc) hm1 TF.t41 rfl)), obl_ld rfl rfl rfl (v_load rfl (st.readm (v := .string (strB b.name)) hm1 TF.t9 rfl)), trivial⟩ rfl ?_
  refine wl_pcsN [(salt, .slice (some ⟨b2, 0 + 0 * 1, none⟩) (32 - 0) (32 - 0)), (num8 (UInt64.ofNat b.name.length), v10), (b.name, v13), (num8 b.serial, v16), (b.key, .slice ka b.key.length kc)] st rfl (by decide) (by decide) rfl (by simp only [List.mem_cons, List.not_mem_nil, or_false]; rintro z (rfl | rfl | rfl | rfl | rfl) <;> first | exact hsl | exact h10 | exact h13 | exact h16 | exact hkey) rfl ?_
  intro m4 v19 w hle4 st hp4
  have hm1 := hle4 _ _ hm1
  refine wl_nil ⟨rfl, ?_⟩
  refine fl_eff1 15 [12, 9, 6, 3, 1] [2] (by kernel_rfl) ⟨obl_ld rfl rfl rfl (v_load rfl (st.readm (v := .string (strB b.name)) hm1 TF.t9 rfl)), trivial⟩ rfl ?_
  have hj : ∀ a b' c d e, joinB [(salt, a), (num8 (UInt64.ofNat b.name.length), b'), (b.name, c), (num8 b.serial, d), (b.key, e)] = salt ++ (num8 (UInt64.ofNat b.name.length) ++ (b.name ++ (num8 b.serial ++ b.key))) := fun a b' c d e => by simp [joinB]
  refine wl_call rfl (c_begin (c := 86) st.im hp4 (by rw [hj]; simp [length_num8, hs]; omega) (by simp)) rfl ?_
  rintro v20 w ⟨t20, m5, hg5, hi5, hs5⟩
  have st := st.grown hg5 t20 hi5
  have hm1 := hg5.le _ _ hm1
  rw [hj] at hs5
  refine wl_nil ⟨rfl, ?_⟩
  refine fl_eff1 16 [] [] (by kernel_rfl) ⟨obl_ld rfl rfl rfl (v_load rfl (st.readm (v := .string (strB b.name)) hm1 TF.t9 rfl)), trivial⟩ rfl ?_
  refine wl_val (v_assign' (by conv => (lhs; whnf))) rfl ?_
  refine wl_nil ⟨rfl, ?_⟩
  refine fl_nil (by kernel_rfl) trivial ?_
  refine then_go ?_
  refine wc_ret ?_
  exact ret1 rfl (st.out hs5)
 refine fl_val 0 rfl (fun _ => (v_sla 0 32 Try.underlying23 TF.t5 rfl rfl rfl (by omega) (by omega) (by omega))) rfl (by kernel_rfl) ?_
 refine fl_val 1 rfl (fun _ => (v_fa TF.f43_0 rfl)) rfl (by kernel_rfl) ?_
 refine fl_ld 2 rfl (v_load rfl (st.readm (v := .string (strB b.name)) hm1 TF.t9 rfl)) (by kernel_rfl) ?_
 refine fl_val 3 rfl (fun _ => (v_len_str Try.underlying9 rfl)) rfl (by kernel_rfl) ?_
 refine fl_val 4 rfl (fun _ => (v_to (v' := u64 (UInt64.ofNat b.name.length)) (v_conv Try.underlying3 Try.underlying24 rfl) (by show _ = Value.int .u64 _; rw [← hno]; rfl))) rfl (by kernel_rfl) ?_
 refine fl_val 6 rfl (fun _ => (v_fa TF.f43_0 rfl)) rfl (by kernel_rfl) ?_
 refine fl_ld 7 rfl (v_load rfl (st.readm (v := .string (strB b.name)) hm1 TF.t9 rfl)) (by kernel_rfl) ?_
 refine fl_val 9 rfl (fun _ => (v_fa TF.f43_2 rfl)) rfl (by kernel_rfl) ?_
 refine fl_ld 10 rfl (v_load rfl (st.readm (v := u64 b.serial) hm1 TF.t24 rfl)) (by kernel_rfl) ?_
 refine fl_val 12 rfl (fun _ => (v_fa TF.f43_1 rfl)) rfl (by kernel_rfl) ?_
 refine fl_ld 13 rfl (v_load rfl (st.readm (v := .slice ka b.key.length kc) hm1 TF.t41 rfl)) (by kernel_rfl) ?_
 refine fl_effs [5, 8] (by kernel_rfl) ⟨obl_ld rfl rfl rfl (v_load rfl (st.readm (v := .slice ka b.key.length kc) hm1 TF.t41 rfl)), obl_ld rfl rfl rfl (v_load rfl (st.readm (v := u64 b.serial) hm1 TF.t24 rfl)), obl_ld rfl rfl rfl (v_load rfl (st.readm (v := .string (strB b.name)) hm1 TF.t9 rfl)), obl_ld rfl rfl rfl (v_load rfl (st.readm (v := .string (strB b.name)) hm1 TF.t9 rfl)), trivial⟩ (all2 ?_ ?_)
 ·refine stepE 5 (pure' := [12, 9, 6, 3, 1, 0]) (lds' := [13, 10, 7, 2]) rfl (by kernel_rfl) (by kernel_rfl) ?_
  refine wl_call rfl (c_number st.im) rfl ?_
  rintro v10 w ⟨t10, m10, hg10, hi10, h10⟩
  have st := st.grown hg10 t10 hi10
  have hm1 := hg10.le _ _ hm1
  have hsl := hsl.mono hg10.le
  have hkey := hkey.mono hg10.le
  first | (have h13 := h13.mono hg10.le) | skip
  refine wl_nil ⟨rfl, ?_⟩
  refine fl_effs [8, 11] (by kernel_rfl) ⟨obl_ld rfl rfl rfl (v_load rfl (st.readm (v := .slice ka b.key.length kc) hm1 TF.t41 rfl)), obl_ld rfl rfl rfl (v_load rfl (st.readm (v := u64 b.serial) hm1 TF.t24 rfl)), obl_ld rfl rfl rfl (v_load rfl (st.readm (v := .string (strB b.name)) hm1 TF.t9 rfl)), obl_ld rfl rfl rfl (v_load rfl (st.readm (v := .string (strB b.name)) hm1 TF.t9 rfl)), trivial⟩ (all2 ?_ ?_)
  ·refine stepE 8 (pure' := [12, 9, 6, 3, 1, 0]) (lds' := [13, 10, 2]) rfl (by kernel_rfl) (by kernel_rfl) ?_
   refine wl_s2b Try.underlying9 Try.underlying41 Try.underlying5 rfl st rfl ?_
   intro v13 m13 w hg13 h13 _ st
   have hm1 := hg13.le _ _ hm1
   have hsl := hsl.mono hg13.le
   have hkey := hkey.mono hg13.le
   first | (have h10 := h10.mono hg13.le) | skip
   first | (have h16 := h16.mono hg13.le) | skip
   refine wl_nil ⟨rfl, ?_⟩
   refine fl_eff1 11 [12, 9, 6, 3, 1, 0] [13, 2] (by kernel_rfl) ⟨obl_ld rfl rfl rfl (v_load rfl (st.readm (v := .slice ka b.key.length kc) hm1 TF.t41 rfl)), obl_ld rfl rfl rfl (v_load rfl (st.readm (v := u64 b.serial) hm1 TF.t24 rfl)), obl_ld rfl rfl rfl (v_load rfl (st.readm (v := .string (strB b.name)) hm1 TF.t9 rfl)), trivial⟩ rfl ?_
   refine wl_call rfl (c_number st.im) rfl ?_
   rintro v16 w ⟨t16, m16, hg16, hi16, h16⟩
   have st := st.grown hg16 t16 hi16
   have hm1 := hg16.le _ _ hm1
   have hsl := hsl.mono hg16.le
   have hkey := hkey.mono hg16.le
   have h10 := h10.mono hg16.le
   first | (have h13 := h13.mono hg16.le) | skip
   refine wl_nil ⟨rfl, ?_⟩
   refine FL.permB [11, 8, 5, 13, 12, 10, 9, 7, 6, 4, 3, 2, 1, 0] [12, 9, 6, 3, 1, 0] [13, 2] (by kernel_rfl) ?_
   exact fin _ _ _ _ _ _ rfl rfl rfl rfl rfl rfl rfl rfl rfl hm1 hsl h10 h13 h16 hkey st
  ·refine stepE 11 (pure' := [12, 9, 6, 3, 1, 0]) (lds' := [13, 7, 2]) rfl (by kernel_rfl) (by kernel_rfl) ?_
   refine wl_call rfl (c_number st.im) rfl ?_
   rintro v16 w ⟨t16, m16, hg16, hi16, h16⟩
   have st := st.grown hg16 t16 hi16
   have hm1 := hg16.le _ _ hm1
   have hsl := hsl.mono hg16.le
   have hkey := hkey.mono hg16.le
   have h10 := h10.mono hg16.le
   first | (have h13 := h13.mono hg16.le) | skip
   refine wl_nil ⟨rfl, ?_⟩
   refine fl_eff1 8 [12, 9, 6, 3, 1, 0] [13, 2] (by kernel_rfl) ⟨obl_ld rfl rfl rfl (v_load rfl (st.readm (v := .slice ka b.key.length kc) hm1 TF.t41 rfl)), obl_ld rfl rfl rfl (v_load rfl (st.readm (v := .string (strB b.name)) hm1 TF.t9 rfl)), obl_ld rfl rfl rfl (v_load rfl (st.readm (v := .string (strB b.name)) hm1 TF.t9 rfl)), trivial⟩ rfl ?_
   refine wl_s2b Try.underlying9 Try.underlying41 Try.underlying5 rfl st rfl ?_
   intro v13 m13 w hg13 h13 _ st
   have hm1 := hg13.le _ _ hm1
   have hsl := hsl.mono hg13.le
   have hkey := hkey.mono hg13.le
   first | (have h10 := h10.mono hg13.le) | skip
   first | (have h16 := h16.mono hg13.le) | skip
   refine wl_nil ⟨rfl, ?_⟩
   refine FL.permB [11, 8, 5, 13, 12, 10, 9, 7, 6, 4, 3, 2, 1, 0] [12, 9, 6, 3, 1, 0] [13, 2] (by kernel_rfl) ?_
   exact fin _ _ _ _ _ _ rfl rfl rfl rfl rfl rfl rfl rfl rfl hm1 hsl h10 h13 h16 hkey st
 ·refine stepE 8 (pure' := [12, 9, 6, 4, 3, 1, 0]) (lds' := [13, 10, 2]) rfl (by kernel_rfl) (by kernel_rfl) ?_
  refine wl_s2b Try.underlying9 Try.underlying41 Try.underlying5 rfl st rfl ?_
  intro v13 m13 w hg13 h13 _ st
  have hm1 := hg13.le _ _ hm1
  have hsl := hsl.mono hg13.le
  have hkey := hkey.mono hg13.le
  first | (have h10 := h10.mono hg13.le) | skip
  first | (have h16 := h16.mono hg13.le) | skip
  refine wl_nil ⟨rfl, ?_⟩
  refine fl_eff1 5 [12, 9, 6, 3, 1, 0] [13, 10, 2] (by kernel_rfl) ⟨obl_ld rfl rfl rfl (v_load rfl (st.readm (v := .slice ka b.key.length kc) hm1 TF.t41 rfl)), obl_ld rfl rfl rfl (v_load rfl (st.readm (v := u64 b.serial) hm1 TF.t24 rfl)), obl_ld rfl rfl rfl (v_load rfl (st.readm (v := .string (strB b.name)) hm1 TF.t9 rfl)), trivial⟩ rfl ?_
  refine wl_call rfl (c_number st.im) rfl ?_
  rintro v10 w ⟨t10, m10, hg10, hi10, h10⟩
  have st := st.grown hg10 t10 hi10
  have hm1 := hg10.le _ _ hm1
  have hsl := hsl.mono hg10.le
  have hkey := hkey.mono hg10.le
  first | (have h13 := h13.mono hg10.le) | skip
  refine wl_nil ⟨rfl, ?_⟩
  refine fl_eff1 11 [12, 9, 6, 3, 1, 0] [13, 2] (by kernel_rfl) ⟨obl_ld rfl rfl rfl (v_load rfl (st.readm (v := .slice ka b.key.length kc) hm1 TF.t41 rfl)), obl_ld rfl rfl rfl (v_load rfl (st.readm (v := u64 b.serial) hm1 TF.t24 rfl)), obl_ld rfl rfl rfl (v_load rfl (st.readm (v := .string (strB b.name)) hm1 TF.t9 rfl)), trivial⟩ rfl ?_
  refine wl_call rfl (c_number st.im) rfl ?_
  rintro v16 w ⟨t16, m16, hg16, hi16, h16⟩
  have st := st.grown hg16 t16 hi16
  have hm1 := hg16.le _ _ hm1
  have hsl := hsl.mono hg16.le
  have hkey := hkey.mono hg16.le
  have h10 := h10.mono hg16.le
  first | (have h13 := h13.mono hg16.le) | skip
  refine wl_nil ⟨rfl, ?_⟩
  refine FL.permB [11, 8, 5, 13, 12, 10, 9, 7, 6, 4, 3, 2, 1, 0] [12, 9, 6, 3, 1, 0] [13, 2] (by kernel_rfl) ?_
  exact fin _ _ _ _ _ _ rfl rfl rfl rfl rfl rfl rfl rfl rfl hm1 hsl h10 h13 h16 hkey st
end
end Go.Proofs.Ytjjpakjgppmmdaa

namespace Go.Proofs.Ytjjpakjgppmmdaa
open Go Go.RowKit K SH PT
structure Aw where
 epoch : UInt64
 index : By
 proof : Prf
 there : Bool
 salt : By
 bind : Bd
def prL (sv : Value) (E : Int) (I V : By) : List Value := sv :: .int .i64 E :: (bs I ++ bs V)
def awC (a : Aw) (sv kv : Value) : List Value := u64 a.epoch :: (bs a.index ++ (prL sv a.proof.E a.proof.I a.proof.V ++ (.bool a.there :: (bs a.salt ++ bdC a.bind kv))))
structure AwOk (m : Mem) (a : Aw) (sv kv : Value) : Prop where
 sibs : DigM m sv a.proof.S
 key : SlM m kv 1 a.bind.key.length (bs a.bind.key)
 idx : a.index.length = 32
 salt : a.salt.length = 32
 pI : a.proof.I.length = 32
 pV : a.proof.V.length = 32
 name : a.bind.name.length ≤ 9223372036854775807
def AwM (m : Mem) (v : Value) (a : Aw) : Prop := ∃ sv kv, v = .agg (awC a sv kv).toArray ∧ AwOk m a sv kv
theorem AwOk.mono {m m' : Mem} {a : Aw} {sv kv : Value} (h : AwOk m a sv kv) (hm : ∀ k o, m k = some o → m' k = some o) : AwOk m' a sv kv :=
 ⟨h.sibs.mono hm, h.key.mono hm, h.idx, h.salt, h.pI, h.pV, h.name⟩
theorem AwM.mono {m m' : Mem} {v : Value} {a : Aw} (h : AwM m v a) (hm : ∀ k o, m k = some o → m' k = some o) : AwM m' v a := by
 obtain ⟨sv, kv, h1, h2⟩ := h
 exact ⟨sv, kv, h1, h2.mono hm⟩
section
variable {m : Mem} {a : Aw} {sv kv : Value} (h : AwOk m a sv kv)
theorem aw_e : getV false 1 (awC a sv kv).toArray 0 = some (u64 a.epoch) := rfl
include h
theorem aw_i : getV true 32 (awC a sv kv).toArray 1 = some (arr a.index) := getV_seg (a := [u64 a.epoch]) (b := bs a.index) (c := prL sv a.proof.E a.proof.I a.proof.V ++ (.bool a.there :: (bs a.salt ++ bdC a.bind kv))) (by simp [awC]) rfl (by rw [length_bs, h.idx])
theorem len_prL : (prL sv a.proof.E a.proof.I a.proof.V).length = 66 := by simp [prL, length_bs, h.pI, h.pV]
theorem aw_p : getV true 66 (awC a sv kv).toArray 33 = some (.agg (prC sv a.proof.E a.proof.I a.proof.V)) := getV_seg (a := u64 a.epoch :: bs a.index) (b := prL sv a.proof.E a.proof.I a.proof.V) (c := (.bool a.there :: (bs a.salt ++ bdC a.bind kv))) (by simp [awC]) (by simp [length_bs, h.idx]) (len_prL h)
theorem aw_ps : getV false 1 (awC a sv kv).toArray 33 = some sv := getV_lst (b := []) (a := u64 a.epoch :: bs a.index) (c := (Value.int .i64 a.proof.E :: (bs a.proof.I ++ bs a.proof.V)) ++ (.bool a.there :: (bs a.salt ++ bdC a.bind kv))) (by simp [awC, prL]) (by simp [length_bs, h.idx])
theorem aw_t : getV false 1 (awC a sv kv).toArray 99 = some (.bool a.there) := getV_lst (b := []) (a := u64 a.epoch :: (bs a.index ++ prL sv a.proof.E a.proof.I a.proof.V)) (c := bs a.salt ++ bdC a.bind kv) (by simp [awC]) (by simp [length_bs, h.idx, len_prL h])
theorem aw_s : getV true 32 (awC a sv kv).toArray 100 = some (arr a.salt) := getV_seg (a := u64 a.epoch :: (bs a.index ++ (prL sv a.proof.E a.proof.I a.proof.V ++ [.bool a.there]))) (b := bs a.salt) (c := bdC a.bind kv) (by simp [awC]) (by simp [length_bs, h.idx, len_prL h]) (by rw [length_bs, h.salt])
theorem aw_b : getV true 3 (awC a sv kv).toArray 132 = some (.agg (bdC a.bind kv).toArray) := getV_seg (a := u64 a.epoch :: (bs a.index ++ (prL sv a.proof.E a.proof.I a.proof.V ++ (.bool a.there :: bs a.salt)))) (b := bdC a.bind kv) (c := []) (by simp [awC]) (by simp [length_bs, h.idx, len_prL h, h.salt]) rfl
theorem aw_bn : getV false 1 (awC a sv kv).toArray 132 = some (.string (strB a.bind.name)) := getV_lst (b := []) (a := u64 a.epoch :: (bs a.index ++ (prL sv a.proof.E a.proof.I a.proof.V ++ (.bool a.there :: bs a.salt)))) (c := [kv, u64 a.bind.serial]) (by simp [awC, bdC]) (by simp [length_bs, h.idx, len_prL h, h.salt])
theorem aw_bk : getV false 1 (awC a sv kv).toArray 133 = some kv := getV_lst (b := []) (a := u64 a.epoch :: (bs a.index ++ (prL sv a.proof.E a.proof.I a.proof.V ++ (.bool a.there :: (bs a.salt ++ [.string (strB a.bind.name)]))))) (c := [u64 a.bind.serial]) (by simp [awC, bdC]) (by simp [length_bs, h.idx, len_prL h, h.salt])
theorem aw_bs : getV false 1 (awC a sv kv).toArray 134 = some (u64 a.bind.serial) := getV_lst (b := []) (a := u64 a.epoch :: (bs a.index ++ (prL sv a.proof.E a.proof.I a.proof.V ++ (.bool a.there :: (bs a.salt ++ [.string (strB a.bind.name), kv]))))) (c := []) (by simp [awC, bdC]) (by simp [length_bs, h.idx, len_prL h, h.salt])
theorem length_awC : (awC a sv kv).length = 135 := by simp [awC, length_bs, h.idx, len_prL h, h.salt, bdC]
end
def zeroP (a : Aw) : Prop := a.there = false ∧ a.salt = z32 ∧ a.bind.name = [] ∧ a.bind.key.length = 0 ∧ a.bind.serial = 0
instance {a : Aw} : Decidable (zeroP a) := by unfold zeroP; infer_instance
def bindP (name : By) (a : Aw) (value : By) : Prop := a.there = true ∧ a.bind.name = name ∧ 0 < a.bind.serial.toNat ∧ checkE a.bind.name a.bind.key = 0 ∧ sum (valB a.salt a.bind) = value
instance {name : By} {a : Aw} {value : By} : Decidable (bindP name a value) := by unfold bindP; infer_instance
theorem checkE_len {n k : By} (h : checkE n k = 0) : n.length ≤ 32 ∧ k.length ≤ 64 := by
 unfold checkE at h
 split at h
 ·cases h
 ·rename_i h1
  split at h
  ·cases h
  ·have h1 := Decidable.not_not.1 h1
   exact ⟨h1.2.2, by omega⟩
section
variable {m : Mem} {wI : World}
theorem c_shownF {v : Value} {name value : By} {a : Aw} (him : Im m wI) (hv : value.length = 32) (ha : AwM m v a) :
    Ret Try.prog 50 #[.string (strB name), v, arr value, .bool false] wI fun v' w' => Out m wI w' fun _ => v' = .bool (decide (zeroP a)) := by
  have st := St.start him
  obtain ⟨sv, kv, rfl, hok⟩ := ha
  obtain ⟨_, ka, kc, rfl, _⟩ := id hok.key
  refine ret_of Try.call50 Try.func50 rfl Try.ntmps50 Try.results50 rfl ?_
  refine wc_seq ?_
  refine wc_region ?_
  refine wl_box (v := .agg (awC a sv (.slice ka a.bind.key.length kc)).toArray) rfl st rfl ?_
  intro b5 w st
  refine wl_box (v := arr value) rfl st rfl ?_
  intro b6 w st
  refine wl_val (v_assign' (by conv => (lhs; whnf))) rfl ?_
  refine wl_nil ?_
  refine then_go ?_
  refine wc_seq ?_
  refine wc_seq ?_
  refine wc_region ?_
  refine wl_val (v_move' (by conv => (lhs; whnf))) rfl ?_
  refine wl_val (v_not rfl) rfl ?_
  refine wl_nil ?_
  refine then_go ?_
  refine wc_true rfl ?_
  refine wc_seq ?_
  refine wc_region ?_
  refine wl_val (v_fa TF.f45_3 rfl) rfl ?_
  refine wl_val (v_load rfl (st.reads (v := .bool a.there) 1 rfl TF.t4 (aw_t hok))) rfl ?_
  refine wl_val (v_not rfl) rfl ?_
  refine wl_val (v_move' (by conv => (lhs; whnf))) rfl ?_
  rcases Bool.eq_false_or_eq_true (!a.there) with hg3 | hg3
  · rw [hg3]
    refine wl_on rfl rfl ?_
    refine wl_val (v_fa TF.f45_4 rfl) rfl ?_
    refine wl_on rfl rfl ?_
    refine wl_val (v_load rfl (st.reads (v := arr a.salt) 1 rfl TF.t23 (aw_s hok))) rfl ?_
    refine wl_on rfl rfl ?_
    refine wl_val v_z32 rfl ?_
    refine wl_on rfl rfl ?_
    refine wl_val (v_eqD rfl rfl hok.salt rfl) rfl ?_
    refine wl_val (v_pick rfl) rfl ?_
    refine wl_val (v_move' (by conv => (lhs; whnf))) rfl ?_
    by_cases hg9 : a.salt = z32
    · rw [show decide (a.salt = z32) = true from decide_eq_true hg9]
      refine wl_on rfl rfl ?_
      refine wl_val (v_fa TF.f45_5 rfl) rfl ?_
      refine wl_on rfl rfl ?_
      refine wl_val (v_fa TF.f43_0 rfl) rfl ?_
      refine wl_on rfl rfl ?_
      refine wl_val (v_load rfl (st.reads (v := .string (strB a.bind.name)) 1 rfl TF.t9 (aw_bn hok))) rfl ?_
      refine wl_on rfl rfl ?_
      refine wl_val (v_eqs (b := []) rfl rfl) rfl ?_
      refine wl_val (v_pick rfl) rfl ?_
      refine wl_val (v_move' (by conv => (lhs; whnf))) rfl ?_
      by_cases hg15 : a.bind.name = []
      · rw [show decide (a.bind.name = []) = true from decide_eq_true hg15]
        refine wl_on rfl rfl ?_
        refine wl_val (v_fa TF.f45_5 rfl) rfl ?_
        refine wl_on rfl rfl ?_
        refine wl_val (v_fa TF.f43_1 rfl) rfl ?_
        refine wl_on rfl rfl ?_
        refine wl_val (v_load rfl (st.reads (v := .slice ka a.bind.key.length kc) 1 rfl TF.t41 (aw_bk hok))) rfl ?_
        refine wl_on rfl rfl ?_
        refine wl_val (v_len_s Try.underlying41 rfl) rfl ?_
        refine wl_on rfl rfl ?_
        refine wl_val (v_to (v' := .bool (decide ((a.bind.key.length : Int) = 0))) (v_eql rfl rfl) rfl) rfl ?_
        refine wl_val (v_pick rfl) rfl ?_
        refine wl_val (v_move' (by conv => (lhs; whnf))) rfl ?_
        by_cases hg22 : (a.bind.key.length : Int) = 0
        · rw [show decide ((a.bind.key.length : Int) = 0) = true from decide_eq_true hg22]
          refine wl_on rfl rfl ?_
          refine wl_val (v_fa TF.f45_5 rfl) rfl ?_
          refine wl_on rfl rfl ?_
          refine wl_val (v_fa TF.f43_2 rfl) rfl ?_
          refine wl_on rfl rfl ?_
          refine wl_val (v_load rfl (st.reads (v := u64 a.bind.serial) 1 rfl TF.t24 (aw_bs hok))) rfl ?_
          refine wl_on rfl rfl ?_
          refine wl_val (v_eql rfl rfl) rfl ?_
          refine wl_val (v_pick rfl) rfl ?_
          refine wl_val (v_assign' (by conv => (lhs; whnf))) rfl ?_
          refine wl_nil ?_
          refine then_go ?_
          refine wc_ret (then_ret ?_)
          refine ret1 rfl ((st.keepOnly (l := []) (List.nil_sublist _)).out ?_)
          first
            | (have ht : a.there = false := by simpa using hg3
               have e : decide (zeroP a) = decide ((a.bind.serial.toNat : Int) = 0) := decide_eq_decide.2 ⟨fun h => by rw [h.2.2.2.2]; rfl, fun h => ⟨ht, hg9, hg15, by omega, UInt64.toNat_inj.1 (by rw [show (0 : UInt64).toNat = 0 from rfl]; omega)⟩⟩
               rw [e]; rfl)
            | (rw [show decide (zeroP a) = false from decide_eq_false (fun hc => by first | exact hg9 hc.2.1 | exact hg15 hc.2.2.1 | exact hg22 (by have := hc.2.2.2.1; omega) | (have := hc.1; rw [this] at hg3; cases hg3))]; rfl)
        · rw [show decide ((a.bind.key.length : Int) = 0) = false from decide_eq_false hg22]
          refine wl_off rfl rfl rfl rfl ?_
          refine wl_off rfl rfl rfl rfl ?_
          refine wl_off rfl rfl rfl rfl ?_
          refine wl_off rfl rfl rfl rfl ?_
          refine wl_val (v_pick rfl) rfl ?_
          refine wl_val (v_assign' (by conv => (lhs; whnf))) rfl ?_
          refine wl_nil ?_
          refine then_go ?_
          refine wc_ret (then_ret ?_)
          refine ret1 rfl ((st.keepOnly (l := []) (List.nil_sublist _)).out ?_)
          first
            | (have ht : a.there = false := by simpa using hg3
               have e : decide (zeroP a) = decide ((a.bind.serial.toNat : Int) = 0) := decide_eq_decide.2 ⟨fun h => by rw [h.2.2.2.2]; rfl, fun h => ⟨ht, hg9, hg15, by omega, UInt64.toNat_inj.1 (by rw [show (0 : UInt64).toNat = 0 from rfl]; omega)⟩⟩
               rw [e]; rfl)
            | (rw [show decide (zeroP a) = false from decide_eq_false (fun hc => by first | exact hg9 hc.2.1 | exact hg15 hc.2.2.1 | exact hg22 (by have := hc.2.2.2.1; omega) | (have := hc.1; rw [this] at hg3; cases hg3))]; rfl)
      · rw [show decide (a.bind.name = []) = false from decide_eq_false hg15]
        refine wl_off rfl rfl rfl rfl ?_
        refine wl_off rfl rfl rfl rfl ?_
        refine wl_off rfl rfl rfl rfl ?_
        refine wl_off rfl rfl rfl rfl ?_
        refine wl_off rfl rfl rfl rfl ?_
        refine wl_val (v_pick rfl) rfl ?_
        refine wl_val (v_move' (by conv => (lhs; whnf))) rfl ?_
        refine wl_off rfl rfl rfl rfl ?_
        refine wl_off rfl rfl rfl rfl ?_
        refine wl_off rfl rfl rfl rfl ?_
        refine wl_off rfl rfl rfl rfl ?_
        refine wl_val (v_pick rfl) rfl ?_
        refine wl_val (v_assign' (by conv => (lhs; whnf))) rfl ?_
        refine wl_nil ?_
        refine then_go ?_
        refine wc_ret (then_ret ?_)
        refine ret1 rfl ((st.keepOnly (l := []) (List.nil_sublist _)).out ?_)
        first
          | (have ht : a.there = false := by simpa using hg3
             have e : decide (zeroP a) = decide ((a.bind.serial.toNat : Int) = 0) := decide_eq_decide.2 ⟨fun h => by rw [h.2.2.2.2]; rfl, fun h => ⟨ht, hg9, hg15, by omega, UInt64.toNat_inj.1 (by rw [show (0 : UInt64).toNat = 0 from rfl]; omega)⟩⟩
             rw [e]; rfl)
          | (rw [show decide (zeroP a) = false from decide_eq_false (fun hc => by first | exact hg9 hc.2.1 | exact hg15 hc.2.2.1 | exact hg22 (by have := hc.2.2.2.1; omega) | (have := hc.1; rw [this] at hg3; cases hg3))]; rfl)
    · rw [show decide (a.salt = z32) = false from decide_eq_false hg9]
      refine wl_off rfl rfl rfl rfl ?_
      refine wl_off rfl rfl rfl rfl ?_
      refine wl_off rfl rfl rfl rfl ?_
      refine wl_off rfl rfl rfl rfl ?_
      refine wl_val (v_pick rfl) rfl ?_
      refine wl_val (v_move' (by conv => (lhs; whnf))) rfl ?_
      refine wl_off rfl rfl rfl rfl ?_
      refine wl_off rfl rfl rfl rfl ?_
      refine wl_off rfl rfl rfl rfl ?_
      refine wl_off rfl rfl rfl rfl ?_
      refine wl_off rfl rfl rfl rfl ?_
      refine wl_val (v_pick rfl) rfl ?_
      refine wl_val (v_move' (by conv => (lhs; whnf))) rfl ?_
      refine wl_off rfl rfl rfl rfl ?_
      refine wl_off rfl rfl rfl rfl ?_
      refine wl_off rfl rfl rfl rfl ?_
      refine wl_off rfl rfl rfl rfl ?_
      refine wl_val (v_pick rfl) rfl ?_
      refine wl_val (v_assign' (by conv => (lhs; whnf))) rfl ?_
      refine wl_nil ?_
      refine then_go ?_
      refine wc_ret (then_ret ?_)
      refine ret1 rfl ((st.keepOnly (l := []) (List.nil_sublist _)).out ?_)
      first
        | (have ht : a.there = false := by simpa using hg3
           have e : decide (zeroP a) = decide ((a.bind.serial.toNat : Int) = 0) := decide_eq_decide.2 ⟨fun h => by rw [h.2.2.2.2]; rfl, fun h => ⟨ht, hg9, hg15, by omega, UInt64.toNat_inj.1 (by rw [show (0 : UInt64).toNat = 0 from rfl]; omega)⟩⟩
           rw [e]; rfl)
        | (rw [show decide (zeroP a) = false from decide_eq_false (fun hc => by first | exact hg9 hc.2.1 | exact hg15 hc.2.2.1 | exact hg22 (by have := hc.2.2.2.1; omega) | (have := hc.1; rw [this] at hg3; cases hg3))]; rfl)
  · rw [hg3]
    refine wl_off rfl rfl rfl rfl ?_
    refine wl_off rfl rfl rfl rfl ?_
    refine wl_off rfl rfl rfl rfl ?_
    refine wl_off rfl rfl rfl rfl ?_
    refine wl_val (v_pick rfl) rfl ?_
    refine wl_val (v_move' (by conv => (lhs; whnf))) rfl ?_
    refine wl_off rfl rfl rfl rfl ?_
    refine wl_off rfl rfl rfl rfl ?_
    refine wl_off rfl rfl rfl rfl ?_
    refine wl_off rfl rfl rfl rfl ?_
    refine wl_val (v_pick rfl) rfl ?_
    refine wl_val (v_move' (by conv => (lhs; whnf))) rfl ?_
    refine wl_off rfl rfl rfl rfl ?_
    refine wl_off rfl rfl rfl rfl ?_
    refine wl_off rfl rfl rfl rfl ?_
    refine wl_off rfl rfl rfl rfl ?_
    refine wl_off rfl rfl rfl rfl ?_
    refine wl_val (v_pick rfl) rfl ?_
    refine wl_val (v_move' (by conv => (lhs; whnf))) rfl ?_
    refine wl_off rfl rfl rfl rfl ?_
    refine wl_off rfl rfl rfl rfl ?_
    refine wl_off rfl rfl rfl rfl ?_
    refine wl_off rfl rfl rfl rfl ?_
    refine wl_val (v_pick rfl) rfl ?_
    refine wl_val (v_assign' (by conv => (lhs; whnf))) rfl ?_
    refine wl_nil ?_
    refine then_go ?_
    refine wc_ret (then_ret ?_)
    refine ret1 rfl ((st.keepOnly (l := []) (List.nil_sublist _)).out ?_)
    first
      | (have ht : a.there = false := by simpa using hg3
         have e : decide (zeroP a) = decide ((a.bind.serial.toNat : Int) = 0) := decide_eq_decide.2 ⟨fun h => by rw [h.2.2.2.2]; rfl, fun h => ⟨ht, hg9, hg15, by omega, UInt64.toNat_inj.1 (by rw [show (0 : UInt64).toNat = 0 from rfl]; omega)⟩⟩
         rw [e]; rfl)
      | (rw [show decide (zeroP a) = false from decide_eq_false (fun hc => by first | exact hg9 hc.2.1 | exact hg15 hc.2.2.1 | exact hg22 (by have := hc.2.2.2.1; omega) | (have := hc.1; rw [this] at hg3; cases hg3))]; rfl)
theorem c_shownT {v : Value} {name value : By} {a : Aw} (him : Im m wI) (hv : value.length = 32) (ha : AwM m v a) :
  Ret Try.prog 50 #[.string (strB name), v, arr value, .bool true] wI fun v' w' => Out m wI w' fun _ => v' = .bool (decide (bindP name a value)) := by
 have st := St.start him
 obtain ⟨sv, kv, rfl, hok⟩ := ha
 obtain ⟨_, ka, kc, rfl, _⟩ := id hok.key
 have hbd : BdM m (.agg (bdC a.bind (.slice ka a.bind.key.length kc)).toArray) a.bind := ⟨_, rfl, hok.key, hok.name⟩
 refine ret_of Try.call50 Try.func50 rfl Try.ntmps50 Try.results50 rfl ?_
 refine wc_seq ?_
 refine wc_region ?_
 refine wl_box (v := .agg (awC a sv (.slice ka a.bind.key.length kc)).toArray) rfl st rfl ?_
 intro b5 w st
 refine wl_box (v := arr value) rfl st rfl ?_
 intro b6 w st
 refine wl_val (v_assign' (by conv => (lhs; whnf))) rfl ?_
 refine wl_nil ?_
 refine then_go ?_
 refine wc_seq ?_
 refine wc_seq ?_
 refine wc_region ?_
 refine wl_val (v_move' (by conv => (lhs; whnf))) rfl ?_
 refine wl_val (v_not rfl) rfl ?_
 refine wl_nil ?_
 refine then_go ?_
 refine wc_false rfl ?_
 refine wc_skip ?_
 refine then_go ?_
 refine wc_seq ?_
 refine wc_region ?_
 refine wl_val (v_fa TF.f45_5 rfl) rfl ?_
 refine wl_val (v_load rfl (st.reads (v := .agg (bdC a.bind (.slice ka a.bind.key.length kc)).toArray) 1 rfl TF.t43 (aw_b hok))) rfl ?_
 refine wl_alloc TF.z43 st rfl ?_
 intro b9 w st
 refine wl_storeW (cs := (bdC a.bind (.slice ka a.bind.key.length kc)).toArray) 0 st rfl TF.t43 rfl rfl rfl rfl (fun u hu => by simp [bdC] at hu; rcases hu with rfl | rfl | rfl <;> rfl) ?_
 intro w st
 refine wl_nil ?_
 refine then_go ?_
 refine wc_seq ?_
 rcases Bool.eq_false_or_eq_true a.there with hT | hT
 ·by_cases hN : a.bind.name = name
  ·by_cases hS : 0 < a.bind.serial.toNat
   ·by_cases hC : checkE a.bind.name a.bind.key = 0
    ·refine wc_draw TF.mixed ?_
     have st := st.pure (touch_drew _)
     refine fl_val 0 rfl (fun _ => (v_fa TF.f45_3 rfl)) rfl (by kernel_rfl) ?_
     refine fl_ld 1 rfl (v_to (v' := .bool true) (v_load rfl (st.reads (v := .bool a.there) 2 rfl TF.t4 (aw_t hok))) (by rw [hT])) (by kernel_rfl) ?_
     refine fl_val 2 rfl (fun _ => (v_move' (by conv => (lhs; whnf)))) rfl (by kernel_rfl) ?_
     refine fl_on 3 rfl rfl rfl rfl (fun _ => (v_fa TF.f43_0 rfl)) rfl (by kernel_rfl) ?_
     refine fl_ond 4 rfl rfl rfl rfl (v_load rfl (st.reads (v := .string (strB a.bind.name)) 0 rfl TF.t9 rfl)) rfl (by kernel_rfl) ?_
     refine fl_on 5 rfl rfl rfl rfl (fun _ => (v_move' (by conv => (lhs; whnf)))) rfl (by kernel_rfl) ?_
     refine fl_on 6 rfl rfl rfl rfl (fun _ => (v_to (v' := .bool true) (v_eqs rfl rfl) (by rw [decide_eq_true hN]))) rfl (by kernel_rfl) ?_
     refine fl_val 7 rfl (fun _ => (v_pick rfl)) rfl (by kernel_rfl) ?_
     refine fl_val 8 rfl (fun _ => (v_move' (by conv => (lhs; whnf)))) rfl (by kernel_rfl) ?_
     refine fl_on 9 rfl rfl rfl rfl (fun _ => (v_fa TF.f43_2 rfl)) rfl (by kernel_rfl) ?_
     refine fl_ond 10 rfl rfl rfl rfl (v_load rfl (st.reads (v := u64 a.bind.serial) 0 rfl TF.t24 rfl)) rfl (by kernel_rfl) ?_
     refine fl_on 11 rfl rfl rfl rfl (fun _ => (v_to (v' := .bool true) (v_gtr rfl rfl) (by rw [decide_eq_true (by omega)]))) rfl (by kernel_rfl) ?_
     refine fl_val 12 rfl (fun _ => (v_pick rfl)) rfl (by kernel_rfl) ?_
     refine fl_val 13 rfl (fun _ => (v_move' (by conv => (lhs; whnf)))) rfl (by kernel_rfl) ?_
     refine fl_ond 14 rfl rfl rfl rfl (v_load rfl (st.reads (v := .agg (bdC a.bind (.slice ka a.bind.key.length kc)).toArray) 0 rfl TF.t43 (getV_all rfl))) rfl (by kernel_rfl) ?_
     refine fl_eff1 15 [12, 11, 9, 8, 7, 6, 5, 3, 2, 0] [10, 4, 1] (by kernel_rfl) ⟨obl_on rfl rfl rfl rfl rfl (v_load rfl (st.reads (v := .agg (bdC a.bind (.slice ka a.bind.key.length kc)).toArray) 0 rfl TF.t43 (getV_all rfl))), obl_on rfl rfl rfl rfl rfl (v_load rfl (st.reads (v := u64 a.bind.serial) 0 rfl TF.t24 rfl)), obl_on rfl rfl rfl rfl rfl (v_load rfl (st.reads (v := .string (strB a.bind.name)) 0 rfl TF.t9 rfl)), obl_ld rfl rfl rfl (v_to (v' := .bool true) (v_load rfl (st.reads (v := .bool a.there) 2 rfl TF.t4 (aw_t hok))) (by rw [hT])), trivial⟩ rfl ?_
     refine wl_on rfl rfl ?_
     refine wl_call rfl (c_reccheck st.im hbd) rfl ?_
     rintro v57 w ⟨t57, rfl⟩
     have st := st.pure t57
     refine wl_nil ⟨rfl, ?_⟩
     refine fl_on 16 rfl rfl rfl rfl (fun _ => (v_to (v' := .bool true) (v_eql rfl rfl) (by rw [decide_eq_true hC]))) rfl (by kernel_rfl) ?_
     refine fl_val 17 rfl (fun _ => (v_pick rfl)) rfl (by kernel_rfl) ?_
     refine fl_val 18 rfl (fun _ => (v_move' (by conv => (lhs; whnf)))) rfl (by kernel_rfl) ?_
     refine fl_on 19 rfl rfl rfl rfl (fun _ => (v_fa TF.f45_4 rfl)) rfl (by kernel_rfl) ?_
     refine fl_ond 20 rfl rfl rfl rfl (v_load rfl (st.reads (v := arr a.salt) 2 rfl TF.t23 (aw_s hok))) rfl (by kernel_rfl) ?_
     refine fl_ond 21 rfl rfl rfl rfl (v_load rfl (st.reads (v := .agg (bdC a.bind (.slice ka a.bind.key.length kc)).toArray) 0 rfl TF.t43 (getV_all rfl))) rfl (by kernel_rfl) ?_
     refine fl_ond 24 rfl rfl rfl rfl (v_load rfl (st.reads (v := arr value) 1 rfl TF.t23 (getV_all (by rw [size_arr, hv])))) rfl (by kernel_rfl) ?_
     refine fl_eff1 22 [19, 17, 16, 12, 11, 9, 8, 7, 6, 5, 3, 2, 0] [24, 10, 4, 1] (by kernel_rfl) ⟨obl_on rfl rfl rfl rfl rfl (v_load rfl (st.reads (v := arr value) 1 rfl TF.t23 (getV_all (by rw [size_arr, hv])))), obl_on rfl rfl rfl rfl rfl (v_load rfl (st.reads (v := .agg (bdC a.bind (.slice ka a.bind.key.length kc)).toArray) 0 rfl TF.t43 (getV_all rfl))), obl_on rfl rfl rfl rfl rfl (v_load rfl (st.reads (v := arr a.salt) 2 rfl TF.t23 (aw_s hok))), obl_on rfl rfl rfl rfl rfl (v_load rfl (st.reads (v := u64 a.bind.serial) 0 rfl TF.t24 rfl)), obl_on rfl rfl rfl rfl rfl (v_load rfl (st.reads (v := .string (strB a.bind.name)) 0 rfl TF.t9 rfl)), obl_ld rfl rfl rfl (v_to (v' := .bool true) (v_load rfl (st.reads (v := .bool a.there) 2 rfl TF.t4 (aw_t hok))) (by rw [hT])), trivial⟩ rfl ?_
     refine wl_on rfl rfl ?_
     refine wl_call rfl (c_valueb st.im hok.salt hbd (by have := (checkE_len hC).1; omega) (by have := (checkE_len hC).2; omega)) rfl ?_
     rintro v64 w ⟨t64, m1, hg1, hi1, hs1⟩
     have st := st.grown hg1 t64 hi1
     refine wl_nil ⟨rfl, ?_⟩
     refine fl_eff1 23 [19, 17, 16, 12, 11, 9, 8, 7, 6, 5, 3, 2, 0] [24, 10, 4, 1] (by kernel_rfl) ⟨obl_on rfl rfl rfl rfl rfl (v_load rfl (st.reads (v := arr value) 1 rfl TF.t23 (getV_all (by rw [size_arr, hv])))), obl_on rfl rfl rfl rfl rfl (v_load rfl (st.reads (v := u64 a.bind.serial) 0 rfl TF.t24 rfl)), obl_on rfl rfl rfl rfl rfl (v_load rfl (st.reads (v := .string (strB a.bind.name)) 0 rfl TF.t9 rfl)), obl_ld rfl rfl rfl (v_to (v' := .bool true) (v_load rfl (st.reads (v := .bool a.there) 2 rfl TF.t4 (aw_t hok))) (by rw [hT])), trivial⟩ rfl ?_
     refine wl_on rfl rfl ?_
     refine wl_call rfl (c_tagsof st.im hs1 (by rw [valB_len hok.salt]; have := checkE_len hC; omega)) rfl ?_
     rintro v65 w ⟨t65, rfl⟩
     have st := st.pure t65
     refine wl_nil ⟨rfl, ?_⟩
     refine fl_on 25 rfl rfl rfl rfl (fun _ => (v_eqD rfl rfl (length_sum _) hv)) rfl (by kernel_rfl) ?_
     refine fl_val 26 rfl (fun _ => (v_pick rfl)) rfl (by kernel_rfl) ?_
     refine fl_eff1 27 [] [] (by kernel_rfl) ⟨obl_on rfl rfl rfl rfl rfl (v_load rfl (st.reads (v := arr value) 1 rfl TF.t23 (getV_all (by rw [size_arr, hv])))), obl_on rfl rfl rfl rfl rfl (v_load rfl (st.reads (v := u64 a.bind.serial) 0 rfl TF.t24 rfl)), obl_on rfl rfl rfl rfl rfl (v_load rfl (st.reads (v := .string (strB a.bind.name)) 0 rfl TF.t9 rfl)), obl_ld rfl rfl rfl (v_to (v' := .bool true) (v_load rfl (st.reads (v := .bool a.there) 2 rfl TF.t4 (aw_t hok))) (by rw [hT])), trivial⟩ rfl ?_
     refine wl_val (v_assign' (by conv => (lhs; whnf))) rfl ?_
     refine wl_nil ⟨rfl, ?_⟩
     refine fl_nil (by kernel_rfl) trivial ?_
     refine then_go ?_
     refine wc_ret ?_
     refine ret1 rfl ((st.keepOnly (l := []) (List.nil_sublist _)).out ?_)
     have e : decide (bindP name a value) = decide (sum (valB a.salt a.bind) = value) := decide_eq_decide.2 ⟨fun h => h.2.2.2.2, fun h => ⟨hT, hN, hS, hC, h⟩⟩
     rw [e]; rfl
    ·refine wc_draw TF.mixed ?_
     have st := st.pure (touch_drew _)
     refine fl_val 0 rfl (fun _ => (v_fa TF.f45_3 rfl)) rfl (by kernel_rfl) ?_
     refine fl_ld 1 rfl (v_to (v' := .bool true) (v_load rfl (st.reads (v := .bool a.there) 2 rfl TF.t4 (aw_t hok))) (by rw [hT])) (by kernel_rfl) ?_
     refine fl_val 2 rfl (fun _ => (v_move' (by conv => (lhs; whnf)))) rfl (by kernel_rfl) ?_
     refine fl_on 3 rfl rfl rfl rfl (fun _ => (v_fa TF.f43_0 rfl)) rfl (by kernel_rfl) ?_
     refine fl_ond 4 rfl rfl rfl rfl (v_load rfl (st.reads (v := .string (strB a.bind.name)) 0 rfl TF.t9 rfl)) rfl (by kernel_rfl) ?_
     refine fl_on 5 rfl rfl rfl rfl (fun _ => (v_move' (by conv => (lhs; whnf)))) rfl (by kernel_rfl) ?_
     refine fl_on 6 rfl rfl rfl rfl (fun _ => (v_to (v' := .bool true) (v_eqs rfl rfl) (by rw [decide_eq_true hN]))) rfl (by kernel_rfl) ?_
     refine fl_val 7 rfl (fun _ => (v_pick rfl)) rfl (by kernel_rfl) ?_
     refine fl_val 8 rfl (fun _ => (v_move' (by conv => (lhs; whnf)))) rfl (by kernel_rfl) ?_
     refine fl_on 9 rfl rfl rfl rfl (fun _ => (v_fa TF.f43_2 rfl)) rfl (by kernel_rfl) ?_
     refine fl_ond 10 rfl rfl rfl rfl (v_load rfl (st.reads (v := u64 a.bind.serial) 0 rfl TF.t24 rfl)) rfl (by kernel_rfl) ?_
     refine fl_on 11 rfl rfl rfl rfl (fun _ => (v_to (v' := .bool true) (v_gtr rfl rfl) (by rw [decide_eq_true (by omega)]))) rfl (by kernel_rfl) ?_
     refine fl_val 12 rfl (fun _ => (v_pick rfl)) rfl (by kernel_rfl) ?_
     refine fl_val 13 rfl (fun _ => (v_move' (by conv => (lhs; whnf)))) rfl (by kernel_rfl) ?_
     refine fl_ond 14 rfl rfl rfl rfl (v_load rfl (st.reads (v := .agg (bdC a.bind (.slice ka a.bind.key.length kc)).toArray) 0 rfl TF.t43 (getV_all rfl))) rfl (by kernel_rfl) ?_
     refine fl_eff1 15 [12, 11, 9, 8, 7, 6, 5, 3, 2, 0] [10, 4, 1] (by kernel_rfl) ⟨obl_on rfl rfl rfl rfl rfl (v_load rfl (st.reads (v := .agg (bdC a.bind (.slice ka a.bind.key.length kc)).toArray) 0 rfl TF.t43 (getV_all rfl))), obl_on rfl rfl rfl rfl rfl (v_load rfl (st.reads (v := u64 a.bind.serial) 0 rfl TF.t24 rfl)), obl_on rfl rfl rfl rfl rfl (v_load rfl (st.reads (v := .string (strB a.bind.name)) 0 rfl TF.t9 rfl)), obl_ld rfl rfl rfl (v_to (v' := .bool true) (v_load rfl (st.reads (v := .bool a.there) 2 rfl TF.t4 (aw_t hok))) (by rw [hT])), trivial⟩ rfl ?_
     refine wl_on rfl rfl ?_
     refine wl_call rfl (c_reccheck st.im hbd) rfl ?_
     rintro v57 w ⟨t57, rfl⟩
     have st := st.pure t57
     refine wl_nil ⟨rfl, ?_⟩
     refine fl_on 16 rfl rfl rfl rfl (fun _ => (v_to (v' := .bool false) (v_eql rfl rfl) (by rw [decide_eq_false hC]))) rfl (by kernel_rfl) ?_
     refine fl_val 17 rfl (fun _ => (v_pick rfl)) rfl (by kernel_rfl) ?_
     refine fl_val 18 rfl (fun _ => (v_move' (by conv => (lhs; whnf)))) rfl (by kernel_rfl) ?_
     refine fl_off 19 rfl rfl rfl rfl rfl rfl (by kernel_rfl) ?_
     refine fl_offd 20 rfl rfl rfl rfl rfl rfl (by kernel_rfl) ?_
     refine fl_offd 21 rfl rfl rfl rfl rfl rfl (by kernel_rfl) ?_
     refine fl_offd 24 rfl rfl rfl rfl rfl rfl (by kernel_rfl) ?_
     refine fl_eff1 22 [19, 17, 16, 12, 11, 9, 8, 7, 6, 5, 3, 2, 0] [24, 10, 4, 1] (by kernel_rfl) ⟨obl_off rfl rfl rfl rfl rfl rfl, obl_off rfl rfl rfl rfl rfl rfl, obl_off rfl rfl rfl rfl rfl rfl, obl_on rfl rfl rfl rfl rfl (v_load rfl (st.reads (v := u64 a.bind.serial) 0 rfl TF.t24 rfl)), obl_on rfl rfl rfl rfl rfl (v_load rfl (st.reads (v := .string (strB a.bind.name)) 0 rfl TF.t9 rfl)), obl_ld rfl rfl rfl (v_to (v' := .bool true) (v_load rfl (st.reads (v := .bool a.there) 2 rfl TF.t4 (aw_t hok))) (by rw [hT])), trivial⟩ rfl ?_
     refine wl_off rfl rfl rfl rfl ?_
     refine wl_nil ⟨rfl, ?_⟩
     refine fl_eff1 23 [19, 17, 16, 12, 11, 9, 8, 7, 6, 5, 3, 2, 0] [24, 10, 4, 1] (by kernel_rfl) ⟨obl_off rfl rfl rfl rfl rfl rfl, obl_on rfl rfl rfl rfl rfl (v_load rfl (st.reads (v := u64 a.bind.serial) 0 rfl TF.t24 rfl)), obl_on rfl rfl rfl rfl rfl (v_load rfl (st.reads (v := .string (strB a.bind.name)) 0 rfl TF.t9 rfl)), obl_ld rfl rfl rfl (v_to (v' := .bool true) (v_load rfl (st.reads (v := .bool a.there) 2 rfl TF.t4 (aw_t hok))) (by rw [hT])), trivial⟩ rfl ?_
     refine wl_off rfl rfl rfl rfl ?_
     refine wl_nil ⟨rfl, ?_⟩
     refine fl_off 25 rfl rfl rfl rfl rfl rfl (by kernel_rfl) ?_
     refine fl_val 26 rfl (fun _ => (v_pick rfl)) rfl (by kernel_rfl) ?_
     refine fl_eff1 27 [] [] (by kernel_rfl) ⟨obl_off rfl rfl rfl rfl rfl rfl, obl_on rfl rfl rfl rfl rfl (v_load rfl (st.reads (v := u64 a.bind.serial) 0 rfl TF.t24 rfl)), obl_on rfl rfl rfl rfl rfl (v_load rfl (st.reads (v := .string (strB a.bind.name)) 0 rfl TF.t9 rfl)), obl_ld rfl rfl rfl (v_to (v' := .bool true) (v_load rfl (st.reads (v := .bool a.there) 2 rfl TF.t4 (aw_t hok))) (by rw [hT])), trivial⟩ rfl ?_
     refine wl_val (v_assign' (by conv => (lhs; whnf))) rfl ?_
     refine wl_nil ⟨rfl, ?_⟩
     refine fl_nil (by kernel_rfl) trivial ?_
     refine then_go ?_
     refine wc_ret ?_
     refine ret1 rfl ((st.keepOnly (l := []) (List.nil_sublist _)).out ?_)
     rw [show decide (bindP name a value) = false from decide_eq_false (fun hc => by first | exact hN hc.2.1 | exact hS hc.2.2.1 | exact hC hc.2.2.2.1 | (have := hc.1; rw [this] at hT; cases hT))]; rfl
   ·refine wc_draw TF.mixed ?_
    have st := st.pure (touch_drew _)
    refine fl_val 0 rfl (fun _ => (v_fa TF.f45_3 rfl)) rfl (by kernel_rfl) ?_
    refine fl_ld 1 rfl (v_to (v' := .bool true) (v_load rfl (st.reads (v := .bool a.there) 2 rfl TF.t4 (aw_t hok))) (by rw [hT])) (by kernel_rfl) ?_
    refine fl_val 2 rfl (fun _ => (v_move' (by conv => (lhs; whnf)))) rfl (by kernel_rfl) ?_
    refine fl_on 3 rfl rfl rfl rfl (fun _ => (v_fa TF.f43_0 rfl)) rfl (by kernel_rfl) ?_
    refine fl_ond 4 rfl rfl rfl rfl (v_load rfl (st.reads (v := .string (strB a.bind.name)) 0 rfl TF.t9 rfl)) rfl (by kernel_rfl) ?_
    refine fl_on 5 rfl rfl rfl rfl (fun _ => (v_move' (by conv => (lhs; whnf)))) rfl (by kernel_rfl) ?_
    refine fl_on 6 rfl rfl rfl rfl (fun _ => (v_to (v' := .bool true) (v_eqs rfl rfl) (by rw [decide_eq_true hN]))) rfl (by kernel_rfl) ?_
    refine fl_val 7 rfl (fun _ => (v_pick rfl)) rfl (by kernel_rfl) ?_
    refine fl_val 8 rfl (fun _ => (v_move' (by conv => (lhs; whnf)))) rfl (by kernel_rfl) ?_
    refine fl_on 9 rfl rfl rfl rfl (fun _ => (v_fa TF.f43_2 rfl)) rfl (by kernel_rfl) ?_
    refine fl_ond 10 rfl rfl rfl rfl (v_load rfl (st.reads (v := u64 a.bind.serial) 0 rfl TF.t24 rfl)) rfl (by kernel_rfl) ?_
    refine fl_on 11 rfl rfl rfl rfl (fun _ => (v_to (v' := .bool false) (v_gtr rfl rfl) (by rw [decide_eq_false (by omega)]))) rfl (by kernel_rfl) ?_
    refine fl_val 12 rfl (fun _ => (v_pick rfl)) rfl (by kernel_rfl) ?_
    refine fl_val 13 rfl (fun _ => (v_move' (by conv => (lhs; whnf)))) rfl (by kernel_rfl) ?_
    refine fl_offd 14 rfl rfl rfl rfl rfl rfl (by kernel_rfl) ?_
    refine fl_eff1 15 [12, 11, 9, 8, 7, 6, 5, 3, 2, 0] [10, 4, 1] (by kernel_rfl) ⟨obl_off rfl rfl rfl rfl rfl rfl, obl_on rfl rfl rfl rfl rfl (v_load rfl (st.reads (v := u64 a.bind.serial) 0 rfl TF.t24 rfl)), obl_on rfl rfl rfl rfl rfl (v_load rfl (st.reads (v := .string (strB a.bind.name)) 0 rfl TF.t9 rfl)), obl_ld rfl rfl rfl (v_to (v' := .bool true) (v_load rfl (st.reads (v := .bool a.there) 2 rfl TF.t4 (aw_t hok))) (by rw [hT])), trivial⟩ rfl ?_
    refine wl_off rfl rfl rfl rfl ?_
    refine wl_nil ⟨rfl, ?_⟩
    refine fl_off 16 rfl rfl rfl rfl rfl rfl (by kernel_rfl) ?_
    refine fl_val 17 rfl (fun _ => (v_pick rfl)) rfl (by kernel_rfl) ?_
    refine fl_val 18 rfl (fun _ => (v_move' (by conv => (lhs; whnf)))) rfl (by kernel_rfl) ?_
    refine fl_off 19 rfl rfl rfl rfl rfl rfl (by kernel_rfl) ?_
    refine fl_offd 20 rfl rfl rfl rfl rfl rfl (by kernel_rfl) ?_
    refine fl_offd 21 rfl rfl rfl rfl rfl rfl (by kernel_rfl) ?_
    refine fl_offd 24 rfl rfl rfl rfl rfl rfl (by kernel_rfl) ?_
    refine fl_eff1 22 [19, 17, 16, 12, 11, 9, 8, 7, 6, 5, 3, 2, 0] [24, 10, 4, 1] (by kernel_rfl) ⟨obl_off rfl rfl rfl rfl rfl rfl, obl_off rfl rfl rfl rfl rfl rfl, obl_off rfl rfl rfl rfl rfl rfl, obl_on rfl rfl rfl rfl rfl (v_load rfl (st.reads (v := u64 a.bind.serial) 0 rfl TF.t24 rfl)), obl_on rfl rfl rfl rfl rfl (v_load rfl (st.reads (v := .string (strB a.bind.name)) 0 rfl TF.t9 rfl)), obl_ld rfl rfl rfl (v_to (v' := .bool true) (v_load rfl (st.reads (v := .bool a.there) 2 rfl TF.t4 (aw_t hok))) (by rw [hT])), trivial⟩ rfl ?_
    refine wl_off rfl rfl rfl rfl ?_
    refine wl_nil ⟨rfl, ?_⟩
    refine fl_eff1 23 [19, 17, 16, 12, 11, 9, 8, 7, 6, 5, 3, 2, 0] [24, 10, 4, 1] (by kernel_rfl) ⟨obl_off rfl rfl rfl rfl rfl rfl, obl_on rfl rfl rfl rfl rfl (v_load rfl (st.reads (v := u64 a.bind.serial) 0 rfl TF.t24 rfl)), obl_on rfl rfl rfl rfl rfl (v_load rfl (st.reads (v := .string (strB a.bind.name)) 0 rfl TF.t9 rfl)), obl_ld rfl rfl rfl (v_to (v' := .bool true) (v_load rfl (st.reads (v := .bool a.there) 2 rfl TF.t4 (aw_t hok))) (by rw [hT])), trivial⟩ rfl ?_
    refine wl_off rfl rfl rfl rfl ?_
    refine wl_nil ⟨rfl, ?_⟩
    refine fl_off 25 rfl rfl rfl rfl rfl rfl (by kernel_rfl) ?_
    refine fl_val 26 rfl (fun _ => (v_pick rfl)) rfl (by kernel_rfl) ?_
    refine fl_eff1 27 [] [] (by kernel_rfl) ⟨obl_off rfl rfl rfl rfl rfl rfl, obl_on rfl rfl rfl rfl rfl (v_load rfl (st.reads (v := u64 a.bind.serial) 0 rfl TF.t24 rfl)), obl_on rfl rfl rfl rfl rfl (v_load rfl (st.reads (v := .string (strB a.bind.name)) 0 rfl TF.t9 rfl)), obl_ld rfl rfl rfl (v_to (v' := .bool true) (v_load rfl (st.reads (v := .bool a.there) 2 rfl TF.t4 (aw_t hok))) (by rw [hT])), trivial⟩ rfl ?_
    refine wl_val (v_assign' (by conv => (lhs; whnf))) rfl ?_
    refine wl_nil ⟨rfl, ?_⟩
    refine fl_nil (by kernel_rfl) trivial ?_
    refine then_go ?_
    refine wc_ret ?_
    refine ret1 rfl ((st.keepOnly (l := []) (List.nil_sublist _)).out ?_)
    rw [show decide (bindP name a value) = false from decide_eq_false (fun hc => by first | exact hN hc.2.1 | exact hS hc.2.2.1 | exact hC hc.2.2.2.1 | (have := hc.1; rw [this] at hT; cases hT))]; rfl
  ·refine wc_draw TF.mixed ?_
   have st := st.pure (touch_drew _)
   refine fl_val 0 rfl (fun _ => (v_fa TF.f45_3 rfl)) rfl (by kernel_rfl) ?_
   refine fl_ld 1 rfl (v_to (v' := .bool true) (v_load rfl (st.reads (v := .bool a.there) 2 rfl TF.t4 (aw_t hok))) (by rw [hT])) (by kernel_rfl) ?_
   refine fl_val 2 rfl (fun _ => (v_move' (by conv => (lhs; whnf)))) rfl (by kernel_rfl) ?_
   refine fl_on 3 rfl rfl rfl rfl (fun _ => (v_fa TF.f43_0 rfl)) rfl (by kernel_rfl) ?_
   refine fl_ond 4 rfl rfl rfl rfl (v_load rfl (st.reads (v := .string (strB a.bind.name)) 0 rfl TF.t9 rfl)) rfl (by kernel_rfl) ?_
   refine fl_on 5 rfl rfl rfl rfl (fun _ => (v_move' (by conv => (lhs; whnf)))) rfl (by kernel_rfl) ?_
   refine fl_on 6 rfl rfl rfl rfl (fun _ => (v_to (v' := .bool false) (v_eqs rfl rfl) (by rw [decide_eq_false hN]))) rfl (by kernel_rfl) ?_
   refine fl_val 7 rfl (fun _ => (v_pick rfl)) rfl (by kernel_rfl) ?_
   refine fl_val 8 rfl (fun _ => (v_move' (by conv => (lhs; whnf)))) rfl (by kernel_rfl) ?_
   refine fl_off 9 rfl rfl rfl rfl rfl rfl (by kernel_rfl) ?_
   refine fl_offd 10 rfl rfl rfl rfl rfl rfl (by kernel_rfl) ?_
   refine fl_off 11 rfl rfl rfl rfl rfl rfl (by kernel_rfl) ?_
   refine fl_val 12 rfl (fun _ => (v_pick rfl)) rfl (by kernel_rfl) ?_
   refine fl_val 13 rfl (fun _ => (v_move' (by conv => (lhs; whnf)))) rfl (by kernel_rfl) ?_
   refine fl_offd 14 rfl rfl rfl rfl rfl rfl (by kernel_rfl) ?_
   refine fl_eff1 15 [12, 11, 9, 8, 7, 6, 5, 3, 2, 0] [10, 4, 1] (by kernel_rfl) ⟨obl_off rfl rfl rfl rfl rfl rfl, obl_off rfl rfl rfl rfl rfl rfl, obl_on rfl rfl rfl rfl rfl (v_load rfl (st.reads (v := .string (strB a.bind.name)) 0 rfl TF.t9 rfl)), obl_ld rfl rfl rfl (v_to (v' := .bool true) (v_load rfl (st.reads (v := .bool a.there) 2 rfl TF.t4 (aw_t hok))) (by rw [hT])), trivial⟩ rfl ?_
   refine wl_off rfl rfl rfl rfl ?_
   refine wl_nil ⟨rfl, ?_⟩
   refine fl_off 16 rfl rfl rfl rfl rfl rfl (by kernel_rfl) ?_
   refine fl_val 17 rfl (fun _ => (v_pick rfl)) rfl (by kernel_rfl) ?_
   refine fl_val 18 rfl (fun _ => (v_move' (by conv => (lhs; whnf)))) rfl (by kernel_rfl) ?_
   refine fl_off 19 rfl rfl rfl rfl rfl rfl (by kernel_rfl) ?_
   refine fl_offd 20 rfl rfl rfl rfl rfl rfl (by kernel_rfl) ?_
   refine fl_offd 21 rfl rfl rfl rfl rfl rfl (by kernel_rfl) ?_
   refine fl_offd 24 rfl rfl rfl rfl rfl rfl (by kernel_rfl) ?_
   refine fl_eff1 22 [19, 17, 16, 12, 11, 9, 8, 7, 6, 5, 3, 2, 0] [24, 10, 4, 1] (by kernel_rfl) ⟨obl_off rfl rfl rfl rfl rfl rfl, obl_off rfl rfl rfl rfl rfl rfl, obl_off rfl rfl rfl rfl rfl rfl, obl_off rfl rfl rfl rfl rfl rfl, obl_on rfl rfl rfl rfl rfl (v_load rfl (st.reads (v := .string (strB a.bind.name)) 0 rfl TF.t9 rfl)), obl_ld rfl rfl rfl (v_to (v' := .bool true) (v_load rfl (st.reads (v := .bool a.there) 2 rfl TF.t4 (aw_t hok))) (by rw [hT])), trivial⟩ rfl ?_
   refine wl_off rfl rfl rfl rfl ?_
   refine wl_nil ⟨rfl, ?_⟩
   refine fl_eff1 23 [19, 17, 16, 12, 11, 9, 8, 7, 6, 5, 3, 2, 0] [24, 10, 4, 1] (by kernel_rfl) ⟨obl_off rfl rfl rfl rfl rfl rfl, obl_off rfl rfl rfl rfl rfl rfl, obl_on rfl rfl rfl rfl rfl (v_load rfl (st.reads (v := .string (strB a.bind.name)) 0 rfl TF.t9 rfl)), obl_ld rfl rfl rfl (v_to (v' := .bool true) (v_load rfl (st.reads (v := .bool a.there) 2 rfl TF.t4 (aw_t hok))) (by rw [hT])), trivial⟩ rfl ?_
   refine wl_off rfl rfl rfl rfl ?_
   refine wl_nil ⟨rfl, ?_⟩
   refine fl_off 25 rfl rfl rfl rfl rfl rfl (by kernel_rfl) ?_
   refine fl_val 26 rfl (fun _ => (v_pick rfl)) rfl (by kernel_rfl) ?_
   refine fl_eff1 27 [] [] (by kernel_rfl) ⟨obl_off rfl rfl rfl rfl rfl rfl, obl_off rfl rfl rfl rfl rfl rfl, obl_on rfl rfl rfl rfl rfl (v_load rfl (st.reads (v := .string (strB a.bind.name)) 0 rfl TF.t9 rfl)), obl_ld rfl rfl rfl (v_to (v' := .bool true) (v_load rfl (st.reads (v := .bool a.there) 2 rfl TF.t4 (aw_t hok))) (by rw [hT])), trivial⟩ rfl ?_
   refine wl_val (v_assign' (by conv => (lhs; whnf))) rfl ?_
   refine wl_nil ⟨rfl, ?_⟩
   refine fl_nil (by kernel_rfl) trivial ?_
   refine then_go ?_
   refine wc_ret ?_
   refine ret1 rfl ((st.keepOnly (l := []) (List.nil_sublist _)).out ?_)
   rw [show decide (bindP name a value) = false from decide_eq_false (fun hc => by first | exact hN hc.2.1 | exact hS hc.2.2.1 | exact hC hc.2.2.2.1 | (have := hc.1; rw [this] at hT; cases hT))]; rfl
 ·refine wc_draw TF.mixed ?_
  have st := st.pure (touch_drew _)
  refine fl_val 0 rfl (fun _ => (v_fa TF.f45_3 rfl)) rfl (by kernel_rfl) ?_
  refine fl_ld 1 rfl (v_to (v' := .bool false) (v_load rfl (st.reads (v := .bool a.there) 2 rfl TF.t4 (aw_t hok))) (by rw [hT])) (by kernel_rfl) ?_
  refine fl_val 2 rfl (fun _ => (v_move' (by conv => (lhs; whnf)))) rfl (by kernel_rfl) ?_
  refine fl_off 3 rfl rfl rfl rfl rfl rfl (by kernel_rfl) ?_
  refine fl_offd 4 rfl rfl rfl rfl rfl rfl (by kernel_rfl) ?_
  refine fl_off 5 rfl rfl rfl rfl rfl rfl (by kernel_rfl) ?_
  refine fl_off 6 rfl rfl rfl rfl rfl rfl (by kernel_rfl) ?_
  refine fl_val 7 rfl (fun _ => (v_pick rfl)) rfl (by kernel_rfl) ?_
  refine fl_val 8 rfl (fun _ => (v_move' (by conv => (lhs; whnf)))) rfl (by kernel_rfl) ?_
  refine fl_off 9 rfl rfl rfl rfl rfl rfl (by kernel_rfl) ?_
  refine fl_offd 10 rfl rfl rfl rfl rfl rfl (by kernel_rfl) ?_
  refine fl_off 11 rfl rfl rfl rfl rfl rfl (by kernel_rfl) ?_
  refine fl_val 12 rfl (fun _ => (v_pick rfl)) rfl (by kernel_rfl) ?_
  refine fl_val 13 rfl (fun _ => (v_move' (by conv => (lhs; whnf)))) rfl (by kernel_rfl) ?_
  refine fl_offd 14 rfl rfl rfl rfl rfl rfl (by kernel_rfl) ?_
  refine fl_eff1 15 [12, 11, 9, 8, 7, 6, 5, 3, 2, 0] [10, 4, 1] (by kernel_rfl) ⟨obl_off rfl rfl rfl rfl rfl rfl, obl_off rfl rfl rfl rfl rfl rfl, obl_off rfl rfl rfl rfl rfl rfl, obl_ld rfl rfl rfl (v_to (v' := .bool false) (v_load rfl (st.reads (v := .bool a.there) 2 rfl TF.t4 (aw_t hok))) (by rw [hT])), trivial⟩ rfl ?_
  refine wl_off rfl rfl rfl rfl ?_
  refine wl_nil ⟨rfl, ?_⟩
  refine fl_off 16 rfl rfl rfl rfl rfl rfl (by kernel_rfl) ?_
  refine fl_val 17 rfl (fun _ => (v_pick rfl)) rfl (by kernel_rfl) ?_
  refine fl_val 18 rfl (fun _ => (v_move' (by conv => (lhs; whnf)))) rfl (by kernel_rfl) ?_
  refine fl_off 19 rfl rfl rfl rfl rfl rfl (by kernel_rfl) ?_
  refine fl_offd 20 rfl rfl rfl rfl rfl rfl (by kernel_rfl) ?_
  refine fl_offd 21 rfl rfl rfl rfl rfl rfl (by kernel_rfl) ?_
  refine fl_offd 24 rfl rfl rfl rfl rfl rfl (by kernel_rfl) ?_
  refine fl_eff1 22 [19, 17, 16, 12, 11, 9, 8, 7, 6, 5, 3, 2, 0] [24, 10, 4, 1] (by kernel_rfl) ⟨obl_off rfl rfl rfl rfl rfl rfl, obl_off rfl rfl rfl rfl rfl rfl, obl_off rfl rfl rfl rfl rfl rfl, obl_off rfl rfl rfl rfl rfl rfl, obl_off rfl rfl rfl rfl rfl rfl, obl_ld rfl rfl rfl (v_to (v' := .bool false) (v_load rfl (st.reads (v := .bool a.there) 2 rfl TF.t4 (aw_t hok))) (by rw [hT])), trivial⟩ rfl ?_
  refine wl_off rfl rfl rfl rfl ?_
  refine wl_nil ⟨rfl, ?_⟩
  refine fl_eff1 23 [19, 17, 16, 12, 11, 9, 8, 7, 6, 5, 3, 2, 0] [24, 10, 4, 1] (by kernel_rfl) ⟨obl_off rfl rfl rfl rfl rfl rfl, obl_off rfl rfl rfl rfl rfl rfl, obl_off rfl rfl rfl rfl rfl rfl, obl_ld rfl rfl rfl (v_to (v' := .bool false) (v_load rfl (st.reads (v := .bool a.there) 2 rfl TF.t4 (aw_t hok))) (by rw [hT])), trivial⟩ rfl ?_
  refine wl_off rfl rfl rfl rfl ?_
  refine wl_nil ⟨rfl, ?_⟩
  refine fl_off 25 rfl rfl rfl rfl rfl rfl (by kernel_rfl) ?_
  refine fl_val 26 rfl (fun _ => (v_pick rfl)) rfl (by kernel_rfl) ?_
  refine fl_eff1 27 [] [] (by kernel_rfl) ⟨obl_off rfl rfl rfl rfl rfl rfl, obl_off rfl rfl rfl rfl rfl rfl, obl_off rfl rfl rfl rfl rfl rfl, obl_ld rfl rfl rfl (v_to (v' := .bool false) (v_load rfl (st.reads (v := .bool a.there) 2 rfl TF.t4 (aw_t hok))) (by rw [hT])), trivial⟩ rfl ?_
  refine wl_val (v_assign' (by conv => (lhs; whnf))) rfl ?_
  refine wl_nil ⟨rfl, ?_⟩
  refine fl_nil (by kernel_rfl) trivial ?_
  refine then_go ?_
  refine wc_ret ?_
  refine ret1 rfl ((st.keepOnly (l := []) (List.nil_sublist _)).out ?_)
  rw [show decide (bindP name a value) = false from decide_eq_false (fun hc => by first | exact hN hc.2.1 | exact hS hc.2.2.1 | exact hC hc.2.2.2.1 | (have := hc.1; rw [this] at hT; cases hT))]; rfl
end
end Go.Proofs.Ytjjpakjgppmmdaa

namespace Go.Proofs.Ytjjpakjgppmmdaa
open Go Go.RowKit K SH PT
structure Fd where
 epoch : UInt64
 there : Bool
 bind : Bd
 deriving DecidableEq
def bd0 : Bd := ⟨[], [], 0⟩
def fd0 : Fd := ⟨0, false, bd0⟩
def fdC (f : Fd) (kv : Value) : List Value := [u64 f.epoch, .bool f.there, .string (strB f.bind.name), kv, u64 f.bind.serial]
def FdM (m : Mem) (v : Value) (f : Fd) : Prop := ∃ kv, v = .agg (fdC f kv).toArray ∧ SlM m kv 1 f.bind.key.length (bs f.bind.key) ∧ f.bind.name.length ≤ 9223372036854775807
theorem FdM.mono {m m' : Mem} {v : Value} {f : Fd} (h : FdM m v f) (hm : ∀ k o, m k = some o → m' k = some o) : FdM m' v f := by
 obtain ⟨kv, h1, h2, h3⟩ := h
 exact ⟨kv, h1, h2.mono hm, h3⟩
theorem fd0_M {m : Mem} : FdM m (.agg (fdC fd0 (.slice none 0 0)).toArray) fd0 := ⟨_, rfl, SlM.nil, by decide⟩
def rootAt (x : Vw) (e : UInt64) : By := match x.roots[e.toNat - 1]? with
 | some t => t.tree
 | none => []
def epochP (x : Vw) (e : UInt64) : Prop := 1 ≤ e.toNat ∧ e.toNat ≤ x.roots.length
instance {x : Vw} {e : UInt64} : Decidable (epochP x e) := by unfold epochP; infer_instance
def shownP (name : By) (a : Aw) (value : By) (th : Bool) : Prop := if th = true then bindP name a value else zeroP a
instance {name : By} {a : Aw} {value : By} {th : Bool} : Decidable (shownP name a value th) := by unfold shownP; infer_instance
def askOk (x : Vw) (name : By) (e : UInt64) (a : Aw) : Prop := a.epoch = e ∧ provesP (rootAt x e) a.index a.proof ∧ shownP name a (chkV (rootAt x e) a.index a.proof) (decide (chkT (rootAt x e) a.index a.proof))
instance {x : Vw} {name : By} {e : UInt64} {a : Aw} : Decidable (askOk x name e a) := by unfold askOk; infer_instance
def askE (x : Vw) (name : By) (e : UInt64) (a : Aw) : Int := if ¬ okName name then 4 else if ¬ epochP x e then 10 else if askOk x name e a then 0 else 15
def askF (x : Vw) (name : By) (e : UInt64) (a : Aw) : Fd := if okName name ∧ epochP x e ∧ askOk x name e a then ⟨e, decide (chkT (rootAt x e) a.index a.proof), a.bind⟩ else fd0
section
variable {x : Vw} {name : By} {e : UInt64} {a : Aw}
theorem ask_4 (h : ¬ okName name) : askE x name e a = 4 ∧ askF x name e a = fd0 := ⟨by rw [askE, if_pos h], by rw [askF, if_neg (fun hc => h hc.1)]⟩
theorem ask_10 (h : okName name) (h2 : ¬ epochP x e) : askE x name e a = 10 ∧ askF x name e a = fd0 := ⟨by rw [askE, if_neg (not_not_intro h), if_pos h2], by rw [askF, if_neg (fun hc => h2 hc.2.1)]⟩
theorem ask_15 (h : okName name) (h2 : epochP x e) (h3 : ¬ askOk x name e a) : askE x name e a = 15 ∧ askF x name e a = fd0 := ⟨by rw [askE, if_neg (not_not_intro h), if_neg (not_not_intro h2), if_neg h3], by rw [askF, if_neg (fun hc => h3 hc.2.2)]⟩
theorem ask_0 (h : okName name) (h2 : epochP x e) (h3 : askOk x name e a) : askE x name e a = 0 ∧ askF x name e a = ⟨e, decide (chkT (rootAt x e) a.index a.proof), a.bind⟩ := ⟨by rw [askE, if_neg (not_not_intro h), if_neg (not_not_intro h2), if_pos h3], by rw [askF, if_pos ⟨h, h2, h3⟩]⟩
end
theorem checkE_name {n : By} : checkE n [0] = if okName n then 0 else 4 := by
 unfold checkE
 by_cases h : okName n
 ·rw [if_neg (not_not_intro h), if_neg (by simp), if_pos h]
 ·rw [if_pos h, if_neg h]
theorem fill_bd {n : By} {kv : Value} (hk : kv.oneCell' = true) : FillR (#[(0, 1), (1, 1), (2, 1)][·]?) (Value.agg ([Value.string ⟨#[]⟩] ++ [Value.slice none 0 0] ++ [Value.int .u64 0]).toArray).cells [(0, .string (strB n)), (1, kv)] (bdC ⟨n, [0], 0⟩ kv).toArray :=
 ⟨0, 1, rfl, rfl, Nat.le_of_ble_eq_true rfl, 1, 1, rfl, by rw [cells_one hk]; rfl, Nat.le_of_ble_eq_true rfl, by rw [cells_one hk]; rfl⟩
theorem fill_fd {e : UInt64} {th : Bool} {b : Bd} {kv : Value} : FillR (#[(0, 1), (1, 1), (2, 3)][·]?) (Value.agg ([Value.int .u64 0] ++ [Value.bool false] ++ ([Value.string ⟨#[]⟩] ++ [Value.slice none 0 0] ++ [Value.int .u64 0])).toArray).cells [(0, u64 e), (1, .bool th), (2, .agg (bdC b kv).toArray)] (fdC ⟨e, th, b⟩ kv).toArray :=
 ⟨0, 1, rfl, rfl, Nat.le_of_ble_eq_true rfl, 1, 1, rfl, rfl, Nat.le_of_ble_eq_true rfl, 2, 3, rfl, rfl, Nat.le_of_ble_eq_true rfl, rfl⟩
theorem one_fdC {f : Fd} {kv : Value} (hk : kv.oneCell' = true) : ∀ u ∈ (fdC f kv).toArray.toList, u.oneCell' = true := by
 intro u hu
 simp [fdC] at hu
 rcases hu with rfl | rfl | rfl | rfl | rfl <;> first | rfl | exact hk
theorem chkV_len {root idx : By} {p : Prf} (h : p.V.length = 32) : (chkV root idx p).length = 32 := by
 unfold chkV
 split
 ·exact h
 ·rfl
section
variable {m : Mem} {wI : World}
theorem c_shown {v : Value} {name value : By} {a : Aw} {th : Bool} (him : Im m wI) (hv : value.length = 32) (ha : AwM m v a) :
  Ret Try.prog 50 #[.string (strB name), v, arr value, .bool th] wI fun v' w' => Out m wI w' fun _ => v' = .bool (decide (shownP name a value th)) := by
 cases th with
 | true => exact c_shownT him hv ha
 | false => exact c_shownF him hv ha
theorem c_bclone {v : Value} {l : By} (him : Im m wI) (hv : SlM m v 1 l.length (bs l)) (hL : l.length ≤ 1099511627776) :
  Ret Try.prog 51 #[v] wI fun v' w' => Out m wI w' fun m' => SlM m' v' 1 l.length (bs l) := by
 have st := St.start him
 obtain ⟨_, a, cap, rfl, _⟩ := id hv
 refine ret_of Try.call51 Try.func51 rfl Try.ntmps51 Try.results51 rfl ?_
 refine wc_seq ?_
 refine wc_region ?_
 refine wl_val (v_assign' (by conv => (lhs; whnf))) rfl ?_
 refine wl_nil ?_
 refine then_go ?_
 refine wc_seq ?_
 refine wc_seq ?_
 refine wc_region ?_
 refine wl_val (v_move' (by conv => (lhs; whnf))) rfl ?_
 refine wl_val (v_eq_nilS Try.underlying41 rfl rfl) rfl ?_
 refine wl_nil ?_
 refine then_go ?_
 refine wc_cond rfl (fun h4 => ?_) (fun h4 => ?_)
 ·refine wc_seq ?_
  refine wc_region ?_
  refine wl_val (v_assign' (by conv => (lhs; whnf))) rfl ?_
  refine wl_nil ?_
  refine then_go ?_
  refine wc_ret (then_ret ?_)
  have hL0 : l = [] := by
   obtain ⟨_, a', c', he, hk, hn, _⟩ := hv
   cases he
   have := hn (by simpa using h4)
   exact List.eq_nil_of_length_eq_zero (by omega)
  subst hL0
  exact ret1 rfl (st.out SlM.nil)
 ·refine wc_skip ?_
  refine then_go ?_
  refine wc_seq ?_
  refine wc_region ?_
  refine wl_buildSlice0 (size := 1) Try.underlying41 TF.t5 st rfl ?_
  intro v5 w st
  have st : St m m [] wI w [rowE v5 5 1 ([] : By).length (bs [])] := st
  refine wl_val (v_move' (by conv => (lhs; whnf))) rfl ?_
  refine wl_appB (l2 := l) st Try.underlying41 Try.underlying41 (.inr ⟨_, rfl⟩) TF.t5 TF.z5 rfl rfl (hv.src st.im (one_bs _)) (by simp; omega) (by simp; omega) rfl ?_
  intro v7 w st hv7
  refine wl_val (v_assign' (by conv => (lhs; whnf))) rfl ?_
  refine wl_nil ?_
  refine then_go ?_
  refine wc_ret ?_
  exact ret1 rfl st.bytesOut
theorem c_ask {vv av : Value} {x : Vw} {name : By} {e : UInt64} {a : Aw} (him : Im m wI) (hv : VwM m vv x) (hn : name.length ≤ 9223372036854775807) (ha : AwM m av a) (hL : x.roots.length ≤ 1099511627776) (hk : a.bind.key.length ≤ 1099511627776) :
  Ret Try.prog 20 #[vv, .string (strB name), u64 e, av] wI fun v' w' => Out m wI w' fun m' => ∃ fv, v' = .tuple #[fv, .int .i64 (askE x name e a)] ∧ FdM m' fv (askF x name e a) := by
 have st := St.start him
 have ha0 := ha
 obtain ⟨rv, rfl, hrt, hp, hh, hokx⟩ := hv
 obtain ⟨sv, kv, rfl, hok⟩ := ha
 obtain ⟨ra, rc, rfl⟩ := hrt.sl
 have elt := e.toNat_lt
 refine ret_of Try.call20 Try.func20 rfl Try.ntmps20 Try.results20 rfl ?_
 refine wc_seq ?_
 refine wc_region ?_
 refine wl_box (v := .agg (vwC x.pin x.head (.slice ra x.roots.length rc)).toArray) rfl st rfl ?_
 intro b4 w st
 refine wl_box (v := .agg (awC a sv kv).toArray) rfl st rfl ?_
 intro b7 w st
 refine wl_alloc TF.z48 st rfl ?_
 intro b8 w st
 have st : St m m [] wI w [K.blk b8 (fdC fd0 (.slice none 0 0)).toArray 48, K.blk b7 (awC a sv kv).toArray 45, K.blk b4 (vwC x.pin x.head (.slice ra x.roots.length rc)).toArray 29] := st
 refine wl_val (v_assign' (by conv => (lhs; whnf))) rfl ?_
 refine wl_nil ?_
 refine then_go ?_
 refine wc_seq ?_
 refine wc_block ?_
 refine wc_seq ?_
 refine wc_region ?_
 refine wl_val (v_move' (by conv => (lhs; whnf))) rfl ?_
 refine wl_byte1 0 Try.underlying41 TF.t5 TF.z5 rfl st rfl ?_
 intro b16 w st
 obtain ⟨m1, hg1, hm1, st⟩ := st.freeze (i := 0) rfl (by simp)
 change St _ _ _ _ _ [_, _, _] at st
 have hs1 : SlM m1 (.slice (some ⟨b16, 0, none⟩) 1 1) 1 ([0] : By).length (bs [0]) := SlM.ofBlock (pre := []) (post := []) hm1 (by simp) rfl (Nat.le_refl _)
 have hrt := hrt.mono hg1.le
 have hok := hok.mono hg1.le
 have ha0 := ha0.mono hg1.le
 refine wl_val (v_build (c' := (bdC ⟨name, [0], 0⟩ (.slice (some ⟨b16, 0, none⟩) 1 1)).toArray) [(0, .string (strB name)), (1, .slice (some ⟨b16, 0, none⟩) 1 1)] TF.z43 TF.p43 rfl (fill_bd rfl)) rfl ?_
 refine wl_call rfl (c_reccheck (b := ⟨name, [0], 0⟩) st.im ⟨_, rfl, hs1, hn⟩) rfl ?_
 rintro v18 w ⟨t18, rfl⟩
 have st := st.pure t18
 refine wl_val (v_neq rfl rfl) rfl ?_
 refine wl_val (v_assign' (by conv => (lhs; whnf))) rfl ?_
 refine wl_nil ?_
 refine then_go ?_
 refine wc_if rfl (fun h14 => ?_) (fun h14 => ?_)
 ·refine wc_seq ?_
  refine wc_region ?_
  refine wl_val (v_build (c' := (fdC fd0 (.slice none 0 0)).toArray) [] TF.z48 TF.p48 rfl rfl) rfl ?_
  refine wl_storeW (cs := (fdC fd0 (.slice none 0 0)).toArray) 0 st rfl TF.t48 rfl rfl rfl rfl (one_fdC rfl) ?_
  intro w st
  refine wl_val (v_assign' (by conv => (lhs; whnf))) rfl ?_
  refine wl_nil ?_
  refine then_go ?_
  refine wc_ret (block_ret (then_ret ?_))
  have hno : ¬ okName name := by intro hc; rw [checkE_name, if_pos hc] at h14; exact h14 rfl
  obtain ⟨q1, q2⟩ := ask_4 (x := x) (e := e) (a := a) hno
  exact ret2c rfl (st.reads 0 rfl TF.t48 (getV_all rfl)) rfl ((st.keepOnly (l := []) (List.nil_sublist _)).out ⟨_, by rw [q1]; rfl, by rw [q2]; exact fd0_M⟩)
 ·refine wc_seq ?_
  have hyes : okName name := by
   refine Decidable.byContradiction fun hc => h14 ?_
   rw [checkE_name, if_neg hc]
   decide
  refine wc_region ?_
  refine wl_val (v_move' (by conv => (lhs; whnf))) rfl ?_
  refine wl_val (v_lss rfl rfl) rfl ?_
  refine wl_val (v_move' (by conv => (lhs; whnf))) rfl ?_
  by_cases hg2 : (e.toNat : Int) < 1
  ·rw [show decide ((e.toNat : Int) < 1) = true from decide_eq_true hg2]
   refine wl_off rfl rfl rfl rfl ?_
   refine wl_off rfl rfl rfl rfl ?_
   refine wl_off rfl rfl rfl rfl ?_
   refine wl_off rfl rfl rfl rfl ?_
   refine wl_off rfl rfl rfl rfl ?_
   refine wl_off rfl rfl rfl rfl ?_
   refine wl_val (v_pick rfl) rfl ?_
   refine wl_val (v_assign' (by conv => (lhs; whnf))) rfl ?_
   refine wl_nil ?_
   refine then_go ?_
   refine wc_true rfl ?_
   refine wc_seq ?_
   refine wc_region ?_
   refine wl_val (v_build (c' := (fdC fd0 (.slice none 0 0)).toArray) [] TF.z48 TF.p48 rfl rfl) rfl ?_
   refine wl_storeW (cs := (fdC fd0 (.slice none 0 0)).toArray) 0 st rfl TF.t48 rfl rfl rfl rfl (one_fdC rfl) ?_
   intro w st
   refine wl_val (v_assign' (by conv => (lhs; whnf))) rfl ?_
   refine wl_nil ?_
   refine then_go ?_
   refine wc_ret (block_ret (then_ret ?_))
   obtain ⟨q1, q2⟩ := ask_10 (x := x) (e := e) (a := a) hyes (fun hc => by have := hc.1; omega)
   exact ret2c rfl (st.reads 0 rfl TF.t48 (getV_all rfl)) rfl ((st.keepOnly (l := []) (List.nil_sublist _)).out ⟨_, by rw [q1]; rfl, by rw [q2]; exact fd0_M⟩)
  ·rw [show decide ((e.toNat : Int) < 1) = false from decide_eq_false hg2]
   refine wl_on rfl rfl ?_
   refine wl_val (v_move' (by conv => (lhs; whnf))) rfl ?_
   refine wl_on rfl rfl ?_
   refine wl_val (v_fa TF.f29_2 rfl) rfl ?_
   refine wl_on rfl rfl ?_
   refine wl_val (v_load rfl (st.reads (v := .slice ra x.roots.length rc) 2 rfl TF.t27 (vw_r hp hh))) rfl ?_
   refine wl_on rfl rfl ?_
   refine wl_val (v_len_s Try.underlying27 rfl) rfl ?_
   refine wl_on rfl rfl ?_
   refine wl_val (v_to (v' := .int .u64 (x.roots.length : Nat)) (v_conv Try.underlying3 Try.underlying24 rfl) (by rw [wrap_u64_small (by omega)])) rfl ?_
   refine wl_on rfl rfl ?_
   refine wl_val (v_gtr rfl rfl) rfl ?_
   refine wl_val (v_pick rfl) rfl ?_
   refine wl_val (v_assign' (by conv => (lhs; whnf))) rfl ?_
   refine wl_nil ?_
   refine then_go ?_
   refine wc_if rfl (fun h21 => ?_) (fun h21 => ?_)
   ·refine wc_seq ?_
    refine wc_region ?_
    refine wl_val (v_build (c' := (fdC fd0 (.slice none 0 0)).toArray) [] TF.z48 TF.p48 rfl rfl) rfl ?_
    refine wl_storeW (cs := (fdC fd0 (.slice none 0 0)).toArray) 0 st rfl TF.t48 rfl rfl rfl rfl (one_fdC rfl) ?_
    intro w st
    refine wl_val (v_assign' (by conv => (lhs; whnf))) rfl ?_
    refine wl_nil ?_
    refine then_go ?_
    refine wc_ret (block_ret (then_ret ?_))
    obtain ⟨q1, q2⟩ := ask_10 (x := x) (e := e) (a := a) hyes (fun hc => by have := hc.2; omega)
    exact ret2c rfl (st.reads 0 rfl TF.t48 (getV_all rfl)) rfl ((st.keepOnly (l := []) (List.nil_sublist _)).out ⟨_, by rw [q1]; rfl, by rw [q2]; exact fd0_M⟩)
   ·refine wc_skip ?_
    refine block_go (then_go ?_)
    refine wc_seq ?_
    have hep : epochP x e := ⟨by omega, by omega⟩
    have hj : e.toNat - 1 < x.roots.length := by have := hep.1; have := hep.2; omega
    obtain ⟨rb, ro, hra⟩ := hrt.ptr (by omega) (by decide)
    subst hra
    have hok1 := hokx _ (List.getElem_mem hj)
    have hroot : rootAt x e = x.roots[e.toNat - 1].tree := by rw [rootAt, List.getElem?_eq_getElem hj]
    have hrl : (rootAt x e).length = 32 := by rw [hroot]; exact hok1.2.1
    refine wc_draw TF.mixed ?_
    have st := st.pure (touch_drew _)
    show FL _ _ ?ops5 ?post5 [] [] [] _ _
    have fin : ∀ (r : Fr) (w : World) (m2 : Mem) (b10 : Nat), r 1 = .string (strB name) → r 2 = u64 e → r 4 = .pointer (some ⟨b4, 0, none⟩) → r 7 = .pointer (some ⟨b7, 0, none⟩) → r 8 = .pointer (some ⟨b8, 0, none⟩) → r 10 = .pointer (some ⟨b10, 0, none⟩) → r 34 = .pointer (some ⟨b4, 0 + 97, none⟩) → r 35 = .slice (some ⟨rb, ro, none⟩) x.roots.length rc → r 46 = arr (chkV (rootAt x e) a.index a.proof) → r 47 = .bool (decide (chkT (rootAt x e) a.index a.proof)) → r 48 = .int .i64 (chkE (rootAt x e) a.index a.proof) → AwOk m2 a sv kv →
     St m m2 [] wI w [K.blk b10 (bs z32).toArray 23, K.blk b8 (fdC fd0 (.slice none 0 0)).toArray 48, K.blk b7 (awC a sv kv).toArray 45, K.blk b4 (vwC x.pin x.head (.slice (some ⟨rb, ro, none⟩) x.roots.length rc)).toArray 29] → FL Try.prog 78 ?ops5 ?post5 [16, 15, 14, 13, 12, 11, 10, 9, 8, 7, 6, 5, 4, 3, 2, 1, 0] [15, 14, 13, 12, 9, 7, 5, 4, 3, 2, 0] [1] r w := by
     clear st
     rintro r w m2 b10 g1 g2 g4 g7 g8 g10 g34 g35 g46 g47 g48 hok st
     have ha0 : AwM m2 (.agg (awC a sv kv).toArray) a := ⟨_, _, rfl, hok⟩
     refine fl_o 1 g1 (fl_o 2 g2 (fl_o 4 g4 (fl_o 7 g7 (fl_o 8 g8 (fl_o 10 g10 (fl_o 34 g34 (fl_o 35 g35 (fl_o 46 g46 (fl_o 47 g47 (fl_o 48 g48 ?_))))))))))
     refine fl_eff1 17 [15, 14] [] (by kernel_rfl) ⟨obl_ld rfl rfl rfl (v_load rfl (by first | exact st.reads (v := .slice (some ⟨rb, ro, none⟩) x.roots.length rc) (b := b4) (c := (vwC x.pin x.head (.slice (some ⟨rb, ro, none⟩) x.roots.length rc)).toArray) 2 rfl TF.t27 (vw_r hp hh) | exact st.reads (v := .slice (some ⟨rb, ro, none⟩) x.roots.length rc) (b := b4) (c := (vwC x.pin x.head (.slice (some ⟨rb, ro, none⟩) x.roots.length rc)).toArray) 3 rfl TF.t27 (vw_r hp hh))), trivial⟩ rfl ?_
     refine wl_storeW (cs := (bs (chkV (rootAt x e) a.index a.proof)).toArray) 0 st rfl TF.t23 rfl rfl (by rw [List.size_toArray, length_bs, chkV_len hok.pV]) rfl (fun u hu => one_bs _ u (by simpa using hu)) ?_
     intro w st
     refine wl_nil ⟨rfl, ?_⟩
     refine fl_eff1 18 [15] [] (by kernel_rfl) trivial rfl ?_
     refine wl_val (v_assign' (by conv => (lhs; whnf))) rfl ?_
     refine wl_nil ⟨rfl, ?_⟩
     refine fl_eff1 19 [] [] (by kernel_rfl) trivial rfl ?_
     refine wl_val (v_assign' (by conv => (lhs; whnf))) rfl ?_
     refine wl_nil ⟨rfl, ?_⟩
     refine fl_nil (by kernel_rfl) trivial ?_
     refine then_go ?_
     refine wc_seq ?_
     refine wc_seq ?_
     refine wc_region ?_
     refine wl_val (v_fa TF.f45_0 rfl) rfl ?_
     refine wl_val (v_load rfl (st.reads (v := u64 a.epoch) 2 rfl TF.t24 aw_e)) rfl ?_
     refine wl_val (v_move' (by conv => (lhs; whnf))) rfl ?_
     refine wl_val (v_neq rfl rfl) rfl ?_
     refine wl_val (v_move' (by conv => (lhs; whnf))) rfl ?_
     by_cases hg4 : ¬ (a.epoch.toNat : Int) = (e.toNat : Int)
     ·rw [show decide (¬ (a.epoch.toNat : Int) = (e.toNat : Int)) = true from decide_eq_true hg4]
      refine wl_off rfl rfl rfl rfl ?_
      refine wl_off rfl rfl rfl rfl ?_
      refine wl_val (v_pick rfl) rfl ?_
      refine wl_val (v_move' (by conv => (lhs; whnf))) rfl ?_
      refine wl_off rfl rfl rfl rfl ?_
      refine wl_off rfl rfl rfl rfl ?_
      refine wl_off rfl rfl rfl rfl ?_
      refine wl_off rfl rfl rfl rfl ?_
      refine wl_off rfl rfl rfl rfl ?_
      refine wl_off rfl rfl rfl rfl ?_
      refine wl_val (v_pick rfl) rfl ?_
      refine wl_nil ?_
      refine then_go ?_
      refine wc_true rfl ?_
      refine wc_seq ?_
      refine wc_region ?_
      refine wl_val (v_build (c' := (fdC fd0 (.slice none 0 0)).toArray) [] TF.z48 TF.p48 rfl rfl) rfl ?_
      refine wl_storeW (cs := (fdC fd0 (.slice none 0 0)).toArray) 1 st rfl TF.t48 rfl rfl rfl rfl (one_fdC rfl) ?_
      intro w st
      refine wl_val (v_assign' (by conv => (lhs; whnf))) rfl ?_
      refine wl_nil ?_
      refine then_go ?_
      refine wc_ret (then_ret ?_)
      obtain ⟨q1, q2⟩ := ask_15 hyes hep (fun hc : askOk x name e a => hg4 (by rw [hc.1]))
      exact ret2c rfl (st.reads 1 rfl TF.t48 (getV_all rfl)) rfl ((st.keepOnly (l := []) (List.nil_sublist _)).out ⟨_, by rw [q1]; rfl, by rw [q2]; exact fd0_M⟩)
     ·rw [show decide (¬ (a.epoch.toNat : Int) = (e.toNat : Int)) = false from decide_eq_false hg4]
      refine wl_on rfl rfl ?_
      refine wl_val (v_move' (by conv => (lhs; whnf))) rfl ?_
      refine wl_on rfl rfl ?_
      refine wl_val (v_neq rfl rfl) rfl ?_
      refine wl_val (v_pick rfl) rfl ?_
      refine wl_val (v_move' (by conv => (lhs; whnf))) rfl ?_
      by_cases hg8 : ¬ chkE (rootAt x e) a.index a.proof = 0
      ·rw [show decide (¬ chkE (rootAt x e) a.index a.proof = 0) = true from decide_eq_true hg8]
       refine wl_off rfl rfl rfl rfl ?_
       refine wl_off rfl rfl rfl rfl ?_
       refine wl_off rfl rfl rfl rfl ?_
       refine wl_off rfl rfl rfl rfl ?_
       refine wl_off rfl rfl rfl rfl ?_
       refine wl_off rfl rfl rfl rfl ?_
       refine wl_val (v_pick rfl) rfl ?_
       refine wl_nil ?_
       refine then_go ?_
       refine wc_true rfl ?_
       refine wc_seq ?_
       refine wc_region ?_
       refine wl_val (v_build (c' := (fdC fd0 (.slice none 0 0)).toArray) [] TF.z48 TF.p48 rfl rfl) rfl ?_
       refine wl_storeW (cs := (fdC fd0 (.slice none 0 0)).toArray) 1 st rfl TF.t48 rfl rfl rfl rfl (one_fdC rfl) ?_
       intro w st
       refine wl_val (v_assign' (by conv => (lhs; whnf))) rfl ?_
       refine wl_nil ?_
       refine then_go ?_
       refine wc_ret (then_ret ?_)
       obtain ⟨q1, q2⟩ := ask_15 hyes hep (fun hc : askOk x name e a => hg8 (by rw [chkE, if_pos hc.2.1]))
       exact ret2c rfl (st.reads 1 rfl TF.t48 (getV_all rfl)) rfl ((st.keepOnly (l := []) (List.nil_sublist _)).out ⟨_, by rw [q1]; rfl, by rw [q2]; exact fd0_M⟩)
      ·rw [show decide (¬ chkE (rootAt x e) a.index a.proof = 0) = false from decide_eq_false hg8]
       refine wl_on rfl rfl ?_
       refine wl_val (v_move' (by conv => (lhs; whnf))) rfl ?_
       refine wl_on rfl rfl ?_
       refine wl_val (v_load rfl (st.reads (v := .agg (awC a sv kv).toArray) 2 rfl TF.t45 (getV_all (by rw [List.size_toArray, length_awC hok])))) rfl ?_
       refine wl_on rfl rfl ?_
       refine wl_val (v_load rfl (st.reads (v := arr (chkV (rootAt x e) a.index a.proof)) 0 rfl TF.t23 (getV_all (by rw [List.size_toArray, length_bs, chkV_len hok.pV])))) rfl ?_
       refine wl_on rfl rfl ?_
       refine wl_val (v_move' (by conv => (lhs; whnf))) rfl ?_
       refine wl_on rfl rfl ?_
       refine wl_call rfl (c_shown st.im (chkV_len hok.pV) ha0) rfl ?_
       rintro v62 w ⟨t62, m3, hg3, hi3, rfl⟩
       have st := st.grown hg3 t62 hi3
       have hok := hok.mono hg3.le
       refine wl_on rfl rfl ?_
       refine wl_val (v_not rfl) rfl ?_
       refine wl_val (v_pick rfl) rfl ?_
       refine wl_nil ?_
       refine then_go ?_
       refine wc_cond rfl (fun h64 => ?_) (fun h64 => ?_)
       ·refine wc_seq ?_
        refine wc_region ?_
        refine wl_val (v_build (c' := (fdC fd0 (.slice none 0 0)).toArray) [] TF.z48 TF.p48 rfl rfl) rfl ?_
        refine wl_storeW (cs := (fdC fd0 (.slice none 0 0)).toArray) 1 st rfl TF.t48 rfl rfl rfl rfl (one_fdC rfl) ?_
        intro w st
        refine wl_val (v_assign' (by conv => (lhs; whnf))) rfl ?_
        refine wl_nil ?_
        refine then_go ?_
        refine wc_ret (then_ret ?_)
        obtain ⟨q1, q2⟩ := ask_15 hyes hep (fun hc : askOk x name e a => by have := hc.2.2; simp [this] at h64)
        exact ret2c rfl (st.reads 1 rfl TF.t48 (getV_all rfl)) rfl ((st.keepOnly (l := []) (List.nil_sublist _)).out ⟨_, by rw [q1]; rfl, by rw [q2]; exact fd0_M⟩)
       ·refine wc_skip ?_
        refine then_go ?_
        refine wc_seq ?_
        have hpr : provesP (rootAt x e) a.index a.proof := by
         refine Decidable.byContradiction fun hc => hg8 ?_
         rw [chkE, if_neg hc]
         decide
        have hall : askOk x name e a := ⟨UInt64.toNat_inj.1 (by omega), hpr, by simpa using h64⟩
        obtain ⟨q1, q2⟩ := ask_0 hyes hep hall
        obtain ⟨_, ka, kc, hkv, _⟩ := id hok.key
        subst hkv
        refine wc_region ?_
        refine wl_val (v_move' (by conv => (lhs; whnf))) rfl ?_
        refine wl_val (v_move' (by conv => (lhs; whnf))) rfl ?_
        refine wl_val (v_fa TF.f45_5 rfl) rfl ?_
        refine wl_val (v_load rfl (st.reads (v := .agg (bdC a.bind (.slice ka a.bind.key.length kc)).toArray) 2 rfl TF.t43 (aw_b hok))) rfl ?_
        refine wl_val (v_build (c' := (fdC ⟨e, decide (chkT (rootAt x e) a.index a.proof), a.bind⟩ (.slice ka a.bind.key.length kc)).toArray) [(0, u64 e), (1, .bool (decide (chkT (rootAt x e) a.index a.proof))), (2, .agg (bdC a.bind (.slice ka a.bind.key.length kc)).toArray)] TF.z48 TF.p48 rfl fill_fd) rfl ?_
        refine wl_alloc TF.z48 st rfl ?_
        intro b13 w st
        refine wl_storeW (cs := (fdC ⟨e, decide (chkT (rootAt x e) a.index a.proof), a.bind⟩ (.slice ka a.bind.key.length kc)).toArray) 0 st rfl TF.t48 rfl rfl rfl rfl (one_fdC rfl) ?_
        intro w st
        refine wl_nil ?_
        refine then_go ?_
        refine wc_seq ?_
        refine wc_region ?_
        refine wl_val (v_fa TF.f45_5 rfl) rfl ?_
        refine wl_val (v_fa TF.f43_1 rfl) rfl ?_
        refine wl_val (v_load rfl (st.reads (v := .slice ka a.bind.key.length kc) 3 rfl TF.t41 (aw_bk hok))) rfl ?_
        refine wl_call rfl (c_bclone st.im hok.key hk) rfl ?_
        rintro v74 w ⟨t74, m4, hg4', hi4, hs4⟩
        have st := st.grown hg4' t74 hi4
        have ho4 : v74.oneCell' = true := by obtain ⟨_, _, _, h, _⟩ := hs4; rw [h]; rfl
        refine wl_val (v_fa TF.f48_2 rfl) rfl ?_
        refine wl_val (v_fa TF.f43_1 rfl) rfl ?_
        refine wl_store1 0 st rfl TF.t41 rfl (by conv => (lhs; whnf)) ho4 (Nat.le_of_ble_eq_true rfl) ?_
        intro w st
        have st : St m m4 [] wI w (K.blk _ (fdC ⟨e, decide (chkT (rootAt x e) a.index a.proof), a.bind⟩ v74).toArray 48 :: _) := st
        refine wl_nil ?_
        refine then_go ?_
        refine wc_seq ?_
        refine wc_region ?_
        refine wl_val (v_load rfl (st.reads (v := .agg (fdC ⟨e, decide (chkT (rootAt x e) a.index a.proof), a.bind⟩ v74).toArray) 0 rfl TF.t48 (getV_all rfl))) rfl ?_
        refine wl_storeW (cs := (fdC ⟨e, decide (chkT (rootAt x e) a.index a.proof), a.bind⟩ v74).toArray) 2 st rfl TF.t48 rfl rfl rfl rfl (one_fdC ho4) ?_
        intro w st
        refine wl_val (v_assign' (by conv => (lhs; whnf))) rfl ?_
        refine wl_nil ?_
        refine then_go ?_
        refine wc_ret ?_
        exact ret2c rfl (st.reads (v := .agg (fdC ⟨e, decide (chkT (rootAt x e) a.index a.proof), a.bind⟩ v74).toArray) 2 rfl TF.t48 (getV_all rfl)) rfl ((st.keepOnly (l := []) (List.nil_sublist _)).out ⟨_, by rw [q1]; rfl, by rw [q2]; exact ⟨_, rfl, hs4, hok.name⟩⟩)
    refine fl_val 0 rfl (fun _ => (v_fa TF.f29_2 rfl)) rfl (by kernel_rfl) ?_
    refine fl_ld 1 rfl (v_load rfl (by first | exact st.reads (v := .slice (some ⟨rb, ro, none⟩) x.roots.length rc) (b := b4) (c := (vwC x.pin x.head (.slice (some ⟨rb, ro, none⟩) x.roots.length rc)).toArray) 2 rfl TF.t27 (vw_r hp hh) | exact st.reads (v := .slice (some ⟨rb, ro, none⟩) x.roots.length rc) (b := b4) (c := (vwC x.pin x.head (.slice (some ⟨rb, ro, none⟩) x.roots.length rc)).toArray) 3 rfl TF.t27 (vw_r hp hh))) (by kernel_rfl) ?_
    refine fl_val 2 rfl (fun _ => (v_move' (by conv => (lhs; whnf)))) rfl (by kernel_rfl) ?_
    refine fl_val 3 rfl (fun _ => (v_to (v' := .int .u64 ((e.toNat - 1 : Nat) : Int)) (v_sub rfl rfl) (by rw [show ((e.toNat : Int) - 1) = ((e.toNat - 1 : Nat) : Int) by omega, wrap_u64_small (by omega)]))) rfl (by kernel_rfl) ?_
    refine fl_val 4 rfl (fun _ => (v_ias (e.toNat - 1) Try.underlying27 TF.t55 rfl rfl (by first | rfl | omega) (by first | omega | (dsimp only at *; omega)))) rfl (by kernel_rfl) ?_
    refine fl_val 5 rfl (fun _ => (v_fa TF.f55_2 rfl)) rfl (by kernel_rfl) ?_
    refine fl_ld 6 rfl (v_load rfl (hrt.rd (v' := arr (rootAt x e)) rfl hj (by decide) TF.t23 (by rw [hroot]; exact (getRt hok1).2.1) st.im)) (by kernel_rfl) ?_
    refine fl_val 7 rfl (fun _ => (v_fa TF.f45_1 rfl)) rfl (by kernel_rfl) ?_
    refine fl_ld 8 rfl (v_load rfl (by first | exact st.reads (v := arr a.index) (b := b7) (c := (awC a sv kv).toArray) 1 rfl TF.t23 (aw_i hok) | exact st.reads (v := arr a.index) (b := b7) (c := (awC a sv kv).toArray) 2 rfl TF.t23 (aw_i hok))) (by kernel_rfl) ?_
    refine fl_val 9 rfl (fun _ => (v_fa TF.f45_2 rfl)) rfl (by kernel_rfl) ?_
    refine fl_ld 10 rfl (v_load rfl (by first | exact st.reads (v := .agg (prC sv a.proof.E a.proof.I a.proof.V)) (b := b7) (c := (awC a sv kv).toArray) 1 rfl TF.t40 (aw_p hok) | exact st.reads (v := .agg (prC sv a.proof.E a.proof.I a.proof.V)) (b := b7) (c := (awC a sv kv).toArray) 2 rfl TF.t40 (aw_p hok))) (by kernel_rfl) ?_
    refine fl_effs [11, 16] (by kernel_rfl) ⟨obl_ld rfl rfl rfl (v_load rfl (by first | exact st.reads (v := .agg (prC sv a.proof.E a.proof.I a.proof.V)) (b := b7) (c := (awC a sv kv).toArray) 1 rfl TF.t40 (aw_p hok) | exact st.reads (v := .agg (prC sv a.proof.E a.proof.I a.proof.V)) (b := b7) (c := (awC a sv kv).toArray) 2 rfl TF.t40 (aw_p hok))), obl_ld rfl rfl rfl (v_load rfl (by first | exact st.reads (v := arr a.index) (b := b7) (c := (awC a sv kv).toArray) 1 rfl TF.t23 (aw_i hok) | exact st.reads (v := arr a.index) (b := b7) (c := (awC a sv kv).toArray) 2 rfl TF.t23 (aw_i hok))), obl_ld rfl rfl rfl (v_load rfl (hrt.rd (v' := arr (rootAt x e)) rfl hj (by decide) TF.t23 (by rw [hroot]; exact (getRt hok1).2.1) st.im)), obl_ld rfl rfl rfl (v_load rfl (by first | exact st.reads (v := .slice (some ⟨rb, ro, none⟩) x.roots.length rc) (b := b4) (c := (vwC x.pin x.head (.slice (some ⟨rb, ro, none⟩) x.roots.length rc)).toArray) 2 rfl TF.t27 (vw_r hp hh) | exact st.reads (v := .slice (some ⟨rb, ro, none⟩) x.roots.length rc) (b := b4) (c := (vwC x.pin x.head (.slice (some ⟨rb, ro, none⟩) x.roots.length rc)).toArray) 3 rfl TF.t27 (vw_r hp hh))), trivial⟩ (all2 ?_ ?_)
    ·refine stepE 11 (pure' := [9, 7, 5, 4, 3, 2, 0]) (lds' := [1]) rfl (by kernel_rfl) (by kernel_rfl) ?_
     refine wl_call rfl (c_pcheck st.im hrl hok.idx ⟨_, rfl, hok.sibs, hok.pI, hok.pV⟩) rfl ?_
     rintro v45 w ⟨t45, m2, hg2, hi2, rfl⟩
     have st := st.grown hg2 t45 hi2
     have hok := hok.mono hg2.le
     have hrt := hrt.mono hg2.le
     refine wl_nil ⟨rfl, ?_⟩
     refine fl_val 12 rfl (fun _ => (v_move' (by conv => (lhs; whnf)))) rfl (by kernel_rfl) ?_
     refine fl_val 13 rfl (fun _ => (v_extract rfl rfl)) rfl (by kernel_rfl) ?_
     refine fl_val 14 rfl (fun _ => (v_extract rfl rfl)) rfl (by kernel_rfl) ?_
     refine fl_val 15 rfl (fun _ => (v_extract rfl rfl)) rfl (by kernel_rfl) ?_
     refine fl_eff1 16 [15, 14, 13, 12, 9, 7, 5, 4, 3, 2, 0] [1] (by kernel_rfl) ⟨obl_ld rfl rfl rfl (v_load rfl (by first | exact st.reads (v := .slice (some ⟨rb, ro, none⟩) x.roots.length rc) (b := b4) (c := (vwC x.pin x.head (.slice (some ⟨rb, ro, none⟩) x.roots.length rc)).toArray) 2 rfl TF.t27 (vw_r hp hh) | exact st.reads (v := .slice (some ⟨rb, ro, none⟩) x.roots.length rc) (b := b4) (c := (vwC x.pin x.head (.slice (some ⟨rb, ro, none⟩) x.roots.length rc)).toArray) 3 rfl TF.t27 (vw_r hp hh))), trivial⟩ rfl ?_
     refine wl_alloc TF.z23 st rfl ?_
     intro b10 w st
     refine wl_nil ⟨rfl, ?_⟩
     refine FL.permB [16, 15, 14, 13, 12, 11, 10, 9, 8, 7, 6, 5, 4, 3, 2, 1, 0] [15, 14, 13, 12, 9, 7, 5, 4, 3, 2, 0] [1] (by kernel_rfl) ?_
     exact fin _ _ _ _ rfl rfl rfl rfl rfl rfl rfl rfl rfl rfl rfl hok st
    ·refine stepE 16 (pure' := [9, 7, 5, 4, 3, 2, 0]) (lds' := [10, 8, 6, 1]) rfl (by kernel_rfl) (by kernel_rfl) ?_
     refine wl_alloc TF.z23 st rfl ?_
     intro b10 w st
     refine wl_nil ⟨rfl, ?_⟩
     refine fl_eff1 11 [9, 7, 5, 4, 3, 2, 0] [1] (by kernel_rfl) ⟨obl_ld rfl rfl rfl (v_load rfl (by first | exact st.reads (v := .agg (prC sv a.proof.E a.proof.I a.proof.V)) (b := b7) (c := (awC a sv kv).toArray) 1 rfl TF.t40 (aw_p hok) | exact st.reads (v := .agg (prC sv a.proof.E a.proof.I a.proof.V)) (b := b7) (c := (awC a sv kv).toArray) 2 rfl TF.t40 (aw_p hok))), obl_ld rfl rfl rfl (v_load rfl (by first | exact st.reads (v := arr a.index) (b := b7) (c := (awC a sv kv).toArray) 1 rfl TF.t23 (aw_i hok) | exact st.reads (v := arr a.index) (b := b7) (c := (awC a sv kv).toArray) 2 rfl TF.t23 (aw_i hok))), obl_ld rfl rfl rfl (v_load rfl (hrt.rd (v' := arr (rootAt x e)) rfl hj (by decide) TF.t23 (by rw [hroot]; exact (getRt hok1).2.1) st.im)), obl_ld rfl rfl rfl (v_load rfl (by first | exact st.reads (v := .slice (some ⟨rb, ro, none⟩) x.roots.length rc) (b := b4) (c := (vwC x.pin x.head (.slice (some ⟨rb, ro, none⟩) x.roots.length rc)).toArray) 2 rfl TF.t27 (vw_r hp hh) | exact st.reads (v := .slice (some ⟨rb, ro, none⟩) x.roots.length rc) (b := b4) (c := (vwC x.pin x.head (.slice (some ⟨rb, ro, none⟩) x.roots.length rc)).toArray) 3 rfl TF.t27 (vw_r hp hh))), trivial⟩ rfl ?_
     refine wl_call rfl (c_pcheck st.im hrl hok.idx ⟨_, rfl, hok.sibs, hok.pI, hok.pV⟩) rfl ?_
     rintro v45 w ⟨t45, m2, hg2, hi2, rfl⟩
     have st := st.grown hg2 t45 hi2
     have hok := hok.mono hg2.le
     have hrt := hrt.mono hg2.le
     refine wl_nil ⟨rfl, ?_⟩
     refine fl_val 12 rfl (fun _ => (v_move' (by conv => (lhs; whnf)))) rfl (by kernel_rfl) ?_
     refine fl_val 13 rfl (fun _ => (v_extract rfl rfl)) rfl (by kernel_rfl) ?_
     refine fl_val 14 rfl (fun _ => (v_extract rfl rfl)) rfl (by kernel_rfl) ?_
     refine fl_val 15 rfl (fun _ => (v_extract rfl rfl)) rfl (by kernel_rfl) ?_
     refine FL.permB [16, 15, 14, 13, 12, 11, 10, 9, 8, 7, 6, 5, 4, 3, 2, 1, 0] [15, 14, 13, 12, 9, 7, 5, 4, 3, 2, 0] [1] (by kernel_rfl) ?_
     exact fin _ _ _ _ rfl rfl rfl rfl rfl rfl rfl rfl rfl rfl rfl hok st
end
end Go.Proofs.Ytjjpakjgppmmdaa

namespace Go.Proofs.Ytjjpakjgppmmdaa
open Go Go.RowKit K SH PT
theorem bd0_of {b : Bd} (h1 : b.name = []) (h2 : b.key.length = 0) (h3 : b.serial = 0) : b = bd0 := by
 obtain ⟨n, k, s⟩ := b
 simp at h1 h2 h3
 subst h1; subst h2; subst h3
 rfl
end Go.Proofs.Ytjjpakjgppmmdaa

namespace Go.Proofs.Ytjjpakjgppmmdaa
open Go Go.RowKit K SH PT
theorem learnG_len : ∀ {L : List Sg} {x : Vw}, (∀ s ∈ L, s.root.ok) → (learnG x L).1.roots.length ≤ x.roots.length + L.length
 | [], x, _ => by simp [learnG]
 | s :: L, x, h => by
  rw [learnG]
  split
  ·have h1 : (lrnV x s).roots.length ≤ x.roots.length + 1 := by
    unfold lrnV
    split
    ·omega
    ·simp
   have h2 := learnG_len (L := L) (x := lrnV x s) fun y hy => h y (by simp [hy])
   rw [List.length_cons]
   omega
  ·simp [vw0]
theorem Bd.eq_of {a b : Bd} (h1 : a.name = b.name) (h2 : (a.serial.toNat : Int) = (b.serial.toNat : Int)) (h3 : a.key = b.key) : a = b := by
 obtain ⟨an, ak, az⟩ := a
 obtain ⟨bn, bk, bz⟩ := b
 have h4 : az = bz := UInt64.toNat_inj.1 (Int.ofNat_inj.1 h2)
 simp at h1 h3
 rw [h1, h3, h4]
theorem Fd.eq_of {a b : Fd} (h1 : (a.epoch.toNat : Int) = (b.epoch.toNat : Int)) (h2 : (a.there == b.there) = true) (h3 : a.bind = b.bind) : a = b := by
 obtain ⟨an, ak, az⟩ := a
 obtain ⟨bn, bk, bz⟩ := b
 have h4 : an = bn := UInt64.toNat_inj.1 (Int.ofNat_inj.1 h1)
 simp at h2 h3
 rw [h2, h3, h4]
section
variable {m : Mem} {wI : World}
theorem c_samebind {v1 v2 : Value} {a b : Bd} (him : Im m wI) (h1 : BdM m v1 a) (h2 : BdM m v2 b) :
    Ret Try.prog 57 #[v1, v2] wI fun v' w' => Tch wI w' [] [] ∧ v' = .bool (decide (a = b)) := by
  have st := St.start him
  obtain ⟨kv, rfl, hk, hn⟩ := h1
  obtain ⟨kw, rfl, hl, hm⟩ := h2
  refine ret_of Try.call57 Try.func57 rfl Try.ntmps57 Try.results57 rfl ?_
  refine wc_seq ?_
  refine wc_region ?_
  refine wl_box (v := .agg (bdC a kv).toArray) rfl st rfl ?_
  intro b2 w st
  refine wl_box (v := .agg (bdC b kw).toArray) rfl st rfl ?_
  intro b3 w st
  refine wl_val (v_assign' (by conv => (lhs; whnf))) rfl ?_
  refine wl_nil ?_
  refine then_go ?_
  refine wc_seq ?_
  refine wc_region ?_
  refine wl_val (v_fa TF.f43_0 rfl) rfl ?_
  refine wl_val (v_load rfl (st.reads (v := .string (strB a.name)) 1 rfl TF.t9 rfl)) rfl ?_
  refine wl_val (v_fa TF.f43_0 rfl) rfl ?_
  refine wl_val (v_load rfl (st.reads (v := .string (strB b.name)) 0 rfl TF.t9 rfl)) rfl ?_
  refine wl_val (v_eqs rfl rfl) rfl ?_
  refine wl_val (v_move' (by conv => (lhs; whnf))) rfl ?_
  by_cases hg5 : a.name = b.name
  · rw [show decide (a.name = b.name) = true from decide_eq_true hg5]
    refine wl_on rfl rfl ?_
    refine wl_val (v_fa TF.f43_2 rfl) rfl ?_
    refine wl_on rfl rfl ?_
    refine wl_val (v_load rfl (st.reads (v := u64 a.serial) 1 rfl TF.t24 rfl)) rfl ?_
    refine wl_on rfl rfl ?_
    refine wl_val (v_fa TF.f43_2 rfl) rfl ?_
    refine wl_on rfl rfl ?_
    refine wl_val (v_load rfl (st.reads (v := u64 b.serial) 0 rfl TF.t24 rfl)) rfl ?_
    refine wl_on rfl rfl ?_
    refine wl_val (v_eql rfl rfl) rfl ?_
    refine wl_val (v_pick rfl) rfl ?_
    refine wl_val (v_move' (by conv => (lhs; whnf))) rfl ?_
    by_cases hg12 : (a.serial.toNat : Int) = (b.serial.toNat : Int)
    · rw [show decide ((a.serial.toNat : Int) = (b.serial.toNat : Int)) = true from decide_eq_true hg12]
      refine wl_on rfl rfl ?_
      refine wl_val (v_fa TF.f43_1 rfl) rfl ?_
      refine wl_on rfl rfl ?_
      refine wl_val (v_load rfl (st.reads (v := kv) 1 rfl TF.t41 rfl)) rfl ?_
      refine wl_on rfl rfl ?_
      refine wl_val (v_b2s Try.underlying41 Try.underlying5 Try.underlying9 st.im hk rfl) rfl ?_
      refine wl_on rfl rfl ?_
      refine wl_val (v_fa TF.f43_1 rfl) rfl ?_
      refine wl_on rfl rfl ?_
      refine wl_val (v_load rfl (st.reads (v := kw) 0 rfl TF.t41 rfl)) rfl ?_
      refine wl_on rfl rfl ?_
      refine wl_val (v_b2s Try.underlying41 Try.underlying5 Try.underlying9 st.im hl rfl) rfl ?_
      refine wl_on rfl rfl ?_
      refine wl_val (v_eqs rfl rfl) rfl ?_
      refine wl_val (v_pick rfl) rfl ?_
      refine wl_val (v_assign' (by conv => (lhs; whnf))) rfl ?_
      refine wl_nil ?_
      refine then_go ?_
      refine wc_ret ?_
      refine ret1 rfl ⟨(st.keepOnly (l := []) (List.nil_sublist _)).touch, ?_⟩
      first
        | (have e : decide (a = b) = decide (a.key = b.key) := decide_eq_decide.2 ⟨fun h => by rw [h], fun h => Bd.eq_of hg5 hg12 h⟩
           rw [e]; rfl)
        | (rw [show decide (a = b) = false from decide_eq_false (fun hc => by first | exact hg5 (show a.name = b.name by rw [hc]) | exact hg12 (show (a.serial.toNat : Int) = (b.serial.toNat : Int) by rw [hc]))]; rfl)
    · rw [show decide ((a.serial.toNat : Int) = (b.serial.toNat : Int)) = false from decide_eq_false hg12]
      refine wl_off rfl rfl rfl rfl ?_
      refine wl_off rfl rfl rfl rfl ?_
      refine wl_off rfl rfl rfl rfl ?_
      refine wl_off rfl rfl rfl rfl ?_
      refine wl_off rfl rfl rfl rfl ?_
      refine wl_off rfl rfl rfl rfl ?_
      refine wl_off rfl rfl rfl rfl ?_
      refine wl_val (v_pick rfl) rfl ?_
      refine wl_val (v_assign' (by conv => (lhs; whnf))) rfl ?_
      refine wl_nil ?_
      refine then_go ?_
      refine wc_ret ?_
      refine ret1 rfl ⟨(st.keepOnly (l := []) (List.nil_sublist _)).touch, ?_⟩
      first
        | (have e : decide (a = b) = decide (a.key = b.key) := decide_eq_decide.2 ⟨fun h => by rw [h], fun h => Bd.eq_of hg5 hg12 h⟩
           rw [e]; rfl)
        | (rw [show decide (a = b) = false from decide_eq_false (fun hc => by first | exact hg5 (show a.name = b.name by rw [hc]) | exact hg12 (show (a.serial.toNat : Int) = (b.serial.toNat : Int) by rw [hc]))]; rfl)
  · rw [show decide (a.name = b.name) = false from decide_eq_false hg5]
    refine wl_off rfl rfl rfl rfl ?_
    refine wl_off rfl rfl rfl rfl ?_
    refine wl_off rfl rfl rfl rfl ?_
    refine wl_off rfl rfl rfl rfl ?_
    refine wl_off rfl rfl rfl rfl ?_
    refine wl_val (v_pick rfl) rfl ?_
    refine wl_val (v_move' (by conv => (lhs; whnf))) rfl ?_
    refine wl_off rfl rfl rfl rfl ?_
    refine wl_off rfl rfl rfl rfl ?_
    refine wl_off rfl rfl rfl rfl ?_
    refine wl_off rfl rfl rfl rfl ?_
    refine wl_off rfl rfl rfl rfl ?_
    refine wl_off rfl rfl rfl rfl ?_
    refine wl_off rfl rfl rfl rfl ?_
    refine wl_val (v_pick rfl) rfl ?_
    refine wl_val (v_assign' (by conv => (lhs; whnf))) rfl ?_
    refine wl_nil ?_
    refine then_go ?_
    refine wc_ret ?_
    refine ret1 rfl ⟨(st.keepOnly (l := []) (List.nil_sublist _)).touch, ?_⟩
    first
      | (have e : decide (a = b) = decide (a.key = b.key) := decide_eq_decide.2 ⟨fun h => by rw [h], fun h => Bd.eq_of hg5 hg12 h⟩
         rw [e]; rfl)
      | (rw [show decide (a = b) = false from decide_eq_false (fun hc => by first | exact hg5 (show a.name = b.name by rw [hc]) | exact hg12 (show (a.serial.toNat : Int) = (b.serial.toNat : Int) by rw [hc]))]; rfl)
theorem fdB {f : Fd} {kv : Value} : getV true 3 (fdC f kv).toArray 2 = some (.agg (bdC f.bind kv).toArray) := rfl
theorem c_samefound {v1 v2 : Value} {a b : Fd} (him : Im m wI) (h1 : FdM m v1 a) (h2 : FdM m v2 b) :
    Ret Try.prog 22 #[v1, v2] wI fun v' w' => Tch wI w' [] [] ∧ v' = .bool (decide (a = b)) := by
  have st := St.start him
  obtain ⟨kv, rfl, hk, hn⟩ := h1
  obtain ⟨kw, rfl, hl, hm⟩ := h2
  refine ret_of Try.call22 Try.func22 rfl Try.ntmps22 Try.results22 rfl ?_
  refine wc_seq ?_
  refine wc_region ?_
  refine wl_box (v := .agg (fdC a kv).toArray) rfl st rfl ?_
  intro b2 w st
  refine wl_box (v := .agg (fdC b kw).toArray) rfl st rfl ?_
  intro b3 w st
  refine wl_val (v_assign' (by conv => (lhs; whnf))) rfl ?_
  refine wl_nil ?_
  refine then_go ?_
  refine wc_seq ?_
  refine wc_region ?_
  refine wl_val (v_fa TF.f48_0 rfl) rfl ?_
  refine wl_val (v_load rfl (st.reads (v := u64 a.epoch) 1 rfl TF.t24 rfl)) rfl ?_
  refine wl_val (v_fa TF.f48_0 rfl) rfl ?_
  refine wl_val (v_load rfl (st.reads (v := u64 b.epoch) 0 rfl TF.t24 rfl)) rfl ?_
  refine wl_val (v_eql rfl rfl) rfl ?_
  refine wl_val (v_move' (by conv => (lhs; whnf))) rfl ?_
  by_cases hg5 : (a.epoch.toNat : Int) = (b.epoch.toNat : Int)
  · rw [show decide ((a.epoch.toNat : Int) = (b.epoch.toNat : Int)) = true from decide_eq_true hg5]
    refine wl_on rfl rfl ?_
    refine wl_val (v_fa TF.f48_1 rfl) rfl ?_
    refine wl_on rfl rfl ?_
    refine wl_val (v_load rfl (st.reads (v := .bool a.there) 1 rfl TF.t4 rfl)) rfl ?_
    refine wl_on rfl rfl ?_
    refine wl_val (v_fa TF.f48_1 rfl) rfl ?_
    refine wl_on rfl rfl ?_
    refine wl_val (v_load rfl (st.reads (v := .bool b.there) 0 rfl TF.t4 rfl)) rfl ?_
    refine wl_on rfl rfl ?_
    refine wl_val (v_eqb Try.underlying4 rfl rfl) rfl ?_
    refine wl_val (v_pick rfl) rfl ?_
    refine wl_val (v_move' (by conv => (lhs; whnf))) rfl ?_
    rcases Bool.eq_false_or_eq_true (a.there == b.there) with hg12 | hg12
    · rw [hg12]
      refine wl_on rfl rfl ?_
      refine wl_val (v_fa TF.f48_2 rfl) rfl ?_
      refine wl_on rfl rfl ?_
      refine wl_val (v_load rfl (st.reads (v := .agg (bdC a.bind kv).toArray) 1 rfl TF.t43 fdB)) rfl ?_
      refine wl_on rfl rfl ?_
      refine wl_val (v_fa TF.f48_2 rfl) rfl ?_
      refine wl_on rfl rfl ?_
      refine wl_val (v_load rfl (st.reads (v := .agg (bdC b.bind kw).toArray) 0 rfl TF.t43 fdB)) rfl ?_
      refine wl_on rfl rfl ?_
      refine wl_call rfl (c_samebind st.im ⟨_, rfl, hk, hn⟩ ⟨_, rfl, hl, hm⟩) rfl ?_
      rintro v22 w ⟨t22, rfl⟩
      have st := st.pure t22
      refine wl_val (v_pick rfl) rfl ?_
      refine wl_val (v_assign' (by conv => (lhs; whnf))) rfl ?_
      refine wl_nil ?_
      refine then_go ?_
      refine wc_ret ?_
      refine ret1 rfl ⟨(st.keepOnly (l := []) (List.nil_sublist _)).touch, ?_⟩
      first
        | (have e : decide (a = b) = decide (a.bind = b.bind) := decide_eq_decide.2 ⟨fun h => by rw [h], fun h => Fd.eq_of hg5 hg12 h⟩
           rw [e]; rfl)
        | (rw [show decide (a = b) = false from decide_eq_false (fun hc => by first | exact hg5 (show (a.epoch.toNat : Int) = (b.epoch.toNat : Int) by rw [hc]) | (rw [hc] at hg12; simp at hg12; done))]; rfl)
    · rw [hg12]
      refine wl_off rfl rfl rfl rfl ?_
      refine wl_off rfl rfl rfl rfl ?_
      refine wl_off rfl rfl rfl rfl ?_
      refine wl_off rfl rfl rfl rfl ?_
      refine wl_off rfl rfl rfl rfl ?_
      refine wl_val (v_pick rfl) rfl ?_
      refine wl_val (v_assign' (by conv => (lhs; whnf))) rfl ?_
      refine wl_nil ?_
      refine then_go ?_
      refine wc_ret ?_
      refine ret1 rfl ⟨(st.keepOnly (l := []) (List.nil_sublist _)).touch, ?_⟩
      first
        | (have e : decide (a = b) = decide (a.bind = b.bind) := decide_eq_decide.2 ⟨fun h => by rw [h], fun h => Fd.eq_of hg5 hg12 h⟩
           rw [e]; rfl)
        | (rw [show decide (a = b) = false from decide_eq_false (fun hc => by first | exact hg5 (show (a.epoch.toNat : Int) = (b.epoch.toNat : Int) by rw [hc]) | (rw [hc] at hg12; simp at hg12; done))]; rfl)
  · rw [show decide ((a.epoch.toNat : Int) = (b.epoch.toNat : Int)) = false from decide_eq_false hg5]
    refine wl_off rfl rfl rfl rfl ?_
    refine wl_off rfl rfl rfl rfl ?_
    refine wl_off rfl rfl rfl rfl ?_
    refine wl_off rfl rfl rfl rfl ?_
    refine wl_off rfl rfl rfl rfl ?_
    refine wl_val (v_pick rfl) rfl ?_
    refine wl_val (v_move' (by conv => (lhs; whnf))) rfl ?_
    refine wl_off rfl rfl rfl rfl ?_
    refine wl_off rfl rfl rfl rfl ?_
    refine wl_off rfl rfl rfl rfl ?_
    refine wl_off rfl rfl rfl rfl ?_
    refine wl_off rfl rfl rfl rfl ?_
    refine wl_val (v_pick rfl) rfl ?_
    refine wl_val (v_assign' (by conv => (lhs; whnf))) rfl ?_
    refine wl_nil ?_
    refine then_go ?_
    refine wc_ret ?_
    refine ret1 rfl ⟨(st.keepOnly (l := []) (List.nil_sublist _)).touch, ?_⟩
    first
      | (have e : decide (a = b) = decide (a.bind = b.bind) := decide_eq_decide.2 ⟨fun h => by rw [h], fun h => Fd.eq_of hg5 hg12 h⟩
         rw [e]; rfl)
      | (rw [show decide (a = b) = false from decide_eq_false (fun hc => by first | exact hg5 (show (a.epoch.toNat : Int) = (b.epoch.toNat : Int) by rw [hc]) | (rw [hc] at hg12; simp at hg12; done))]; rfl)
end
end Go.Proofs.Ytjjpakjgppmmdaa

namespace Go.Proofs.Ytjjpakjgppmmdaa
open Go Go.RowKit K SH PT
def aw1 : Aw := ⟨1, z32, ⟨[], 0, z32, z32⟩, false, z32, bd0⟩
def ann : By := [97, 110, 110]
def pin1 : By := 1 :: List.replicate 31 0
theorem okName_ann : okName ann := by decide
theorem fill_pin : FillR (fun i => some (i * 1, 1)) (Value.agg (List.replicate 32 (Value.int .u8 0)).toArray).cells [(0, u8 1)] (bs pin1).toArray := by
 refine fill_one [] [u8 0] (bs (List.replicate 31 0)) rfl rfl rfl ?_
 rfl
theorem v_pin1 {r : Fr} {w : World} {ty : TypeId} {x : Operand} (hx : ev r x = u8 1) : Val Try.prog (.build 23 #[(0, x)]) ty r w (arr pin1) w :=
 v_build_a (c' := (bs pin1).toArray) [(0, u8 1)] TF.z23 Try.underlying23 TF.t5 (by simp [hx]) fill_pin
end Go.Proofs.Ytjjpakjgppmmdaa

namespace Go.Proofs.Ytjjpakjgppmmdaa
open Go Go.RowKit K SH PT
section
variable {m : Mem} {wI : World}
theorem VwM.sz {m : Mem} {v : Value} {x : Vw} (h : VwM m v x) : ∃ rv, v = .agg (vwC x.pin x.head rv).toArray ∧ rv.oneCell' = true ∧ (vwC x.pin x.head rv).length = 98 := by
 obtain ⟨rv, h1, hr, hp, hh, _⟩ := h
 exact ⟨rv, h1, by obtain ⟨_, _, h⟩ := hr.sl; rw [h]; rfl, length_vwC hp hh⟩
theorem FdM.sz {m : Mem} {v : Value} {f : Fd} (h : FdM m v f) : ∃ kv, v = .agg (fdC f kv).toArray ∧ kv.oneCell' = true := by
 obtain ⟨kv, h1, h2, _⟩ := h
 exact ⟨kv, h1, by obtain ⟨_, _, _, h, _⟩ := h2; rw [h]; rfl⟩
end
end Go.Proofs.Ytjjpakjgppmmdaa
