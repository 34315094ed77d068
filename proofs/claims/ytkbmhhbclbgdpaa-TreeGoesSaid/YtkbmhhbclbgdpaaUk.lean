/-
  The tree's Get.
-/
import Derived.Test.YtkbmhhbclbgdpaaUj
namespace Go.Proofs.Ytkbmhhbclbgdpaa
open Go Go.RowKit K SH PT

def getP (x : By) (p : Prf) : Option By := if p.E = 1 ∧ p.I = x then some p.V else none

section
variable {m : Mem} {wI : World}

theorem c_tget {p : Nat} {t : Tr} {x : By} (him : Im m wI) (h : TreeM m p t) (hx : x.length = 32) (hok : t.ok) (hh : t.ht ≤ 256) :
    Ret Try.prog 16 #[ptrP p, arr x] wI fun v w' => Tch wI w' [] [] ∧ v = .tuple #[arr (valO (getP x (Tr.prv x t))), .bool (getP x (Tr.prv x t)).isSome] := by
  have st := St.start him
  generalize hpr : Tr.prv x t = pr
  refine ret_of Try.call16 Try.func16 rfl Try.ntmps16 Try.results16 rfl ?_
  refine wc_seq ?_
  refine wc_region ?_
  refine wl_box (v := arr x) rfl st rfl ?_
  intro b3 w st
  refine wl_alloc TF.z24 st rfl ?_
  intro b4 w st
  refine wl_val (v_assign' (by conv => (lhs; whnf))) rfl ?_
  refine wl_nil ?_
  refine then_go ?_
  refine wc_seq ?_
  refine wc_region ?_
  refine wl_val (v_move' (by conv => (lhs; whnf))) rfl ?_
  refine wl_val (v_load rfl (st.reads 1 rfl TF.t24 (getV_all (by rw [size_arr, hx])))) rfl ?_
  refine wl_call rfl (c_tprove st.im h hx hok hh) rfl ?_
  rintro v9 w ⟨t9, m1, hg1, hi1, hp⟩
  have st := st.grown hg1 t9 hi1
  rw [hpr] at hp
  obtain ⟨sv, rfl, hs, hI, hV⟩ := hp
  refine wl_alloc TF.z41 st rfl ?_
  intro b6 w st
  refine wl_storeW (cs := prC sv pr.E pr.I pr.V) 0 st rfl TF.t41 rfl rfl (size_prC hI hV) rfl (one_prC (by obtain ⟨a, c, rfl⟩ := hs.sl; rfl)) ?_
  intro w st
  refine wl_nil ?_
  refine then_go ?_
  refine wc_seq ?_
  refine wc_seq ?_
  refine wc_region ?_
  refine wl_val (v_fa TF.f41_1 rfl) rfl ?_
  refine wl_val (v_load rfl (st.reads 0 rfl TF.t3 prC_E)) rfl ?_
  refine wl_val (v_neq rfl rfl) rfl ?_
  refine wl_val (v_move' (by conv => (lhs; whnf))) rfl ?_
  by_cases hg3 : ¬ pr.E = 1
  · rw [show decide (¬ pr.E = 1) = true from decide_eq_true hg3]
    refine wl_off rfl rfl rfl rfl ?_
    refine wl_off rfl rfl rfl rfl ?_
    refine wl_off rfl rfl rfl rfl ?_
    refine wl_off rfl rfl rfl rfl ?_
    refine wl_val (v_pick rfl) rfl ?_
    refine wl_nil ?_
    refine then_go ?_
    refine wc_true rfl ?_
    refine wc_seq ?_
    refine wc_region ?_
    refine wl_val (v_build_a (c' := (bs z32).toArray) [] TF.z24 Try.underlying24 TF.t5 rfl rfl) rfl ?_
    refine wl_storeW (cs := (bs z32).toArray) 1 st rfl TF.t24 rfl rfl rfl rfl (fun u hu => one_bs z32 u (by simpa using hu)) ?_
    intro w st
    refine wl_val (v_assign' (by conv => (lhs; whnf))) rfl ?_
    refine wl_nil ?_
    refine then_go ?_
    refine wc_ret (then_ret ?_)
    refine ret2c rfl (st.reads 1 rfl TF.t24 (getV_all rfl)) rfl ⟨(st.keepOnly (l := []) (List.nil_sublist _)).touch, ?_⟩
    rw [getP, if_neg (fun hc => hg3 hc.1)]
    rfl
  · rw [show decide (¬ pr.E = 1) = false from decide_eq_false hg3]
    refine wl_on rfl rfl ?_
    refine wl_val (v_fa TF.f41_2 rfl) rfl ?_
    refine wl_on rfl rfl ?_
    refine wl_val (v_load rfl (st.reads 0 rfl TF.t24 (prC_I hI))) rfl ?_
    refine wl_on rfl rfl ?_
    refine wl_val (v_load rfl (st.reads 2 rfl TF.t24 (getV_all (by rw [size_arr, hx])))) rfl ?_
    refine wl_on rfl rfl ?_
    refine wl_val (v_neD rfl rfl hI hx) rfl ?_
    refine wl_val (v_pick rfl) rfl ?_
    refine wl_nil ?_
    refine then_go ?_
    refine wc_if rfl (fun h18 => ?_) (fun h18 => ?_)
    · refine wc_seq ?_
      refine wc_region ?_
      refine wl_val (v_build_a (c' := (bs z32).toArray) [] TF.z24 Try.underlying24 TF.t5 rfl rfl) rfl ?_
      refine wl_storeW (cs := (bs z32).toArray) 1 st rfl TF.t24 rfl rfl rfl rfl (fun u hu => one_bs z32 u (by simpa using hu)) ?_
      intro w st
      refine wl_val (v_assign' (by conv => (lhs; whnf))) rfl ?_
      refine wl_nil ?_
      refine then_go ?_
      refine wc_ret (then_ret ?_)
      refine ret2c rfl (st.reads 1 rfl TF.t24 (getV_all rfl)) rfl ⟨(st.keepOnly (l := []) (List.nil_sublist _)).touch, ?_⟩
      rw [getP, if_neg (fun hc => h18 hc.2)]
      rfl
    · refine wc_skip ?_
      refine then_go ?_
      refine wc_seq ?_
      refine wc_region ?_
      refine wl_val (v_fa TF.f41_3 rfl) rfl ?_
      refine wl_val (v_load rfl (st.reads 0 rfl TF.t24 (prC_V hI hV))) rfl ?_
      refine wl_storeW (cs := (bs pr.V).toArray) 1 st rfl TF.t24 rfl rfl (by simp [length_bs, hV]) rfl (fun u hu => one_bs _ u (by simpa using hu)) ?_
      intro w st
      refine wl_val (v_assign' (by conv => (lhs; whnf))) rfl ?_
      refine wl_nil ?_
      refine then_go ?_
      refine wc_ret ?_
      refine ret2c rfl (st.reads 1 rfl TF.t24 (getV_all (by simp [length_bs, hV]))) rfl ⟨(st.keepOnly (l := []) (List.nil_sublist _)).touch, ?_⟩
      rw [getP, if_pos ⟨Decidable.not_not.1 hg3, Decidable.not_not.1 h18⟩]
      rfl
end
end Go.Proofs.Ytkbmhhbclbgdpaa
