/-
  The laws' own examples: few, works.
-/
import Derived.Test.YtkbmhhbclbgdpaaUp
namespace Go.Proofs.Ytkbmhhbclbgdpaa
open Go Go.RowKit K SH PT

def oneD (b : UInt8) : By := b :: List.replicate 31 0
theorem v_oneD {r : Fr} {w : World} {ty : TypeId} {x : Operand} (b : UInt8) (hx : ev r x = u8 b) : Val Try.prog (.build 24 #[(0, x)]) ty r w (arr (oneD b)) w := by
  refine v_build_a (c' := (bs (oneD b)).toArray) [(0, u8 b)] TF.z24 Try.underlying24 TF.t5 (by simp [hx]) (fill_one [] [u8 0] (bs (List.replicate 31 0)) rfl rfl rfl ?_)
  rfl

section
variable {m : Mem} {wI : World}

theorem c_few {va : Value} {A : List By} (him : Im m wI) (ha : DigM m va A) : Ret Try.prog 9 #[va] wI fun v w' => Tch wI w' [] [] ∧ v = .bool (decide ((A.length : Int) ≤ 60)) := by
  have st := St.start him
  obtain ⟨a1, c1, rfl⟩ := ha.sl
  refine ret_of Try.call9 Try.func9 rfl Try.ntmps9 Try.results9 rfl ?_
  refine wc_seq ?_
  refine wc_region ?_
  refine wl_val (v_assign' (by conv => (lhs; whnf))) rfl ?_
  refine wl_nil ?_
  refine then_go ?_
  refine wc_seq ?_
  refine wc_region ?_
  refine wl_val (v_move' (by conv => (lhs; whnf))) rfl ?_
  refine wl_val (v_len_s Try.underlying22 rfl) rfl ?_
  refine wl_val (v_leq rfl rfl) rfl ?_
  refine wl_val (v_assign' (by conv => (lhs; whnf))) rfl ?_
  refine wl_nil ?_
  refine then_go ?_
  refine wc_ret ?_
  exact ret1 rfl ⟨st.touch, rfl⟩

theorem c_works (him : Im m wI) : Ret Try.prog 10 #[] wI fun v w' => Tch wI w' [] [] ∧ v = .bool true := by
  have st := St.start him
  have hput : Tr.put (oneD 1) (oneD 2) .e 0 = .l (oneD 1) (oneD 2) := rfl
  have hg1 : getP (oneD 1) (Tr.prv (oneD 1) (.l (oneD 1) (oneD 2))) = some (oneD 2) := by simp [getP, Tr.prv, Tr.prvE, Tr.endT]
  have hg2 : getP (oneD 1) (Tr.prv (oneD 1) .e) = none := by simp [getP, Tr.prv, Tr.prvE, Tr.endT]
  refine ret_of Try.call10 Try.func10 rfl Try.ntmps10 Try.results10 rfl ?_
  refine wc_seq ?_
  refine wc_region ?_
  refine wl_val (v_assign' (by conv => (lhs; whnf))) rfl ?_
  refine wl_nil ?_
  refine then_go ?_
  refine wc_seq ?_
  refine wc_region ?_
  refine wl_call rfl (c_tempty st.im) rfl ?_
  rintro v7 w ⟨t7, m1, hgr1, hi1, p, rfl, hp⟩
  have st := st.grown hgr1 t7 hi1
  refine wl_val (v_assign' (by conv => (lhs; whnf))) rfl ?_
  refine wl_nil ?_
  refine then_go ?_
  refine wc_seq ?_
  refine wc_seq ?_
  refine wc_region ?_
  refine wl_val (v_move' (by conv => (lhs; whnf))) rfl ?_
  refine wl_val (v_eq_nil (p := some ⟨p, 0, none⟩) Try.underlying27 rfl rfl) rfl ?_
  refine wl_val (v_move' (by conv => (lhs; whnf))) rfl ?_
  refine wl_on rfl rfl ?_
  refine wl_val (v_move' (by conv => (lhs; whnf))) rfl ?_
  refine wl_on rfl rfl ?_
  refine wl_call rfl (c_troot st.im hp) rfl ?_
  rintro v12 w ⟨t12, rfl⟩
  have st := st.pure t12
  refine wl_on rfl rfl ?_
  refine wl_call rfl (c_rempty st.im) rfl ?_
  rintro v13 w ⟨t13, rfl⟩
  have st := st.pure t13
  refine wl_on rfl rfl ?_
  refine wl_val (v_neDF rfl rfl (length_sum _)) rfl ?_
  refine wl_val (v_pick rfl) rfl ?_
  refine wl_nil ?_
  refine then_go ?_
  refine wc_false rfl ?_
  refine wc_skip ?_
  refine then_go ?_
  refine wc_seq ?_
  refine wc_region ?_
  refine wl_val (v_move' (by conv => (lhs; whnf))) rfl ?_
  refine wl_val (v_oneD 1 rfl) rfl ?_
  refine wl_val (v_oneD 2 rfl) rfl ?_
  refine wl_call rfl (c_tput st.im hp rfl rfl .mkE (by simp [Tr.n]) (by simp [Tr.ht])) rfl ?_
  rintro v19 w ⟨t19, m2, hgr2, hi2, q, rfl, hq⟩
  have st := st.grown hgr2 t19 hi2
  have hp := hp.mono hgr2.le
  rw [hput] at hq
  refine wl_val (v_assign' (by conv => (lhs; whnf))) rfl ?_
  refine wl_nil ?_
  refine then_go ?_
  refine wc_seq ?_
  refine wc_seq ?_
  refine wc_region ?_
  refine wl_val (v_move' (by conv => (lhs; whnf))) rfl ?_
  refine wl_val (v_eq_nil (p := some ⟨q, 0, none⟩) Try.underlying27 rfl rfl) rfl ?_
  refine wl_nil ?_
  refine then_go ?_
  refine wc_false rfl ?_
  refine wc_skip ?_
  refine then_go ?_
  refine wc_seq ?_
  refine wc_region ?_
  refine wl_val (v_move' (by conv => (lhs; whnf))) rfl ?_
  refine wl_val (v_oneD 1 rfl) rfl ?_
  refine wl_call rfl (c_tget st.im hq rfl .mkL (by simp [Tr.ht])) rfl ?_
  rintro v25 w ⟨t25, rfl⟩
  have st := st.pure t25
  rw [hg1]
  refine wl_val (v_move' (by conv => (lhs; whnf))) rfl ?_
  refine wl_val (v_extract rfl rfl) rfl ?_
  refine wl_val (v_extract rfl rfl) rfl ?_
  refine wl_alloc TF.z24 st rfl ?_
  intro b3 w st
  refine wl_storeW (cs := (bs (oneD 2)).toArray) 0 st rfl TF.t24 rfl rfl rfl rfl (fun u hu => one_bs (oneD 2) u (by simpa using hu)) ?_
  intro w st
  refine wl_val (v_assign' (by conv => (lhs; whnf))) rfl ?_
  refine wl_nil ?_
  refine then_go ?_
  refine wc_seq ?_
  refine wc_region ?_
  refine wl_val (v_move' (by conv => (lhs; whnf))) rfl ?_
  refine wl_val (v_oneD 1 rfl) rfl ?_
  refine wl_call rfl (c_tget st.im hp rfl .mkE (by simp [Tr.ht])) rfl ?_
  rintro v31 w ⟨t31, rfl⟩
  have st := st.pure t31
  rw [hg2]
  refine wl_val (v_move' (by conv => (lhs; whnf))) rfl ?_
  refine wl_val (v_extract rfl rfl) rfl ?_
  refine wl_val (v_extract rfl rfl) rfl ?_
  refine wl_alloc TF.z24 st rfl ?_
  intro b5 w st
  refine wl_storeW (cs := (bs z32).toArray) 0 st rfl TF.t24 rfl rfl rfl rfl (fun u hu => one_bs z32 u (by simpa using hu)) ?_
  intro w st
  refine wl_val (v_assign' (by conv => (lhs; whnf))) rfl ?_
  refine wl_nil ?_
  refine then_go ?_
  refine wc_seq ?_
  refine wc_region ?_
  refine wl_val (v_move' (by conv => (lhs; whnf))) rfl ?_
  refine wl_call rfl (c_tlen st.im hq) rfl ?_
  rintro v35 w ⟨t35, rfl⟩
  have st := st.pure t35
  refine wl_val (v_eqlT (a := ((Tr.n (.l (oneD 1) (oneD 2)) : Nat) : Int)) rfl rfl rfl) rfl ?_
  refine wl_val (v_move' (by conv => (lhs; whnf))) rfl ?_
  refine wl_on rfl rfl ?_
  refine wl_val (v_move' (by conv => (lhs; whnf))) rfl ?_
  refine wl_on rfl rfl ?_
  refine wl_call rfl (c_tlen st.im hp) rfl ?_
  rintro v39 w ⟨t39, rfl⟩
  have st := st.pure t39
  refine wl_on rfl rfl ?_
  refine wl_val (v_eqlT (a := ((Tr.n .e : Nat) : Int)) rfl rfl rfl) rfl ?_
  refine wl_val (v_pick rfl) rfl ?_
  refine wl_val (v_move' (by conv => (lhs; whnf))) rfl ?_
  refine wl_on rfl rfl ?_
  refine wl_val (v_move' (by conv => (lhs; whnf))) rfl ?_
  refine wl_val (v_pick rfl) rfl ?_
  refine wl_val (v_move' (by conv => (lhs; whnf))) rfl ?_
  refine wl_on rfl rfl ?_
  refine wl_val (v_load rfl (st.reads (v := arr (oneD 2)) 1 rfl TF.t24 (getV_all rfl))) rfl ?_
  refine wl_on rfl rfl ?_
  refine wl_val (v_oneD 2 rfl) rfl ?_
  refine wl_on rfl rfl ?_
  refine wl_val (v_eqDT rfl rfl rfl) rfl ?_
  refine wl_val (v_pick rfl) rfl ?_
  refine wl_val (v_move' (by conv => (lhs; whnf))) rfl ?_
  refine wl_on rfl rfl ?_
  refine wl_val (v_move' (by conv => (lhs; whnf))) rfl ?_
  refine wl_on rfl rfl ?_
  refine wl_val (v_not rfl) rfl ?_
  refine wl_val (v_pick rfl) rfl ?_
  refine wl_val (v_move' (by conv => (lhs; whnf))) rfl ?_
  refine wl_on rfl rfl ?_
  refine wl_val (v_move' (by conv => (lhs; whnf))) rfl ?_
  refine wl_on rfl rfl ?_
  refine wl_call rfl (c_troot st.im hq) rfl ?_
  rintro v56 w ⟨t56, rfl⟩
  have st := st.pure t56
  refine wl_on rfl rfl ?_
  refine wl_val (v_oneD 1 rfl) rfl ?_
  refine wl_on rfl rfl ?_
  refine wl_val (v_oneD 2 rfl) rfl ?_
  refine wl_on rfl rfl ?_
  refine wl_call rfl (c_rleaf st.im (x := oneD 1) (y := oneD 2) rfl rfl) rfl ?_
  rintro v59 w ⟨t59, rfl⟩
  have st := st.pure t59
  refine wl_on rfl rfl ?_
  refine wl_val (v_eqDT rfl rfl (length_sum _)) rfl ?_
  refine wl_val (v_pick rfl) rfl ?_
  refine wl_val (v_assign' (by conv => (lhs; whnf))) rfl ?_
  refine wl_nil ?_
  refine then_go ?_
  refine wc_ret ?_
  exact ret1 rfl ⟨(st.keepOnly (l := []) (List.nil_sublist _)).touch, rfl⟩
end
end Go.Proofs.Ytkbmhhbclbgdpaa
