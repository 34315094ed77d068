/-
  Several texts as one: Qk Ca Cb Cc Cf Cg Ci Vo Cd Cj Na Nb Ni Nc Nd Ne.
-/
import Derived.OpenShut
import Derived.WideShapes
import Derived.ChangeShapes
import Derived.Test.YtjjpakjgppmmdaaMNrc4

namespace Go.Proofs.Ytjjpakjgppmmdaa
open Go Go.RowKit K SH PT
theorem bd0_of {b : Bd} (h1 : b.name = []) (h2 : b.key.length = 0) (h3 : b.serial = 0) : b = bd0 := by
 obtain ⟨n, k, s⟩ := b
 simp at h1 h2 h3
 subst h1; subst h2; subst h3
 rfl
section
variable {m : Mem} {wI : World}
theorem c_rask {vv av : Value} {x : Vw} {name : By} {e : UInt64} {a : Aw} (him : Im m wI) (hv : VwM m vv x) (hn : name.length ≤ 9223372036854775807) (ha : AwM m av a) (hL : x.roots.length ≤ 1099511627776) :
    Ret Try.prog 21 #[vv, .string (strB name), u64 e, av] wI fun v' w' => Out m wI w' fun m' => ∃ fv, v' = .tuple #[fv, .int .i64 (askE x name e a)] ∧ FdM m' fv (askF x name e a) := by
  have st := St.start him
  have ha0 := ha
  obtain ⟨rv, rfl, hrt, hp, hh, hokx⟩ := hv
  obtain ⟨sv, kv, rfl, hok⟩ := ha
  obtain ⟨ra, rc, rfl⟩ := hrt.sl
  obtain ⟨_, ka, kc, hkv, _⟩ := id hok.key
  subst hkv
  have elt := e.toNat_lt
  refine ret_of Try.call21 Try.func21 rfl Try.ntmps21 Try.results21 rfl ?_
  refine wc_seq ?_
  refine wc_region ?_
  refine wl_box (v := .agg (vwC x.pin x.head (.slice ra x.roots.length rc)).toArray) rfl st rfl ?_
  intro b4 w st
  refine wl_box (v := .agg (awC a sv (.slice ka a.bind.key.length kc)).toArray) rfl st rfl ?_
  intro b7 w st
  refine wl_alloc TF.z48 st rfl ?_
  intro b8 w st
  have st : St m m [] wI w [K.blk b8 (fdC fd0 (.slice none 0 0)).toArray 48, K.blk b7 (awC a sv (.slice ka a.bind.key.length kc)).toArray 45, K.blk b4 (vwC x.pin x.head (.slice ra x.roots.length rc)).toArray 29] := st
  refine wl_val (v_assign' (by conv => (lhs; whnf))) rfl ?_
  refine wl_nil ?_
  refine then_go ?_
  refine wc_seq ?_
  refine wc_seq ?_
  refine wc_region ?_
  refine wl_val (v_move' (by conv => (lhs; whnf))) rfl ?_
  refine wl_call rfl (c_r5name st.im hn) rfl ?_
  rintro v15 w ⟨t15, rfl⟩
  have st := st.pure t15
  refine wl_val (v_not rfl) rfl ?_
  refine wl_nil ?_
  refine then_go ?_
  refine wc_cond rfl (fun h16 => ?_) (fun h16 => ?_)
  · refine wc_seq ?_
    refine wc_region ?_
    refine wl_val (v_build (c' := (fdC fd0 (.slice none 0 0)).toArray) [] TF.z48 TF.p48 rfl rfl) rfl ?_
    refine wl_storeW (cs := (fdC fd0 (.slice none 0 0)).toArray) 0 st rfl TF.t48 rfl rfl rfl rfl (one_fdC rfl) ?_
    intro w st
    refine wl_val (v_assign' (by conv => (lhs; whnf))) rfl ?_
    refine wl_nil ?_
    refine then_go ?_
    refine wc_ret (then_ret ?_)
    have hno : ¬ okName name := by simpa using h16
    obtain ⟨q1, q2⟩ := ask_4 (x := x) (e := e) (a := a) hno
    exact ret2c rfl (st.reads 0 rfl TF.t48 (getV_all rfl)) rfl ((st.keepOnly (l := []) (List.nil_sublist _)).out ⟨_, by rw [q1]; rfl, by rw [q2]; exact fd0_M⟩)
  · refine wc_skip ?_
    refine then_go ?_
    refine wc_seq ?_
    refine wc_seq ?_
    have hyes : okName name := by simpa using h16
    refine wc_region ?_
    refine wl_val (v_move' (by conv => (lhs; whnf))) rfl ?_
    refine wl_val (v_lss rfl rfl) rfl ?_
    refine wl_val (v_move' (by conv => (lhs; whnf))) rfl ?_
    by_cases hg2 : (e.toNat : Int) < 1
    · rw [show decide ((e.toNat : Int) < 1) = true from decide_eq_true hg2]
      refine wl_off rfl rfl rfl rfl ?_
      refine wl_off rfl rfl rfl rfl ?_
      refine wl_off rfl rfl rfl rfl ?_
      refine wl_off rfl rfl rfl rfl ?_
      refine wl_off rfl rfl rfl rfl ?_
      refine wl_off rfl rfl rfl rfl ?_
      refine wl_val (v_pick rfl) rfl ?_
      refine wl_nil ?_
      refine then_go ?_
      refine wc_true rfl ?_
      refine wc_seq ?_
      refine wc_region ?_
      refine wl_val (v_build (c' := (fdC fd0 (.slice none 0 0)).toArray) [] TF.z48 TF.p48 rfl rfl) rfl ?_
      refine wl_storeW (cs := (fdC fd0 (.slice none 0 0)).toArray) 0 st rfl TF.t48 rfl rfl rfl rfl (one_fdC rfl) ?_
      intro w st
      refine wl_val (v_assign' (by conv => (lhs; whnf))) rfl ?_
      refine wl_nil ?_
      refine then_go ?_
      refine wc_ret (then_ret ?_)
      obtain ⟨q1, q2⟩ := ask_10 (x := x) (e := e) (a := a) hyes (fun hc => by have := hc.1; omega)
      exact ret2c rfl (st.reads 0 rfl TF.t48 (getV_all rfl)) rfl ((st.keepOnly (l := []) (List.nil_sublist _)).out ⟨_, by rw [q1]; rfl, by rw [q2]; exact fd0_M⟩)
    · rw [show decide ((e.toNat : Int) < 1) = false from decide_eq_false hg2]
      refine wl_on rfl rfl ?_
      refine wl_val (v_move' (by conv => (lhs; whnf))) rfl ?_
      refine wl_on rfl rfl ?_
      refine wl_val (v_fa TF.f29_2 rfl) rfl ?_
      refine wl_on rfl rfl ?_
      refine wl_val (v_load rfl (st.reads (v := .slice ra x.roots.length rc) 2 rfl TF.t27 (vw_r hp hh))) rfl ?_
      refine wl_on rfl rfl ?_
      refine wl_val (v_len_s Try.underlying27 rfl) rfl ?_
      refine wl_on rfl rfl ?_
      refine wl_val (v_to (v' := .int .u64 (x.roots.length : Nat)) (v_conv Try.underlying3 Try.underlying24 rfl) (by rw [wrap_u64_small (by omega)])) rfl ?_
      refine wl_on rfl rfl ?_
      refine wl_val (v_gtr rfl rfl) rfl ?_
      refine wl_val (v_pick rfl) rfl ?_
      refine wl_nil ?_
      refine then_go ?_
      refine wc_if rfl (fun h27 => ?_) (fun h27 => ?_)
      · refine wc_seq ?_
        refine wc_region ?_
        refine wl_val (v_build (c' := (fdC fd0 (.slice none 0 0)).toArray) [] TF.z48 TF.p48 rfl rfl) rfl ?_
        refine wl_storeW (cs := (fdC fd0 (.slice none 0 0)).toArray) 0 st rfl TF.t48 rfl rfl rfl rfl (one_fdC rfl) ?_
        intro w st
        refine wl_val (v_assign' (by conv => (lhs; whnf))) rfl ?_
        refine wl_nil ?_
        refine then_go ?_
        refine wc_ret (then_ret ?_)
        obtain ⟨q1, q2⟩ := ask_10 (x := x) (e := e) (a := a) hyes (fun hc => by have := hc.2; omega)
        exact ret2c rfl (st.reads 0 rfl TF.t48 (getV_all rfl)) rfl ((st.keepOnly (l := []) (List.nil_sublist _)).out ⟨_, by rw [q1]; rfl, by rw [q2]; exact fd0_M⟩)
      · refine wc_skip ?_
        refine then_go ?_
        refine wc_seq ?_
        have hep : epochP x e := ⟨by omega, by omega⟩
        have hj : e.toNat - 1 < x.roots.length := by have := hep.1; have := hep.2; omega
        obtain ⟨rb, ro, hra⟩ := hrt.ptr (by omega) (by decide)
        subst hra
        have hok1 := hokx _ (List.getElem_mem hj)
        have hroot : rootAt x e = x.roots[e.toNat - 1].tree := by rw [rootAt, List.getElem?_eq_getElem hj]
        have hrl : (rootAt x e).length = 32 := by rw [hroot]; exact hok1.2.1
        refine wc_draw TF.mixed ?_
        have st := st.pure (touch_drew _)
        show FL _ _ ?ops5 ?post5 [] [] [] _ _
        have fin : ∀ (r : Fr) (w : World) (m2 : Mem) (b10 : Nat), r 1 = .string (strB name) → r 2 = u64 e → r 4 = .pointer (some ⟨b4, 0, none⟩) → r 7 = .pointer (some ⟨b7, 0, none⟩) → r 8 = .pointer (some ⟨b8, 0, none⟩) → r 10 = .pointer (some ⟨b10, 0, none⟩) → r 30 = .pointer (some ⟨b4, 0 + 97, none⟩) → r 31 = .slice (some ⟨rb, ro, none⟩) x.roots.length rc → r 42 = arr (chkV (rootAt x e) a.index a.proof) → r 43 = .bool (decide (chkT (rootAt x e) a.index a.proof)) → r 44 = .int .i64 (chkE (rootAt x e) a.index a.proof) → AwOk m2 a sv (.slice ka a.bind.key.length kc) →
          St m m2 [] wI w [K.blk b10 (bs z32).toArray 23, K.blk b8 (fdC fd0 (.slice none 0 0)).toArray 48, K.blk b7 (awC a sv (.slice ka a.bind.key.length kc)).toArray 45, K.blk b4 (vwC x.pin x.head (.slice (some ⟨rb, ro, none⟩) x.roots.length rc)).toArray 29] → FL Try.prog 105 ?ops5 ?post5 [16, 15, 14, 13, 12, 11, 10, 9, 8, 7, 6, 5, 4, 3, 2, 1, 0] [15, 14, 13, 12, 9, 7, 5, 4, 3, 2, 0] [1] r w := by
          clear st
          rintro r w m2 b10 g1 g2 g4 g7 g8 g10 g34 g35 g46 g47 g48 hok st
          have hbd : BdM m2 (.agg (bdC a.bind (.slice ka a.bind.key.length kc)).toArray) a.bind := ⟨_, rfl, hok.key, hok.name⟩
          refine fl_o 1 g1 (fl_o 2 g2 (fl_o 4 g4 (fl_o 7 g7 (fl_o 8 g8 (fl_o 10 g10 (fl_o 30 g34 (fl_o 31 g35 (fl_o 42 g46 (fl_o 43 g47 (fl_o 44 g48 ?_))))))))))
          refine fl_eff1 17 [15, 14] [] (by kernel_rfl) ⟨obl_ld rfl rfl rfl (v_load rfl (by first | exact st.reads (v := .slice (some ⟨rb, ro, none⟩) x.roots.length rc) (b := b4) (c := (vwC x.pin x.head (.slice (some ⟨rb, ro, none⟩) x.roots.length rc)).toArray) 2 rfl TF.t27 (vw_r hp hh) | exact st.reads (v := .slice (some ⟨rb, ro, none⟩) x.roots.length rc) (b := b4) (c := (vwC x.pin x.head (.slice (some ⟨rb, ro, none⟩) x.roots.length rc)).toArray) 3 rfl TF.t27 (vw_r hp hh))), trivial⟩ rfl ?_
          refine wl_storeW (cs := (bs (chkV (rootAt x e) a.index a.proof)).toArray) 0 st rfl TF.t23 rfl rfl (by rw [List.size_toArray, length_bs, chkV_len hok.pV]) rfl (fun u hu => one_bs _ u (by simpa using hu)) ?_
          intro w st
          refine wl_nil ⟨rfl, ?_⟩
          refine fl_eff1 18 [15] [] (by kernel_rfl) trivial rfl ?_
          refine wl_val (v_assign' (by conv => (lhs; whnf))) rfl ?_
          refine wl_nil ⟨rfl, ?_⟩
          refine fl_eff1 19 [] [] (by kernel_rfl) trivial rfl ?_
          refine wl_val (v_assign' (by conv => (lhs; whnf))) rfl ?_
          refine wl_nil ⟨rfl, ?_⟩
          refine fl_nil (by kernel_rfl) trivial ?_
          refine then_go ?_
          refine wc_seq ?_
          refine wc_seq ?_
          by_cases hT : chkT (rootAt x e) a.index a.proof
          · rw [show decide (chkT (rootAt x e) a.index a.proof) = true from decide_eq_true hT]
            refine wc_region ?_
            refine wl_val (v_move' (by conv => (lhs; whnf))) rfl ?_
            refine wl_val (v_neq rfl rfl) rfl ?_
            refine wl_val (v_move' (by conv => (lhs; whnf))) rfl ?_
            by_cases hg2 : ¬ chkE (rootAt x e) a.index a.proof = 0
            · rw [show decide (¬ chkE (rootAt x e) a.index a.proof = 0) = true from decide_eq_true hg2]
              refine wl_off rfl rfl rfl rfl ?_
              refine wl_off rfl rfl rfl rfl ?_
              refine wl_off rfl rfl rfl rfl ?_
              refine wl_off rfl rfl rfl rfl ?_
              refine wl_val (v_pick rfl) rfl ?_
              refine wl_val (v_move' (by conv => (lhs; whnf))) rfl ?_
              refine wl_off rfl rfl rfl rfl ?_
              refine wl_off rfl rfl rfl rfl ?_
              refine wl_off rfl rfl rfl rfl ?_
              refine wl_off rfl rfl rfl rfl ?_
              refine wl_val (v_pick rfl) rfl ?_
              refine wl_nil ?_
              refine then_go ?_
              refine wc_true rfl ?_
              refine wc_seq ?_
              refine wc_region ?_
              refine wl_val (v_build (c' := (fdC fd0 (.slice none 0 0)).toArray) [] TF.z48 TF.p48 rfl rfl) rfl ?_
              refine wl_storeW (cs := (fdC fd0 (.slice none 0 0)).toArray) 1 st rfl TF.t48 rfl rfl rfl rfl (one_fdC rfl) ?_
              intro w st
              refine wl_val (v_assign' (by conv => (lhs; whnf))) rfl ?_
              refine wl_nil ?_
              refine then_go ?_
              refine wc_ret (then_ret ?_)
              first
                | (obtain ⟨q1, q2⟩ := ask_0 hyes hep hallT
                   exact ret2c rfl (st.reads (v := .agg (fdC ⟨e, true, a.bind⟩ (.slice ka a.bind.key.length kc)).toArray) 2 rfl TF.t48 (getV_all rfl)) rfl ((st.keepOnly (l := []) (List.nil_sublist _)).out ⟨_, by rw [q1]; rfl, by rw [q2, decide_eq_true hT]; exact ⟨_, rfl, hok.key, hok.name⟩⟩))
                | (obtain ⟨q1, q2⟩ := ask_0 hyes hep hallF
                   exact ret2c rfl (st.reads (v := .agg (fdC ⟨e, false, bd0⟩ (.slice none 0 0)).toArray) 2 rfl TF.t48 (getV_all rfl)) rfl ((st.keepOnly (l := []) (List.nil_sublist _)).out ⟨_, by rw [q1]; rfl, by rw [q2, decide_eq_false hT, hb0]; exact ⟨_, rfl, SlM.nil, Nat.zero_le _⟩⟩))
                | (have hno : ¬ askOk x name e a := by
                     intro hc
                     first
                       | exact hg2 (show chkE (rootAt x e) a.index a.proof = 0 by rw [chkE, if_pos hc.2.1])
                       | exact hg8 (show (a.epoch.toNat : Int) = (e.toNat : Int) by rw [hc.1])
                       | (have h5 := hc.2.2; rw [decide_eq_true hT, shownP, if_pos rfl] at h5; have h6 := h5.1; rw [h6] at h58; simp at h58; done)
                       | (have h5 := hc.2.2; rw [decide_eq_false hT, shownP, if_neg (by decide)] at h5; have h6 := h5.1; rw [h6] at h58; simp at h58; done)
                       | (have h5 := hc.2.2; rw [decide_eq_true hT, shownP, if_pos rfl] at h5; first | exact hN h5.2.1 | exact hS h5.2.2.1 | exact hC h5.2.2.2.1 | exact h100 h5.2.2.2.2)
                       | (have h5 := hc.2.2; rw [decide_eq_false hT, shownP, if_neg (by decide)] at h5; first | exact h72 h5.2.1 | (have h6 := h5.2.2; rw [decide_eq_true h6] at hg3; simp at hg3; done))
                   obtain ⟨q1, q2⟩ := ask_15 hyes hep hno
                   exact ret2c rfl (by first | exact st.reads 1 rfl TF.t48 (getV_all rfl) | exact st.reads 2 rfl TF.t48 (getV_all rfl)) rfl ((st.keepOnly (l := []) (List.nil_sublist _)).out ⟨_, by rw [q1]; rfl, by rw [q2]; exact fd0_M⟩))
            · rw [show decide (¬ chkE (rootAt x e) a.index a.proof = 0) = false from decide_eq_false hg2]
              refine wl_on rfl rfl ?_
              refine wl_val (v_fa TF.f45_0 rfl) rfl ?_
              refine wl_on rfl rfl ?_
              refine wl_val (v_load rfl (st.reads (v := u64 a.epoch) 2 rfl TF.t24 aw_e)) rfl ?_
              refine wl_on rfl rfl ?_
              refine wl_val (v_move' (by conv => (lhs; whnf))) rfl ?_
              refine wl_on rfl rfl ?_
              refine wl_val (v_neq rfl rfl) rfl ?_
              refine wl_val (v_pick rfl) rfl ?_
              refine wl_val (v_move' (by conv => (lhs; whnf))) rfl ?_
              by_cases hg8 : ¬ (a.epoch.toNat : Int) = (e.toNat : Int)
              · rw [show decide (¬ (a.epoch.toNat : Int) = (e.toNat : Int)) = true from decide_eq_true hg8]
                refine wl_off rfl rfl rfl rfl ?_
                refine wl_off rfl rfl rfl rfl ?_
                refine wl_off rfl rfl rfl rfl ?_
                refine wl_off rfl rfl rfl rfl ?_
                refine wl_val (v_pick rfl) rfl ?_
                refine wl_nil ?_
                refine then_go ?_
                refine wc_true rfl ?_
                refine wc_seq ?_
                refine wc_region ?_
                refine wl_val (v_build (c' := (fdC fd0 (.slice none 0 0)).toArray) [] TF.z48 TF.p48 rfl rfl) rfl ?_
                refine wl_storeW (cs := (fdC fd0 (.slice none 0 0)).toArray) 1 st rfl TF.t48 rfl rfl rfl rfl (one_fdC rfl) ?_
                intro w st
                refine wl_val (v_assign' (by conv => (lhs; whnf))) rfl ?_
                refine wl_nil ?_
                refine then_go ?_
                refine wc_ret (then_ret ?_)
                first
                  | (obtain ⟨q1, q2⟩ := ask_0 hyes hep hallT
                     exact ret2c rfl (st.reads (v := .agg (fdC ⟨e, true, a.bind⟩ (.slice ka a.bind.key.length kc)).toArray) 2 rfl TF.t48 (getV_all rfl)) rfl ((st.keepOnly (l := []) (List.nil_sublist _)).out ⟨_, by rw [q1]; rfl, by rw [q2, decide_eq_true hT]; exact ⟨_, rfl, hok.key, hok.name⟩⟩))
                  | (obtain ⟨q1, q2⟩ := ask_0 hyes hep hallF
                     exact ret2c rfl (st.reads (v := .agg (fdC ⟨e, false, bd0⟩ (.slice none 0 0)).toArray) 2 rfl TF.t48 (getV_all rfl)) rfl ((st.keepOnly (l := []) (List.nil_sublist _)).out ⟨_, by rw [q1]; rfl, by rw [q2, decide_eq_false hT, hb0]; exact ⟨_, rfl, SlM.nil, Nat.zero_le _⟩⟩))
                  | (have hno : ¬ askOk x name e a := by
                       intro hc
                       first
                         | exact hg2 (show chkE (rootAt x e) a.index a.proof = 0 by rw [chkE, if_pos hc.2.1])
                         | exact hg8 (show (a.epoch.toNat : Int) = (e.toNat : Int) by rw [hc.1])
                         | (have h5 := hc.2.2; rw [decide_eq_true hT, shownP, if_pos rfl] at h5; have h6 := h5.1; rw [h6] at h58; simp at h58; done)
                         | (have h5 := hc.2.2; rw [decide_eq_false hT, shownP, if_neg (by decide)] at h5; have h6 := h5.1; rw [h6] at h58; simp at h58; done)
                         | (have h5 := hc.2.2; rw [decide_eq_true hT, shownP, if_pos rfl] at h5; first | exact hN h5.2.1 | exact hS h5.2.2.1 | exact hC h5.2.2.2.1 | exact h100 h5.2.2.2.2)
                         | (have h5 := hc.2.2; rw [decide_eq_false hT, shownP, if_neg (by decide)] at h5; first | exact h72 h5.2.1 | (have h6 := h5.2.2; rw [decide_eq_true h6] at hg3; simp at hg3; done))
                     obtain ⟨q1, q2⟩ := ask_15 hyes hep hno
                     exact ret2c rfl (by first | exact st.reads 1 rfl TF.t48 (getV_all rfl) | exact st.reads 2 rfl TF.t48 (getV_all rfl)) rfl ((st.keepOnly (l := []) (List.nil_sublist _)).out ⟨_, by rw [q1]; rfl, by rw [q2]; exact fd0_M⟩))
              · rw [show decide (¬ (a.epoch.toNat : Int) = (e.toNat : Int)) = false from decide_eq_false hg8]
                refine wl_on rfl rfl ?_
                refine wl_val (v_fa TF.f45_3 rfl) rfl ?_
                refine wl_on rfl rfl ?_
                refine wl_val (v_load rfl (st.reads (v := .bool a.there) 2 rfl TF.t4 (aw_t hok))) rfl ?_
                refine wl_on rfl rfl ?_
                refine wl_val (v_move' (by conv => (lhs; whnf))) rfl ?_
                refine wl_on rfl rfl ?_
                refine wl_val (v_to (v' := .bool (!a.there)) (v_neb Try.underlying4 rfl rfl) (by cases a.there <;> rfl)) rfl ?_
                refine wl_val (v_pick rfl) rfl ?_
                refine wl_nil ?_
                refine then_go ?_
                refine wc_cond rfl (fun h58 => ?_) (fun h58 => ?_)
                · refine wc_seq ?_
                  refine wc_region ?_
                  refine wl_val (v_build (c' := (fdC fd0 (.slice none 0 0)).toArray) [] TF.z48 TF.p48 rfl rfl) rfl ?_
                  refine wl_storeW (cs := (fdC fd0 (.slice none 0 0)).toArray) 1 st rfl TF.t48 rfl rfl rfl rfl (one_fdC rfl) ?_
                  intro w st
                  refine wl_val (v_assign' (by conv => (lhs; whnf))) rfl ?_
                  refine wl_nil ?_
                  refine then_go ?_
                  refine wc_ret (then_ret ?_)
                  first
                    | (obtain ⟨q1, q2⟩ := ask_0 hyes hep hallT
                       exact ret2c rfl (st.reads (v := .agg (fdC ⟨e, true, a.bind⟩ (.slice ka a.bind.key.length kc)).toArray) 2 rfl TF.t48 (getV_all rfl)) rfl ((st.keepOnly (l := []) (List.nil_sublist _)).out ⟨_, by rw [q1]; rfl, by rw [q2, decide_eq_true hT]; exact ⟨_, rfl, hok.key, hok.name⟩⟩))
                    | (obtain ⟨q1, q2⟩ := ask_0 hyes hep hallF
                       exact ret2c rfl (st.reads (v := .agg (fdC ⟨e, false, bd0⟩ (.slice none 0 0)).toArray) 2 rfl TF.t48 (getV_all rfl)) rfl ((st.keepOnly (l := []) (List.nil_sublist _)).out ⟨_, by rw [q1]; rfl, by rw [q2, decide_eq_false hT, hb0]; exact ⟨_, rfl, SlM.nil, Nat.zero_le _⟩⟩))
                    | (have hno : ¬ askOk x name e a := by
                         intro hc
                         first
                           | exact hg2 (show chkE (rootAt x e) a.index a.proof = 0 by rw [chkE, if_pos hc.2.1])
                           | exact hg8 (show (a.epoch.toNat : Int) = (e.toNat : Int) by rw [hc.1])
                           | (have h5 := hc.2.2; rw [decide_eq_true hT, shownP, if_pos rfl] at h5; have h6 := h5.1; rw [h6] at h58; simp at h58; done)
                           | (have h5 := hc.2.2; rw [decide_eq_false hT, shownP, if_neg (by decide)] at h5; have h6 := h5.1; rw [h6] at h58; simp at h58; done)
                           | (have h5 := hc.2.2; rw [decide_eq_true hT, shownP, if_pos rfl] at h5; first | exact hN h5.2.1 | exact hS h5.2.2.1 | exact hC h5.2.2.2.1 | exact h100 h5.2.2.2.2)
                           | (have h5 := hc.2.2; rw [decide_eq_false hT, shownP, if_neg (by decide)] at h5; first | exact h72 h5.2.1 | (have h6 := h5.2.2; rw [decide_eq_true h6] at hg3; simp at hg3; done))
                       obtain ⟨q1, q2⟩ := ask_15 hyes hep hno
                       exact ret2c rfl (by first | exact st.reads 1 rfl TF.t48 (getV_all rfl) | exact st.reads 2 rfl TF.t48 (getV_all rfl)) rfl ((st.keepOnly (l := []) (List.nil_sublist _)).out ⟨_, by rw [q1]; rfl, by rw [q2]; exact fd0_M⟩))
                · refine wc_skip ?_
                  refine then_go ?_
                  refine wc_seq ?_
                  have hpr : provesP (rootAt x e) a.index a.proof := by
                    refine Decidable.byContradiction fun hc => hg2 ?_
                    rw [chkE, if_neg hc]
                    decide
                  have hae : a.epoch = e := UInt64.toNat_inj.1 (by omega)
                  refine wc_region ?_
                  refine wl_val (v_fa TF.f45_5 rfl) rfl ?_
                  refine wl_val (v_load rfl (st.reads (v := .agg (bdC a.bind (.slice ka a.bind.key.length kc)).toArray) 2 rfl TF.t43 (aw_b hok))) rfl ?_
                  refine wl_alloc TF.z43 st rfl ?_
                  intro b13 w st
                  refine wl_storeW (cs := (bdC a.bind (.slice ka a.bind.key.length kc)).toArray) 0 st rfl TF.t43 rfl rfl rfl rfl (fun u hu => by simp [bdC] at hu; rcases hu with rfl | rfl | rfl <;> rfl) ?_
                  intro w st
                  refine wl_nil ?_
                  refine then_go ?_
                  refine wc_seq ?_
                  refine wc_seq ?_
                  refine wc_region ?_
                  refine wl_val (v_move' (by conv => (lhs; whnf))) rfl ?_
                  refine wl_val (v_not rfl) rfl ?_
                  refine wl_nil ?_
                  refine then_go ?_
                  refine wc_false rfl ?_
                  refine wc_skip ?_
                  refine then_go ?_
                  refine wc_seq ?_
                  refine wc_seq ?_
                  by_cases hN : a.bind.name = name
                  · by_cases hS : 0 < a.bind.serial.toNat
                    · by_cases hC : checkE a.bind.name a.bind.key = 0
                      · refine wc_draw TF.mixed ?_
                        have st := st.pure (touch_drew _)
                        refine fl_val 0 rfl (fun _ => (v_fa TF.f43_0 rfl)) rfl (by kernel_rfl) ?_
                        refine fl_ld 1 rfl (v_load rfl (st.reads (v := .string (strB a.bind.name)) 0 rfl TF.t9 rfl)) (by kernel_rfl) ?_
                        refine fl_val 2 rfl (fun _ => (v_move' (by conv => (lhs; whnf)))) rfl (by kernel_rfl) ?_
                        refine fl_val 3 rfl (fun _ => (v_to (v' := .bool false) (v_nes rfl rfl) (by rw [decide_eq_false (not_not_intro hN)]))) rfl (by kernel_rfl) ?_
                        refine fl_val 4 rfl (fun _ => (v_move' (by conv => (lhs; whnf)))) rfl (by kernel_rfl) ?_
                        refine fl_on 5 rfl rfl rfl rfl (fun _ => (v_fa TF.f43_2 rfl)) rfl (by kernel_rfl) ?_
                        refine fl_ond 6 rfl rfl rfl rfl (v_load rfl (st.reads (v := u64 a.bind.serial) 0 rfl TF.t24 rfl)) rfl (by kernel_rfl) ?_
                        refine fl_on 7 rfl rfl rfl rfl (fun _ => (v_to (v' := .bool false) (v_eql rfl rfl) (by rw [decide_eq_false (by omega)]))) rfl (by kernel_rfl) ?_
                        refine fl_val 8 rfl (fun _ => (v_pick rfl)) rfl (by kernel_rfl) ?_
                        refine fl_val 9 rfl (fun _ => (v_move' (by conv => (lhs; whnf)))) rfl (by kernel_rfl) ?_
                        refine fl_on 10 rfl rfl rfl rfl (fun _ => (v_fa TF.f43_0 rfl)) rfl (by kernel_rfl) ?_
                        refine fl_ond 11 rfl rfl rfl rfl (v_load rfl (st.reads (v := .string (strB a.bind.name)) 0 rfl TF.t9 rfl)) rfl (by kernel_rfl) ?_
                        refine fl_on 12 rfl rfl rfl rfl (fun _ => (v_fa TF.f43_1 rfl)) rfl (by kernel_rfl) ?_
                        refine fl_ond 13 rfl rfl rfl rfl (v_load rfl (st.reads (v := .slice ka a.bind.key.length kc) 0 rfl TF.t41 rfl)) rfl (by kernel_rfl) ?_
                        refine fl_eff1 14 [12, 10, 8, 7, 5, 4, 3, 2, 0] [6, 1] (by kernel_rfl) ⟨obl_on rfl rfl rfl rfl rfl (v_load rfl (st.reads (v := .slice ka a.bind.key.length kc) 0 rfl TF.t41 rfl)), obl_on rfl rfl rfl rfl rfl (v_load rfl (st.reads (v := .string (strB a.bind.name)) 0 rfl TF.t9 rfl)), obl_on rfl rfl rfl rfl rfl (v_load rfl (st.reads (v := u64 a.bind.serial) 0 rfl TF.t24 rfl)), obl_ld rfl rfl rfl (v_load rfl (st.reads (v := .string (strB a.bind.name)) 0 rfl TF.t9 rfl)), trivial⟩ rfl ?_
                        refine wl_on rfl rfl ?_
                        refine wl_call rfl (c_r5check st.im hok.key hok.name) rfl ?_
                        rintro v90 w ⟨t90, rfl⟩
                        have st := st.pure t90
                        refine wl_nil ⟨rfl, ?_⟩
                        refine fl_on 15 rfl rfl rfl rfl (fun _ => (v_to (v' := .bool false) (v_neq rfl rfl) (by rw [decide_eq_false (not_not_intro hC)]))) rfl (by kernel_rfl) ?_
                        refine fl_val 16 rfl (fun _ => (v_pick rfl)) rfl (by kernel_rfl) ?_
                        refine fl_val 17 rfl (fun _ => (v_move' (by conv => (lhs; whnf)))) rfl (by kernel_rfl) ?_
                        refine fl_on 18 rfl rfl rfl rfl (fun _ => (v_fa TF.f45_4 rfl)) rfl (by kernel_rfl) ?_
                        refine fl_ond 19 rfl rfl rfl rfl (v_load rfl (st.reads (v := arr a.salt) 3 rfl TF.t23 (aw_s hok))) rfl (by kernel_rfl) ?_
                        refine fl_ond 20 rfl rfl rfl rfl (v_load rfl (st.reads (v := .agg (bdC a.bind (.slice ka a.bind.key.length kc)).toArray) 0 rfl TF.t43 (getV_all rfl))) rfl (by kernel_rfl) ?_
                        refine fl_ond 22 rfl rfl rfl rfl (v_load rfl (st.reads (v := arr (chkV (rootAt x e) a.index a.proof)) 1 rfl TF.t23 (getV_all (by rw [List.size_toArray, length_bs, chkV_len hok.pV])))) rfl (by kernel_rfl) ?_
                        refine fl_eff1 21 [18, 16, 15, 12, 10, 8, 7, 5, 4, 3, 2, 0] [22, 6, 1] (by kernel_rfl) ⟨obl_on rfl rfl rfl rfl rfl (v_load rfl (st.reads (v := arr (chkV (rootAt x e) a.index a.proof)) 1 rfl TF.t23 (getV_all (by rw [List.size_toArray, length_bs, chkV_len hok.pV])))), obl_on rfl rfl rfl rfl rfl (v_load rfl (st.reads (v := .agg (bdC a.bind (.slice ka a.bind.key.length kc)).toArray) 0 rfl TF.t43 (getV_all rfl))), obl_on rfl rfl rfl rfl rfl (v_load rfl (st.reads (v := arr a.salt) 3 rfl TF.t23 (aw_s hok))), obl_on rfl rfl rfl rfl rfl (v_load rfl (st.reads (v := u64 a.bind.serial) 0 rfl TF.t24 rfl)), obl_ld rfl rfl rfl (v_load rfl (st.reads (v := .string (strB a.bind.name)) 0 rfl TF.t9 rfl)), trivial⟩ rfl ?_
                        refine wl_on rfl rfl ?_
                        refine wl_call rfl (c_rvalue st.im hok.salt hbd (by have := (checkE_len hC).1; omega) (by have := (checkE_len hC).2; omega)) rfl ?_
                        rintro v97 w ⟨t97, rfl⟩
                        have st := st.pure t97
                        refine wl_nil ⟨rfl, ?_⟩
                        refine fl_on 23 rfl rfl rfl rfl (fun _ => (v_neD rfl rfl (length_sum _) (chkV_len hok.pV))) rfl (by kernel_rfl) ?_
                        refine fl_val 24 rfl (fun _ => (v_pick rfl)) rfl (by kernel_rfl) ?_
                        refine fl_nil (by kernel_rfl) ⟨obl_on rfl rfl rfl rfl rfl (v_load rfl (st.reads (v := arr (chkV (rootAt x e) a.index a.proof)) 1 rfl TF.t23 (getV_all (by rw [List.size_toArray, length_bs, chkV_len hok.pV])))), obl_on rfl rfl rfl rfl rfl (v_load rfl (st.reads (v := u64 a.bind.serial) 0 rfl TF.t24 rfl)), obl_ld rfl rfl rfl (v_load rfl (st.reads (v := .string (strB a.bind.name)) 0 rfl TF.t9 rfl)), trivial⟩ ?_
                        refine then_go ?_
                        refine wc_if rfl (fun h100 => ?_) (fun h100 => ?_)
                        · refine wc_seq ?_
                          refine wc_region ?_
                          refine wl_val (v_build (c' := (fdC fd0 (.slice none 0 0)).toArray) [] TF.z48 TF.p48 rfl rfl) rfl ?_
                          refine wl_storeW (cs := (fdC fd0 (.slice none 0 0)).toArray) 2 st rfl TF.t48 rfl rfl rfl rfl (one_fdC rfl) ?_
                          intro w st
                          refine wl_val (v_assign' (by conv => (lhs; whnf))) rfl ?_
                          refine wl_nil ?_
                          refine then_go ?_
                          refine wc_ret (then_ret ?_)
                          first
                            | (obtain ⟨q1, q2⟩ := ask_0 hyes hep hallT
                               exact ret2c rfl (st.reads (v := .agg (fdC ⟨e, true, a.bind⟩ (.slice ka a.bind.key.length kc)).toArray) 2 rfl TF.t48 (getV_all rfl)) rfl ((st.keepOnly (l := []) (List.nil_sublist _)).out ⟨_, by rw [q1]; rfl, by rw [q2, decide_eq_true hT]; exact ⟨_, rfl, hok.key, hok.name⟩⟩))
                            | (obtain ⟨q1, q2⟩ := ask_0 hyes hep hallF
                               exact ret2c rfl (st.reads (v := .agg (fdC ⟨e, false, bd0⟩ (.slice none 0 0)).toArray) 2 rfl TF.t48 (getV_all rfl)) rfl ((st.keepOnly (l := []) (List.nil_sublist _)).out ⟨_, by rw [q1]; rfl, by rw [q2, decide_eq_false hT, hb0]; exact ⟨_, rfl, SlM.nil, Nat.zero_le _⟩⟩))
                            | (have hno : ¬ askOk x name e a := by
                                 intro hc
                                 first
                                   | exact hg2 (show chkE (rootAt x e) a.index a.proof = 0 by rw [chkE, if_pos hc.2.1])
                                   | exact hg8 (show (a.epoch.toNat : Int) = (e.toNat : Int) by rw [hc.1])
                                   | (have h5 := hc.2.2; rw [decide_eq_true hT, shownP, if_pos rfl] at h5; have h6 := h5.1; rw [h6] at h58; simp at h58; done)
                                   | (have h5 := hc.2.2; rw [decide_eq_false hT, shownP, if_neg (by decide)] at h5; have h6 := h5.1; rw [h6] at h58; simp at h58; done)
                                   | (have h5 := hc.2.2; rw [decide_eq_true hT, shownP, if_pos rfl] at h5; first | exact hN h5.2.1 | exact hS h5.2.2.1 | exact hC h5.2.2.2.1 | exact h100 h5.2.2.2.2)
                                   | (have h5 := hc.2.2; rw [decide_eq_false hT, shownP, if_neg (by decide)] at h5; first | exact h72 h5.2.1 | (have h6 := h5.2.2; rw [decide_eq_true h6] at hg3; simp at hg3; done))
                               obtain ⟨q1, q2⟩ := ask_15 hyes hep hno
                               exact ret2c rfl (by first | exact st.reads 1 rfl TF.t48 (getV_all rfl) | exact st.reads 2 rfl TF.t48 (getV_all rfl)) rfl ((st.keepOnly (l := []) (List.nil_sublist _)).out ⟨_, by rw [q1]; rfl, by rw [q2]; exact fd0_M⟩))
                        · refine wc_skip ?_
                          refine then_go ?_
                          refine wc_seq ?_
                          have hallT : askOk x name e a := ⟨hae, hpr, by rw [decide_eq_true hT, shownP, if_pos rfl]; exact ⟨by simpa using h58, hN, hS, hC, Decidable.not_not.1 h100⟩⟩
                          refine wc_region ?_
                          refine wl_val (v_move' (by conv => (lhs; whnf))) rfl ?_
                          refine wl_val (v_load rfl (st.reads (v := .agg (bdC a.bind (.slice ka a.bind.key.length kc)).toArray) 0 rfl TF.t43 (getV_all rfl))) rfl ?_
                          refine wl_val (v_build (c' := (fdC ⟨e, true, a.bind⟩ (.slice ka a.bind.key.length kc)).toArray) [(0, u64 e), (1, .bool true), (2, .agg (bdC a.bind (.slice ka a.bind.key.length kc)).toArray)] TF.z48 TF.p48 rfl fill_fd) rfl ?_
                          refine wl_storeW (cs := (fdC ⟨e, true, a.bind⟩ (.slice ka a.bind.key.length kc)).toArray) 2 st rfl TF.t48 rfl rfl rfl rfl (one_fdC rfl) ?_
                          intro w st
                          refine wl_val (v_assign' (by conv => (lhs; whnf))) rfl ?_
                          refine wl_nil ?_
                          refine then_go ?_
                          refine wc_ret ?_
                          first
                            | (obtain ⟨q1, q2⟩ := ask_0 hyes hep hallT
                               exact ret2c rfl (st.reads (v := .agg (fdC ⟨e, true, a.bind⟩ (.slice ka a.bind.key.length kc)).toArray) 2 rfl TF.t48 (getV_all rfl)) rfl ((st.keepOnly (l := []) (List.nil_sublist _)).out ⟨_, by rw [q1]; rfl, by rw [q2, decide_eq_true hT]; exact ⟨_, rfl, hok.key, hok.name⟩⟩))
                            | (obtain ⟨q1, q2⟩ := ask_0 hyes hep hallF
                               exact ret2c rfl (st.reads (v := .agg (fdC ⟨e, false, bd0⟩ (.slice none 0 0)).toArray) 2 rfl TF.t48 (getV_all rfl)) rfl ((st.keepOnly (l := []) (List.nil_sublist _)).out ⟨_, by rw [q1]; rfl, by rw [q2, decide_eq_false hT, hb0]; exact ⟨_, rfl, SlM.nil, Nat.zero_le _⟩⟩))
                            | (have hno : ¬ askOk x name e a := by
                                 intro hc
                                 first
                                   | exact hg2 (show chkE (rootAt x e) a.index a.proof = 0 by rw [chkE, if_pos hc.2.1])
                                   | exact hg8 (show (a.epoch.toNat : Int) = (e.toNat : Int) by rw [hc.1])
                                   | (have h5 := hc.2.2; rw [decide_eq_true hT, shownP, if_pos rfl] at h5; have h6 := h5.1; rw [h6] at h58; simp at h58; done)
                                   | (have h5 := hc.2.2; rw [decide_eq_false hT, shownP, if_neg (by decide)] at h5; have h6 := h5.1; rw [h6] at h58; simp at h58; done)
                                   | (have h5 := hc.2.2; rw [decide_eq_true hT, shownP, if_pos rfl] at h5; first | exact hN h5.2.1 | exact hS h5.2.2.1 | exact hC h5.2.2.2.1 | exact h100 h5.2.2.2.2)
                                   | (have h5 := hc.2.2; rw [decide_eq_false hT, shownP, if_neg (by decide)] at h5; first | exact h72 h5.2.1 | (have h6 := h5.2.2; rw [decide_eq_true h6] at hg3; simp at hg3; done))
                               obtain ⟨q1, q2⟩ := ask_15 hyes hep hno
                               exact ret2c rfl (by first | exact st.reads 1 rfl TF.t48 (getV_all rfl) | exact st.reads 2 rfl TF.t48 (getV_all rfl)) rfl ((st.keepOnly (l := []) (List.nil_sublist _)).out ⟨_, by rw [q1]; rfl, by rw [q2]; exact fd0_M⟩))
                      · refine wc_draw TF.mixed ?_
                        have st := st.pure (touch_drew _)
                        refine fl_val 0 rfl (fun _ => (v_fa TF.f43_0 rfl)) rfl (by kernel_rfl) ?_
                        refine fl_ld 1 rfl (v_load rfl (st.reads (v := .string (strB a.bind.name)) 0 rfl TF.t9 rfl)) (by kernel_rfl) ?_
                        refine fl_val 2 rfl (fun _ => (v_move' (by conv => (lhs; whnf)))) rfl (by kernel_rfl) ?_
                        refine fl_val 3 rfl (fun _ => (v_to (v' := .bool false) (v_nes rfl rfl) (by rw [decide_eq_false (not_not_intro hN)]))) rfl (by kernel_rfl) ?_
                        refine fl_val 4 rfl (fun _ => (v_move' (by conv => (lhs; whnf)))) rfl (by kernel_rfl) ?_
                        refine fl_on 5 rfl rfl rfl rfl (fun _ => (v_fa TF.f43_2 rfl)) rfl (by kernel_rfl) ?_
                        refine fl_ond 6 rfl rfl rfl rfl (v_load rfl (st.reads (v := u64 a.bind.serial) 0 rfl TF.t24 rfl)) rfl (by kernel_rfl) ?_
                        refine fl_on 7 rfl rfl rfl rfl (fun _ => (v_to (v' := .bool false) (v_eql rfl rfl) (by rw [decide_eq_false (by omega)]))) rfl (by kernel_rfl) ?_
                        refine fl_val 8 rfl (fun _ => (v_pick rfl)) rfl (by kernel_rfl) ?_
                        refine fl_val 9 rfl (fun _ => (v_move' (by conv => (lhs; whnf)))) rfl (by kernel_rfl) ?_
                        refine fl_on 10 rfl rfl rfl rfl (fun _ => (v_fa TF.f43_0 rfl)) rfl (by kernel_rfl) ?_
                        refine fl_ond 11 rfl rfl rfl rfl (v_load rfl (st.reads (v := .string (strB a.bind.name)) 0 rfl TF.t9 rfl)) rfl (by kernel_rfl) ?_
                        refine fl_on 12 rfl rfl rfl rfl (fun _ => (v_fa TF.f43_1 rfl)) rfl (by kernel_rfl) ?_
                        refine fl_ond 13 rfl rfl rfl rfl (v_load rfl (st.reads (v := .slice ka a.bind.key.length kc) 0 rfl TF.t41 rfl)) rfl (by kernel_rfl) ?_
                        refine fl_eff1 14 [12, 10, 8, 7, 5, 4, 3, 2, 0] [6, 1] (by kernel_rfl) ⟨obl_on rfl rfl rfl rfl rfl (v_load rfl (st.reads (v := .slice ka a.bind.key.length kc) 0 rfl TF.t41 rfl)), obl_on rfl rfl rfl rfl rfl (v_load rfl (st.reads (v := .string (strB a.bind.name)) 0 rfl TF.t9 rfl)), obl_on rfl rfl rfl rfl rfl (v_load rfl (st.reads (v := u64 a.bind.serial) 0 rfl TF.t24 rfl)), obl_ld rfl rfl rfl (v_load rfl (st.reads (v := .string (strB a.bind.name)) 0 rfl TF.t9 rfl)), trivial⟩ rfl ?_
                        refine wl_on rfl rfl ?_
                        refine wl_call rfl (c_r5check st.im hok.key hok.name) rfl ?_
                        rintro v90 w ⟨t90, rfl⟩
                        have st := st.pure t90
                        refine wl_nil ⟨rfl, ?_⟩
                        refine fl_on 15 rfl rfl rfl rfl (fun _ => (v_to (v' := .bool true) (v_neq rfl rfl) (by rw [decide_eq_true hC]))) rfl (by kernel_rfl) ?_
                        refine fl_val 16 rfl (fun _ => (v_pick rfl)) rfl (by kernel_rfl) ?_
                        refine fl_val 17 rfl (fun _ => (v_move' (by conv => (lhs; whnf)))) rfl (by kernel_rfl) ?_
                        refine fl_off 18 rfl rfl rfl rfl rfl rfl (by kernel_rfl) ?_
                        refine fl_offd 19 rfl rfl rfl rfl rfl rfl (by kernel_rfl) ?_
                        refine fl_offd 20 rfl rfl rfl rfl rfl rfl (by kernel_rfl) ?_
                        refine fl_offd 22 rfl rfl rfl rfl rfl rfl (by kernel_rfl) ?_
                        refine fl_eff1 21 [18, 16, 15, 12, 10, 8, 7, 5, 4, 3, 2, 0] [22, 6, 1] (by kernel_rfl) ⟨obl_off rfl rfl rfl rfl rfl rfl, obl_off rfl rfl rfl rfl rfl rfl, obl_off rfl rfl rfl rfl rfl rfl, obl_on rfl rfl rfl rfl rfl (v_load rfl (st.reads (v := u64 a.bind.serial) 0 rfl TF.t24 rfl)), obl_ld rfl rfl rfl (v_load rfl (st.reads (v := .string (strB a.bind.name)) 0 rfl TF.t9 rfl)), trivial⟩ rfl ?_
                        refine wl_off rfl rfl rfl rfl ?_
                        refine wl_nil ⟨rfl, ?_⟩
                        refine fl_off 23 rfl rfl rfl rfl rfl rfl (by kernel_rfl) ?_
                        refine fl_val 24 rfl (fun _ => (v_pick rfl)) rfl (by kernel_rfl) ?_
                        refine fl_nil (by kernel_rfl) ⟨obl_off rfl rfl rfl rfl rfl rfl, obl_on rfl rfl rfl rfl rfl (v_load rfl (st.reads (v := u64 a.bind.serial) 0 rfl TF.t24 rfl)), obl_ld rfl rfl rfl (v_load rfl (st.reads (v := .string (strB a.bind.name)) 0 rfl TF.t9 rfl)), trivial⟩ ?_
                        refine then_go ?_
                        refine wc_true rfl ?_
                        refine wc_seq ?_
                        refine wc_region ?_
                        refine wl_val (v_build (c' := (fdC fd0 (.slice none 0 0)).toArray) [] TF.z48 TF.p48 rfl rfl) rfl ?_
                        refine wl_storeW (cs := (fdC fd0 (.slice none 0 0)).toArray) 2 st rfl TF.t48 rfl rfl rfl rfl (one_fdC rfl) ?_
                        intro w st
                        refine wl_val (v_assign' (by conv => (lhs; whnf))) rfl ?_
                        refine wl_nil ?_
                        refine then_go ?_
                        refine wc_ret (then_ret ?_)
                        first
                          | (obtain ⟨q1, q2⟩ := ask_0 hyes hep hallT
                             exact ret2c rfl (st.reads (v := .agg (fdC ⟨e, true, a.bind⟩ (.slice ka a.bind.key.length kc)).toArray) 2 rfl TF.t48 (getV_all rfl)) rfl ((st.keepOnly (l := []) (List.nil_sublist _)).out ⟨_, by rw [q1]; rfl, by rw [q2, decide_eq_true hT]; exact ⟨_, rfl, hok.key, hok.name⟩⟩))
                          | (obtain ⟨q1, q2⟩ := ask_0 hyes hep hallF
                             exact ret2c rfl (st.reads (v := .agg (fdC ⟨e, false, bd0⟩ (.slice none 0 0)).toArray) 2 rfl TF.t48 (getV_all rfl)) rfl ((st.keepOnly (l := []) (List.nil_sublist _)).out ⟨_, by rw [q1]; rfl, by rw [q2, decide_eq_false hT, hb0]; exact ⟨_, rfl, SlM.nil, Nat.zero_le _⟩⟩))
                          | (have hno : ¬ askOk x name e a := by
                               intro hc
                               first
                                 | exact hg2 (show chkE (rootAt x e) a.index a.proof = 0 by rw [chkE, if_pos hc.2.1])
                                 | exact hg8 (show (a.epoch.toNat : Int) = (e.toNat : Int) by rw [hc.1])
                                 | (have h5 := hc.2.2; rw [decide_eq_true hT, shownP, if_pos rfl] at h5; have h6 := h5.1; rw [h6] at h58; simp at h58; done)
                                 | (have h5 := hc.2.2; rw [decide_eq_false hT, shownP, if_neg (by decide)] at h5; have h6 := h5.1; rw [h6] at h58; simp at h58; done)
                                 | (have h5 := hc.2.2; rw [decide_eq_true hT, shownP, if_pos rfl] at h5; first | exact hN h5.2.1 | exact hS h5.2.2.1 | exact hC h5.2.2.2.1 | exact h100 h5.2.2.2.2)
                                 | (have h5 := hc.2.2; rw [decide_eq_false hT, shownP, if_neg (by decide)] at h5; first | exact h72 h5.2.1 | (have h6 := h5.2.2; rw [decide_eq_true h6] at hg3; simp at hg3; done))
                             obtain ⟨q1, q2⟩ := ask_15 hyes hep hno
                             exact ret2c rfl (by first | exact st.reads 1 rfl TF.t48 (getV_all rfl) | exact st.reads 2 rfl TF.t48 (getV_all rfl)) rfl ((st.keepOnly (l := []) (List.nil_sublist _)).out ⟨_, by rw [q1]; rfl, by rw [q2]; exact fd0_M⟩))
                    · refine wc_draw TF.mixed ?_
                      have st := st.pure (touch_drew _)
                      refine fl_val 0 rfl (fun _ => (v_fa TF.f43_0 rfl)) rfl (by kernel_rfl) ?_
                      refine fl_ld 1 rfl (v_load rfl (st.reads (v := .string (strB a.bind.name)) 0 rfl TF.t9 rfl)) (by kernel_rfl) ?_
                      refine fl_val 2 rfl (fun _ => (v_move' (by conv => (lhs; whnf)))) rfl (by kernel_rfl) ?_
                      refine fl_val 3 rfl (fun _ => (v_to (v' := .bool false) (v_nes rfl rfl) (by rw [decide_eq_false (not_not_intro hN)]))) rfl (by kernel_rfl) ?_
                      refine fl_val 4 rfl (fun _ => (v_move' (by conv => (lhs; whnf)))) rfl (by kernel_rfl) ?_
                      refine fl_on 5 rfl rfl rfl rfl (fun _ => (v_fa TF.f43_2 rfl)) rfl (by kernel_rfl) ?_
                      refine fl_ond 6 rfl rfl rfl rfl (v_load rfl (st.reads (v := u64 a.bind.serial) 0 rfl TF.t24 rfl)) rfl (by kernel_rfl) ?_
                      refine fl_on 7 rfl rfl rfl rfl (fun _ => (v_to (v' := .bool true) (v_eql rfl rfl) (by rw [decide_eq_true (by omega)]))) rfl (by kernel_rfl) ?_
                      refine fl_val 8 rfl (fun _ => (v_pick rfl)) rfl (by kernel_rfl) ?_
                      refine fl_val 9 rfl (fun _ => (v_move' (by conv => (lhs; whnf)))) rfl (by kernel_rfl) ?_
                      refine fl_off 10 rfl rfl rfl rfl rfl rfl (by kernel_rfl) ?_
                      refine fl_offd 11 rfl rfl rfl rfl rfl rfl (by kernel_rfl) ?_
                      refine fl_off 12 rfl rfl rfl rfl rfl rfl (by kernel_rfl) ?_
                      refine fl_offd 13 rfl rfl rfl rfl rfl rfl (by kernel_rfl) ?_
                      refine fl_eff1 14 [12, 10, 8, 7, 5, 4, 3, 2, 0] [6, 1] (by kernel_rfl) ⟨obl_off rfl rfl rfl rfl rfl rfl, obl_off rfl rfl rfl rfl rfl rfl, obl_on rfl rfl rfl rfl rfl (v_load rfl (st.reads (v := u64 a.bind.serial) 0 rfl TF.t24 rfl)), obl_ld rfl rfl rfl (v_load rfl (st.reads (v := .string (strB a.bind.name)) 0 rfl TF.t9 rfl)), trivial⟩ rfl ?_
                      refine wl_off rfl rfl rfl rfl ?_
                      refine wl_nil ⟨rfl, ?_⟩
                      refine fl_off 15 rfl rfl rfl rfl rfl rfl (by kernel_rfl) ?_
                      refine fl_val 16 rfl (fun _ => (v_pick rfl)) rfl (by kernel_rfl) ?_
                      refine fl_val 17 rfl (fun _ => (v_move' (by conv => (lhs; whnf)))) rfl (by kernel_rfl) ?_
                      refine fl_off 18 rfl rfl rfl rfl rfl rfl (by kernel_rfl) ?_
                      refine fl_offd 19 rfl rfl rfl rfl rfl rfl (by kernel_rfl) ?_
                      refine fl_offd 20 rfl rfl rfl rfl rfl rfl (by kernel_rfl) ?_
                      refine fl_offd 22 rfl rfl rfl rfl rfl rfl (by kernel_rfl) ?_
                      refine fl_eff1 21 [18, 16, 15, 12, 10, 8, 7, 5, 4, 3, 2, 0] [22, 6, 1] (by kernel_rfl) ⟨obl_off rfl rfl rfl rfl rfl rfl, obl_off rfl rfl rfl rfl rfl rfl, obl_off rfl rfl rfl rfl rfl rfl, obl_on rfl rfl rfl rfl rfl (v_load rfl (st.reads (v := u64 a.bind.serial) 0 rfl TF.t24 rfl)), obl_ld rfl rfl rfl (v_load rfl (st.reads (v := .string (strB a.bind.name)) 0 rfl TF.t9 rfl)), trivial⟩ rfl ?_
                      refine wl_off rfl rfl rfl rfl ?_
                      refine wl_nil ⟨rfl, ?_⟩
                      refine fl_off 23 rfl rfl rfl rfl rfl rfl (by kernel_rfl) ?_
                      refine fl_val 24 rfl (fun _ => (v_pick rfl)) rfl (by kernel_rfl) ?_
                      refine fl_nil (by kernel_rfl) ⟨obl_off rfl rfl rfl rfl rfl rfl, obl_on rfl rfl rfl rfl rfl (v_load rfl (st.reads (v := u64 a.bind.serial) 0 rfl TF.t24 rfl)), obl_ld rfl rfl rfl (v_load rfl (st.reads (v := .string (strB a.bind.name)) 0 rfl TF.t9 rfl)), trivial⟩ ?_
                      refine then_go ?_
                      refine wc_true rfl ?_
                      refine wc_seq ?_
                      refine wc_region ?_
                      refine wl_val (v_build (c' := (fdC fd0 (.slice none 0 0)).toArray) [] TF.z48 TF.p48 rfl rfl) rfl ?_
                      refine wl_storeW (cs := (fdC fd0 (.slice none 0 0)).toArray) 2 st rfl TF.t48 rfl rfl rfl rfl (one_fdC rfl) ?_
                      intro w st
                      refine wl_val (v_assign' (by conv => (lhs; whnf))) rfl ?_
                      refine wl_nil ?_
                      refine then_go ?_
                      refine wc_ret (then_ret ?_)
                      first
                        | (obtain ⟨q1, q2⟩ := ask_0 hyes hep hallT
                           exact ret2c rfl (st.reads (v := .agg (fdC ⟨e, true, a.bind⟩ (.slice ka a.bind.key.length kc)).toArray) 2 rfl TF.t48 (getV_all rfl)) rfl ((st.keepOnly (l := []) (List.nil_sublist _)).out ⟨_, by rw [q1]; rfl, by rw [q2, decide_eq_true hT]; exact ⟨_, rfl, hok.key, hok.name⟩⟩))
                        | (obtain ⟨q1, q2⟩ := ask_0 hyes hep hallF
                           exact ret2c rfl (st.reads (v := .agg (fdC ⟨e, false, bd0⟩ (.slice none 0 0)).toArray) 2 rfl TF.t48 (getV_all rfl)) rfl ((st.keepOnly (l := []) (List.nil_sublist _)).out ⟨_, by rw [q1]; rfl, by rw [q2, decide_eq_false hT, hb0]; exact ⟨_, rfl, SlM.nil, Nat.zero_le _⟩⟩))
                        | (have hno : ¬ askOk x name e a := by
                             intro hc
                             first
                               | exact hg2 (show chkE (rootAt x e) a.index a.proof = 0 by rw [chkE, if_pos hc.2.1])
                               | exact hg8 (show (a.epoch.toNat : Int) = (e.toNat : Int) by rw [hc.1])
                               | (have h5 := hc.2.2; rw [decide_eq_true hT, shownP, if_pos rfl] at h5; have h6 := h5.1; rw [h6] at h58; simp at h58; done)
                               | (have h5 := hc.2.2; rw [decide_eq_false hT, shownP, if_neg (by decide)] at h5; have h6 := h5.1; rw [h6] at h58; simp at h58; done)
                               | (have h5 := hc.2.2; rw [decide_eq_true hT, shownP, if_pos rfl] at h5; first | exact hN h5.2.1 | exact hS h5.2.2.1 | exact hC h5.2.2.2.1 | exact h100 h5.2.2.2.2)
                               | (have h5 := hc.2.2; rw [decide_eq_false hT, shownP, if_neg (by decide)] at h5; first | exact h72 h5.2.1 | (have h6 := h5.2.2; rw [decide_eq_true h6] at hg3; simp at hg3; done))
                           obtain ⟨q1, q2⟩ := ask_15 hyes hep hno
                           exact ret2c rfl (by first | exact st.reads 1 rfl TF.t48 (getV_all rfl) | exact st.reads 2 rfl TF.t48 (getV_all rfl)) rfl ((st.keepOnly (l := []) (List.nil_sublist _)).out ⟨_, by rw [q1]; rfl, by rw [q2]; exact fd0_M⟩))
                  · refine wc_draw TF.mixed ?_
                    have st := st.pure (touch_drew _)
                    refine fl_val 0 rfl (fun _ => (v_fa TF.f43_0 rfl)) rfl (by kernel_rfl) ?_
                    refine fl_ld 1 rfl (v_load rfl (st.reads (v := .string (strB a.bind.name)) 0 rfl TF.t9 rfl)) (by kernel_rfl) ?_
                    refine fl_val 2 rfl (fun _ => (v_move' (by conv => (lhs; whnf)))) rfl (by kernel_rfl) ?_
                    refine fl_val 3 rfl (fun _ => (v_to (v' := .bool true) (v_nes rfl rfl) (by rw [decide_eq_true hN]))) rfl (by kernel_rfl) ?_
                    refine fl_val 4 rfl (fun _ => (v_move' (by conv => (lhs; whnf)))) rfl (by kernel_rfl) ?_
                    refine fl_off 5 rfl rfl rfl rfl rfl rfl (by kernel_rfl) ?_
                    refine fl_offd 6 rfl rfl rfl rfl rfl rfl (by kernel_rfl) ?_
                    refine fl_off 7 rfl rfl rfl rfl rfl rfl (by kernel_rfl) ?_
                    refine fl_val 8 rfl (fun _ => (v_pick rfl)) rfl (by kernel_rfl) ?_
                    refine fl_val 9 rfl (fun _ => (v_move' (by conv => (lhs; whnf)))) rfl (by kernel_rfl) ?_
                    refine fl_off 10 rfl rfl rfl rfl rfl rfl (by kernel_rfl) ?_
                    refine fl_offd 11 rfl rfl rfl rfl rfl rfl (by kernel_rfl) ?_
                    refine fl_off 12 rfl rfl rfl rfl rfl rfl (by kernel_rfl) ?_
                    refine fl_offd 13 rfl rfl rfl rfl rfl rfl (by kernel_rfl) ?_
                    refine fl_eff1 14 [12, 10, 8, 7, 5, 4, 3, 2, 0] [6, 1] (by kernel_rfl) ⟨obl_off rfl rfl rfl rfl rfl rfl, obl_off rfl rfl rfl rfl rfl rfl, obl_off rfl rfl rfl rfl rfl rfl, obl_ld rfl rfl rfl (v_load rfl (st.reads (v := .string (strB a.bind.name)) 0 rfl TF.t9 rfl)), trivial⟩ rfl ?_
                    refine wl_off rfl rfl rfl rfl ?_
                    refine wl_nil ⟨rfl, ?_⟩
                    refine fl_off 15 rfl rfl rfl rfl rfl rfl (by kernel_rfl) ?_
                    refine fl_val 16 rfl (fun _ => (v_pick rfl)) rfl (by kernel_rfl) ?_
                    refine fl_val 17 rfl (fun _ => (v_move' (by conv => (lhs; whnf)))) rfl (by kernel_rfl) ?_
                    refine fl_off 18 rfl rfl rfl rfl rfl rfl (by kernel_rfl) ?_
                    refine fl_offd 19 rfl rfl rfl rfl rfl rfl (by kernel_rfl) ?_
                    refine fl_offd 20 rfl rfl rfl rfl rfl rfl (by kernel_rfl) ?_
                    refine fl_offd 22 rfl rfl rfl rfl rfl rfl (by kernel_rfl) ?_
                    refine fl_eff1 21 [18, 16, 15, 12, 10, 8, 7, 5, 4, 3, 2, 0] [22, 6, 1] (by kernel_rfl) ⟨obl_off rfl rfl rfl rfl rfl rfl, obl_off rfl rfl rfl rfl rfl rfl, obl_off rfl rfl rfl rfl rfl rfl, obl_off rfl rfl rfl rfl rfl rfl, obl_ld rfl rfl rfl (v_load rfl (st.reads (v := .string (strB a.bind.name)) 0 rfl TF.t9 rfl)), trivial⟩ rfl ?_
                    refine wl_off rfl rfl rfl rfl ?_
                    refine wl_nil ⟨rfl, ?_⟩
                    refine fl_off 23 rfl rfl rfl rfl rfl rfl (by kernel_rfl) ?_
                    refine fl_val 24 rfl (fun _ => (v_pick rfl)) rfl (by kernel_rfl) ?_
                    refine fl_nil (by kernel_rfl) ⟨obl_off rfl rfl rfl rfl rfl rfl, obl_off rfl rfl rfl rfl rfl rfl, obl_ld rfl rfl rfl (v_load rfl (st.reads (v := .string (strB a.bind.name)) 0 rfl TF.t9 rfl)), trivial⟩ ?_
                    refine then_go ?_
                    refine wc_true rfl ?_
                    refine wc_seq ?_
                    refine wc_region ?_
                    refine wl_val (v_build (c' := (fdC fd0 (.slice none 0 0)).toArray) [] TF.z48 TF.p48 rfl rfl) rfl ?_
                    refine wl_storeW (cs := (fdC fd0 (.slice none 0 0)).toArray) 2 st rfl TF.t48 rfl rfl rfl rfl (one_fdC rfl) ?_
                    intro w st
                    refine wl_val (v_assign' (by conv => (lhs; whnf))) rfl ?_
                    refine wl_nil ?_
                    refine then_go ?_
                    refine wc_ret (then_ret ?_)
                    first
                      | (obtain ⟨q1, q2⟩ := ask_0 hyes hep hallT
                         exact ret2c rfl (st.reads (v := .agg (fdC ⟨e, true, a.bind⟩ (.slice ka a.bind.key.length kc)).toArray) 2 rfl TF.t48 (getV_all rfl)) rfl ((st.keepOnly (l := []) (List.nil_sublist _)).out ⟨_, by rw [q1]; rfl, by rw [q2, decide_eq_true hT]; exact ⟨_, rfl, hok.key, hok.name⟩⟩))
                      | (obtain ⟨q1, q2⟩ := ask_0 hyes hep hallF
                         exact ret2c rfl (st.reads (v := .agg (fdC ⟨e, false, bd0⟩ (.slice none 0 0)).toArray) 2 rfl TF.t48 (getV_all rfl)) rfl ((st.keepOnly (l := []) (List.nil_sublist _)).out ⟨_, by rw [q1]; rfl, by rw [q2, decide_eq_false hT, hb0]; exact ⟨_, rfl, SlM.nil, Nat.zero_le _⟩⟩))
                      | (have hno : ¬ askOk x name e a := by
                           intro hc
                           first
                             | exact hg2 (show chkE (rootAt x e) a.index a.proof = 0 by rw [chkE, if_pos hc.2.1])
                             | exact hg8 (show (a.epoch.toNat : Int) = (e.toNat : Int) by rw [hc.1])
                             | (have h5 := hc.2.2; rw [decide_eq_true hT, shownP, if_pos rfl] at h5; have h6 := h5.1; rw [h6] at h58; simp at h58; done)
                             | (have h5 := hc.2.2; rw [decide_eq_false hT, shownP, if_neg (by decide)] at h5; have h6 := h5.1; rw [h6] at h58; simp at h58; done)
                             | (have h5 := hc.2.2; rw [decide_eq_true hT, shownP, if_pos rfl] at h5; first | exact hN h5.2.1 | exact hS h5.2.2.1 | exact hC h5.2.2.2.1 | exact h100 h5.2.2.2.2)
                             | (have h5 := hc.2.2; rw [decide_eq_false hT, shownP, if_neg (by decide)] at h5; first | exact h72 h5.2.1 | (have h6 := h5.2.2; rw [decide_eq_true h6] at hg3; simp at hg3; done))
                         obtain ⟨q1, q2⟩ := ask_15 hyes hep hno
                         exact ret2c rfl (by first | exact st.reads 1 rfl TF.t48 (getV_all rfl) | exact st.reads 2 rfl TF.t48 (getV_all rfl)) rfl ((st.keepOnly (l := []) (List.nil_sublist _)).out ⟨_, by rw [q1]; rfl, by rw [q2]; exact fd0_M⟩))
          · rw [show decide (chkT (rootAt x e) a.index a.proof) = false from decide_eq_false hT]
            refine wc_region ?_
            refine wl_val (v_move' (by conv => (lhs; whnf))) rfl ?_
            refine wl_val (v_neq rfl rfl) rfl ?_
            refine wl_val (v_move' (by conv => (lhs; whnf))) rfl ?_
            by_cases hg2 : ¬ chkE (rootAt x e) a.index a.proof = 0
            · rw [show decide (¬ chkE (rootAt x e) a.index a.proof = 0) = true from decide_eq_true hg2]
              refine wl_off rfl rfl rfl rfl ?_
              refine wl_off rfl rfl rfl rfl ?_
              refine wl_off rfl rfl rfl rfl ?_
              refine wl_off rfl rfl rfl rfl ?_
              refine wl_val (v_pick rfl) rfl ?_
              refine wl_val (v_move' (by conv => (lhs; whnf))) rfl ?_
              refine wl_off rfl rfl rfl rfl ?_
              refine wl_off rfl rfl rfl rfl ?_
              refine wl_off rfl rfl rfl rfl ?_
              refine wl_off rfl rfl rfl rfl ?_
              refine wl_val (v_pick rfl) rfl ?_
              refine wl_nil ?_
              refine then_go ?_
              refine wc_true rfl ?_
              refine wc_seq ?_
              refine wc_region ?_
              refine wl_val (v_build (c' := (fdC fd0 (.slice none 0 0)).toArray) [] TF.z48 TF.p48 rfl rfl) rfl ?_
              refine wl_storeW (cs := (fdC fd0 (.slice none 0 0)).toArray) 1 st rfl TF.t48 rfl rfl rfl rfl (one_fdC rfl) ?_
              intro w st
              refine wl_val (v_assign' (by conv => (lhs; whnf))) rfl ?_
              refine wl_nil ?_
              refine then_go ?_
              refine wc_ret (then_ret ?_)
              first
                | (obtain ⟨q1, q2⟩ := ask_0 hyes hep hallT
                   exact ret2c rfl (st.reads (v := .agg (fdC ⟨e, true, a.bind⟩ (.slice ka a.bind.key.length kc)).toArray) 2 rfl TF.t48 (getV_all rfl)) rfl ((st.keepOnly (l := []) (List.nil_sublist _)).out ⟨_, by rw [q1]; rfl, by rw [q2, decide_eq_true hT]; exact ⟨_, rfl, hok.key, hok.name⟩⟩))
                | (obtain ⟨q1, q2⟩ := ask_0 hyes hep hallF
                   exact ret2c rfl (st.reads (v := .agg (fdC ⟨e, false, bd0⟩ (.slice none 0 0)).toArray) 2 rfl TF.t48 (getV_all rfl)) rfl ((st.keepOnly (l := []) (List.nil_sublist _)).out ⟨_, by rw [q1]; rfl, by rw [q2, decide_eq_false hT, hb0]; exact ⟨_, rfl, SlM.nil, Nat.zero_le _⟩⟩))
                | (have hno : ¬ askOk x name e a := by
                     intro hc
                     first
                       | exact hg2 (show chkE (rootAt x e) a.index a.proof = 0 by rw [chkE, if_pos hc.2.1])
                       | exact hg8 (show (a.epoch.toNat : Int) = (e.toNat : Int) by rw [hc.1])
                       | (have h5 := hc.2.2; rw [decide_eq_true hT, shownP, if_pos rfl] at h5; have h6 := h5.1; rw [h6] at h58; simp at h58; done)
                       | (have h5 := hc.2.2; rw [decide_eq_false hT, shownP, if_neg (by decide)] at h5; have h6 := h5.1; rw [h6] at h58; simp at h58; done)
                       | (have h5 := hc.2.2; rw [decide_eq_true hT, shownP, if_pos rfl] at h5; first | exact hN h5.2.1 | exact hS h5.2.2.1 | exact hC h5.2.2.2.1 | exact h100 h5.2.2.2.2)
                       | (have h5 := hc.2.2; rw [decide_eq_false hT, shownP, if_neg (by decide)] at h5; first | exact h72 h5.2.1 | (have h6 := h5.2.2; rw [decide_eq_true h6] at hg3; simp at hg3; done))
                   obtain ⟨q1, q2⟩ := ask_15 hyes hep hno
                   exact ret2c rfl (by first | exact st.reads 1 rfl TF.t48 (getV_all rfl) | exact st.reads 2 rfl TF.t48 (getV_all rfl)) rfl ((st.keepOnly (l := []) (List.nil_sublist _)).out ⟨_, by rw [q1]; rfl, by rw [q2]; exact fd0_M⟩))
            · rw [show decide (¬ chkE (rootAt x e) a.index a.proof = 0) = false from decide_eq_false hg2]
              refine wl_on rfl rfl ?_
              refine wl_val (v_fa TF.f45_0 rfl) rfl ?_
              refine wl_on rfl rfl ?_
              refine wl_val (v_load rfl (st.reads (v := u64 a.epoch) 2 rfl TF.t24 aw_e)) rfl ?_
              refine wl_on rfl rfl ?_
              refine wl_val (v_move' (by conv => (lhs; whnf))) rfl ?_
              refine wl_on rfl rfl ?_
              refine wl_val (v_neq rfl rfl) rfl ?_
              refine wl_val (v_pick rfl) rfl ?_
              refine wl_val (v_move' (by conv => (lhs; whnf))) rfl ?_
              by_cases hg8 : ¬ (a.epoch.toNat : Int) = (e.toNat : Int)
              · rw [show decide (¬ (a.epoch.toNat : Int) = (e.toNat : Int)) = true from decide_eq_true hg8]
                refine wl_off rfl rfl rfl rfl ?_
                refine wl_off rfl rfl rfl rfl ?_
                refine wl_off rfl rfl rfl rfl ?_
                refine wl_off rfl rfl rfl rfl ?_
                refine wl_val (v_pick rfl) rfl ?_
                refine wl_nil ?_
                refine then_go ?_
                refine wc_true rfl ?_
                refine wc_seq ?_
                refine wc_region ?_
                refine wl_val (v_build (c' := (fdC fd0 (.slice none 0 0)).toArray) [] TF.z48 TF.p48 rfl rfl) rfl ?_
                refine wl_storeW (cs := (fdC fd0 (.slice none 0 0)).toArray) 1 st rfl TF.t48 rfl rfl rfl rfl (one_fdC rfl) ?_
                intro w st
                refine wl_val (v_assign' (by conv => (lhs; whnf))) rfl ?_
                refine wl_nil ?_
                refine then_go ?_
                refine wc_ret (then_ret ?_)
                first
                  | (obtain ⟨q1, q2⟩ := ask_0 hyes hep hallT
                     exact ret2c rfl (st.reads (v := .agg (fdC ⟨e, true, a.bind⟩ (.slice ka a.bind.key.length kc)).toArray) 2 rfl TF.t48 (getV_all rfl)) rfl ((st.keepOnly (l := []) (List.nil_sublist _)).out ⟨_, by rw [q1]; rfl, by rw [q2, decide_eq_true hT]; exact ⟨_, rfl, hok.key, hok.name⟩⟩))
                  | (obtain ⟨q1, q2⟩ := ask_0 hyes hep hallF
                     exact ret2c rfl (st.reads (v := .agg (fdC ⟨e, false, bd0⟩ (.slice none 0 0)).toArray) 2 rfl TF.t48 (getV_all rfl)) rfl ((st.keepOnly (l := []) (List.nil_sublist _)).out ⟨_, by rw [q1]; rfl, by rw [q2, decide_eq_false hT, hb0]; exact ⟨_, rfl, SlM.nil, Nat.zero_le _⟩⟩))
                  | (have hno : ¬ askOk x name e a := by
                       intro hc
                       first
                         | exact hg2 (show chkE (rootAt x e) a.index a.proof = 0 by rw [chkE, if_pos hc.2.1])
                         | exact hg8 (show (a.epoch.toNat : Int) = (e.toNat : Int) by rw [hc.1])
                         | (have h5 := hc.2.2; rw [decide_eq_true hT, shownP, if_pos rfl] at h5; have h6 := h5.1; rw [h6] at h58; simp at h58; done)
                         | (have h5 := hc.2.2; rw [decide_eq_false hT, shownP, if_neg (by decide)] at h5; have h6 := h5.1; rw [h6] at h58; simp at h58; done)
                         | (have h5 := hc.2.2; rw [decide_eq_true hT, shownP, if_pos rfl] at h5; first | exact hN h5.2.1 | exact hS h5.2.2.1 | exact hC h5.2.2.2.1 | exact h100 h5.2.2.2.2)
                         | (have h5 := hc.2.2; rw [decide_eq_false hT, shownP, if_neg (by decide)] at h5; first | exact h72 h5.2.1 | (have h6 := h5.2.2; rw [decide_eq_true h6] at hg3; simp at hg3; done))
                     obtain ⟨q1, q2⟩ := ask_15 hyes hep hno
                     exact ret2c rfl (by first | exact st.reads 1 rfl TF.t48 (getV_all rfl) | exact st.reads 2 rfl TF.t48 (getV_all rfl)) rfl ((st.keepOnly (l := []) (List.nil_sublist _)).out ⟨_, by rw [q1]; rfl, by rw [q2]; exact fd0_M⟩))
              · rw [show decide (¬ (a.epoch.toNat : Int) = (e.toNat : Int)) = false from decide_eq_false hg8]
                refine wl_on rfl rfl ?_
                refine wl_val (v_fa TF.f45_3 rfl) rfl ?_
                refine wl_on rfl rfl ?_
                refine wl_val (v_load rfl (st.reads (v := .bool a.there) 2 rfl TF.t4 (aw_t hok))) rfl ?_
                refine wl_on rfl rfl ?_
                refine wl_val (v_move' (by conv => (lhs; whnf))) rfl ?_
                refine wl_on rfl rfl ?_
                refine wl_val (v_to (v' := .bool a.there) (v_neb Try.underlying4 rfl rfl) (by cases a.there <;> rfl)) rfl ?_
                refine wl_val (v_pick rfl) rfl ?_
                refine wl_nil ?_
                refine then_go ?_
                refine wc_cond rfl (fun h58 => ?_) (fun h58 => ?_)
                · refine wc_seq ?_
                  refine wc_region ?_
                  refine wl_val (v_build (c' := (fdC fd0 (.slice none 0 0)).toArray) [] TF.z48 TF.p48 rfl rfl) rfl ?_
                  refine wl_storeW (cs := (fdC fd0 (.slice none 0 0)).toArray) 1 st rfl TF.t48 rfl rfl rfl rfl (one_fdC rfl) ?_
                  intro w st
                  refine wl_val (v_assign' (by conv => (lhs; whnf))) rfl ?_
                  refine wl_nil ?_
                  refine then_go ?_
                  refine wc_ret (then_ret ?_)
                  first
                    | (obtain ⟨q1, q2⟩ := ask_0 hyes hep hallT
                       exact ret2c rfl (st.reads (v := .agg (fdC ⟨e, true, a.bind⟩ (.slice ka a.bind.key.length kc)).toArray) 2 rfl TF.t48 (getV_all rfl)) rfl ((st.keepOnly (l := []) (List.nil_sublist _)).out ⟨_, by rw [q1]; rfl, by rw [q2, decide_eq_true hT]; exact ⟨_, rfl, hok.key, hok.name⟩⟩))
                    | (obtain ⟨q1, q2⟩ := ask_0 hyes hep hallF
                       exact ret2c rfl (st.reads (v := .agg (fdC ⟨e, false, bd0⟩ (.slice none 0 0)).toArray) 2 rfl TF.t48 (getV_all rfl)) rfl ((st.keepOnly (l := []) (List.nil_sublist _)).out ⟨_, by rw [q1]; rfl, by rw [q2, decide_eq_false hT, hb0]; exact ⟨_, rfl, SlM.nil, Nat.zero_le _⟩⟩))
                    | (have hno : ¬ askOk x name e a := by
                         intro hc
                         first
                           | exact hg2 (show chkE (rootAt x e) a.index a.proof = 0 by rw [chkE, if_pos hc.2.1])
                           | exact hg8 (show (a.epoch.toNat : Int) = (e.toNat : Int) by rw [hc.1])
                           | (have h5 := hc.2.2; rw [decide_eq_true hT, shownP, if_pos rfl] at h5; have h6 := h5.1; rw [h6] at h58; simp at h58; done)
                           | (have h5 := hc.2.2; rw [decide_eq_false hT, shownP, if_neg (by decide)] at h5; have h6 := h5.1; rw [h6] at h58; simp at h58; done)
                           | (have h5 := hc.2.2; rw [decide_eq_true hT, shownP, if_pos rfl] at h5; first | exact hN h5.2.1 | exact hS h5.2.2.1 | exact hC h5.2.2.2.1 | exact h100 h5.2.2.2.2)
                           | (have h5 := hc.2.2; rw [decide_eq_false hT, shownP, if_neg (by decide)] at h5; first | exact h72 h5.2.1 | (have h6 := h5.2.2; rw [decide_eq_true h6] at hg3; simp at hg3; done))
                       obtain ⟨q1, q2⟩ := ask_15 hyes hep hno
                       exact ret2c rfl (by first | exact st.reads 1 rfl TF.t48 (getV_all rfl) | exact st.reads 2 rfl TF.t48 (getV_all rfl)) rfl ((st.keepOnly (l := []) (List.nil_sublist _)).out ⟨_, by rw [q1]; rfl, by rw [q2]; exact fd0_M⟩))
                · refine wc_skip ?_
                  refine then_go ?_
                  refine wc_seq ?_
                  have hpr : provesP (rootAt x e) a.index a.proof := by
                    refine Decidable.byContradiction fun hc => hg2 ?_
                    rw [chkE, if_neg hc]
                    decide
                  have hae : a.epoch = e := UInt64.toNat_inj.1 (by omega)
                  refine wc_region ?_
                  refine wl_val (v_fa TF.f45_5 rfl) rfl ?_
                  refine wl_val (v_load rfl (st.reads (v := .agg (bdC a.bind (.slice ka a.bind.key.length kc)).toArray) 2 rfl TF.t43 (aw_b hok))) rfl ?_
                  refine wl_alloc TF.z43 st rfl ?_
                  intro b13 w st
                  refine wl_storeW (cs := (bdC a.bind (.slice ka a.bind.key.length kc)).toArray) 0 st rfl TF.t43 rfl rfl rfl rfl (fun u hu => by simp [bdC] at hu; rcases hu with rfl | rfl | rfl <;> rfl) ?_
                  intro w st
                  refine wl_nil ?_
                  refine then_go ?_
                  refine wc_seq ?_
                  refine wc_seq ?_
                  refine wc_region ?_
                  refine wl_val (v_move' (by conv => (lhs; whnf))) rfl ?_
                  refine wl_val (v_not rfl) rfl ?_
                  refine wl_nil ?_
                  refine then_go ?_
                  refine wc_true rfl ?_
                  refine wc_seq ?_
                  refine wc_seq ?_
                  refine wc_region ?_
                  refine wl_val (v_load rfl (st.reads (v := .agg (bdC a.bind (.slice ka a.bind.key.length kc)).toArray) 0 rfl TF.t43 (getV_all rfl))) rfl ?_
                  refine wl_call rfl (c_rzero st.im hbd) rfl ?_
                  rintro v65 w ⟨t65, rfl⟩
                  have st := st.pure t65
                  refine wl_val (v_not rfl) rfl ?_
                  refine wl_val (v_move' (by conv => (lhs; whnf))) rfl ?_
                  rcases Bool.eq_false_or_eq_true (!decide (a.bind.name = [] ∧ a.bind.key.length = 0 ∧ a.bind.serial = 0)) with hg3 | hg3
                  · rw [hg3]
                    refine wl_off rfl rfl rfl rfl ?_
                    refine wl_off rfl rfl rfl rfl ?_
                    refine wl_off rfl rfl rfl rfl ?_
                    refine wl_off rfl rfl rfl rfl ?_
                    refine wl_val (v_pick rfl) rfl ?_
                    refine wl_nil ?_
                    refine then_go ?_
                    refine wc_true rfl ?_
                    refine wc_seq ?_
                    refine wc_region ?_
                    refine wl_val (v_build (c' := (fdC fd0 (.slice none 0 0)).toArray) [] TF.z48 TF.p48 rfl rfl) rfl ?_
                    refine wl_storeW (cs := (fdC fd0 (.slice none 0 0)).toArray) 2 st rfl TF.t48 rfl rfl rfl rfl (one_fdC rfl) ?_
                    intro w st
                    refine wl_val (v_assign' (by conv => (lhs; whnf))) rfl ?_
                    refine wl_nil ?_
                    refine then_go ?_
                    refine wc_ret (then_ret (then_ret ?_))
                    first
                      | (obtain ⟨q1, q2⟩ := ask_0 hyes hep hallT
                         exact ret2c rfl (st.reads (v := .agg (fdC ⟨e, true, a.bind⟩ (.slice ka a.bind.key.length kc)).toArray) 2 rfl TF.t48 (getV_all rfl)) rfl ((st.keepOnly (l := []) (List.nil_sublist _)).out ⟨_, by rw [q1]; rfl, by rw [q2, decide_eq_true hT]; exact ⟨_, rfl, hok.key, hok.name⟩⟩))
                      | (obtain ⟨q1, q2⟩ := ask_0 hyes hep hallF
                         exact ret2c rfl (st.reads (v := .agg (fdC ⟨e, false, bd0⟩ (.slice none 0 0)).toArray) 2 rfl TF.t48 (getV_all rfl)) rfl ((st.keepOnly (l := []) (List.nil_sublist _)).out ⟨_, by rw [q1]; rfl, by rw [q2, decide_eq_false hT, hb0]; exact ⟨_, rfl, SlM.nil, Nat.zero_le _⟩⟩))
                      | (have hno : ¬ askOk x name e a := by
                           intro hc
                           first
                             | exact hg2 (show chkE (rootAt x e) a.index a.proof = 0 by rw [chkE, if_pos hc.2.1])
                             | exact hg8 (show (a.epoch.toNat : Int) = (e.toNat : Int) by rw [hc.1])
                             | (have h5 := hc.2.2; rw [decide_eq_true hT, shownP, if_pos rfl] at h5; have h6 := h5.1; rw [h6] at h58; simp at h58; done)
                             | (have h5 := hc.2.2; rw [decide_eq_false hT, shownP, if_neg (by decide)] at h5; have h6 := h5.1; rw [h6] at h58; simp at h58; done)
                             | (have h5 := hc.2.2; rw [decide_eq_true hT, shownP, if_pos rfl] at h5; first | exact hN h5.2.1 | exact hS h5.2.2.1 | exact hC h5.2.2.2.1 | exact h100 h5.2.2.2.2)
                             | (have h5 := hc.2.2; rw [decide_eq_false hT, shownP, if_neg (by decide)] at h5; first | exact h72 h5.2.1 | (have h6 := h5.2.2; rw [decide_eq_true h6] at hg3; simp at hg3; done))
                         obtain ⟨q1, q2⟩ := ask_15 hyes hep hno
                         exact ret2c rfl (by first | exact st.reads 1 rfl TF.t48 (getV_all rfl) | exact st.reads 2 rfl TF.t48 (getV_all rfl)) rfl ((st.keepOnly (l := []) (List.nil_sublist _)).out ⟨_, by rw [q1]; rfl, by rw [q2]; exact fd0_M⟩))
                  · rw [hg3]
                    refine wl_on rfl rfl ?_
                    refine wl_val (v_fa TF.f45_4 rfl) rfl ?_
                    refine wl_on rfl rfl ?_
                    refine wl_val (v_load rfl (st.reads (v := arr a.salt) 3 rfl TF.t23 (aw_s hok))) rfl ?_
                    refine wl_on rfl rfl ?_
                    refine wl_val v_z32 rfl ?_
                    refine wl_on rfl rfl ?_
                    refine wl_val (v_neD rfl rfl hok.salt rfl) rfl ?_
                    refine wl_val (v_pick rfl) rfl ?_
                    refine wl_nil ?_
                    refine then_go ?_
                    refine wc_if rfl (fun h72 => ?_) (fun h72 => ?_)
                    · refine wc_seq ?_
                      refine wc_region ?_
                      refine wl_val (v_build (c' := (fdC fd0 (.slice none 0 0)).toArray) [] TF.z48 TF.p48 rfl rfl) rfl ?_
                      refine wl_storeW (cs := (fdC fd0 (.slice none 0 0)).toArray) 2 st rfl TF.t48 rfl rfl rfl rfl (one_fdC rfl) ?_
                      intro w st
                      refine wl_val (v_assign' (by conv => (lhs; whnf))) rfl ?_
                      refine wl_nil ?_
                      refine then_go ?_
                      refine wc_ret (then_ret (then_ret ?_))
                      first
                        | (obtain ⟨q1, q2⟩ := ask_0 hyes hep hallT
                           exact ret2c rfl (st.reads (v := .agg (fdC ⟨e, true, a.bind⟩ (.slice ka a.bind.key.length kc)).toArray) 2 rfl TF.t48 (getV_all rfl)) rfl ((st.keepOnly (l := []) (List.nil_sublist _)).out ⟨_, by rw [q1]; rfl, by rw [q2, decide_eq_true hT]; exact ⟨_, rfl, hok.key, hok.name⟩⟩))
                        | (obtain ⟨q1, q2⟩ := ask_0 hyes hep hallF
                           exact ret2c rfl (st.reads (v := .agg (fdC ⟨e, false, bd0⟩ (.slice none 0 0)).toArray) 2 rfl TF.t48 (getV_all rfl)) rfl ((st.keepOnly (l := []) (List.nil_sublist _)).out ⟨_, by rw [q1]; rfl, by rw [q2, decide_eq_false hT, hb0]; exact ⟨_, rfl, SlM.nil, Nat.zero_le _⟩⟩))
                        | (have hno : ¬ askOk x name e a := by
                             intro hc
                             first
                               | exact hg2 (show chkE (rootAt x e) a.index a.proof = 0 by rw [chkE, if_pos hc.2.1])
                               | exact hg8 (show (a.epoch.toNat : Int) = (e.toNat : Int) by rw [hc.1])
                               | (have h5 := hc.2.2; rw [decide_eq_true hT, shownP, if_pos rfl] at h5; have h6 := h5.1; rw [h6] at h58; simp at h58; done)
                               | (have h5 := hc.2.2; rw [decide_eq_false hT, shownP, if_neg (by decide)] at h5; have h6 := h5.1; rw [h6] at h58; simp at h58; done)
                               | (have h5 := hc.2.2; rw [decide_eq_true hT, shownP, if_pos rfl] at h5; first | exact hN h5.2.1 | exact hS h5.2.2.1 | exact hC h5.2.2.2.1 | exact h100 h5.2.2.2.2)
                               | (have h5 := hc.2.2; rw [decide_eq_false hT, shownP, if_neg (by decide)] at h5; first | exact h72 h5.2.1 | (have h6 := h5.2.2; rw [decide_eq_true h6] at hg3; simp at hg3; done))
                           obtain ⟨q1, q2⟩ := ask_15 hyes hep hno
                           exact ret2c rfl (by first | exact st.reads 1 rfl TF.t48 (getV_all rfl) | exact st.reads 2 rfl TF.t48 (getV_all rfl)) rfl ((st.keepOnly (l := []) (List.nil_sublist _)).out ⟨_, by rw [q1]; rfl, by rw [q2]; exact fd0_M⟩))
                    · refine wc_skip ?_
                      refine then_go ?_
                      refine wc_seq ?_
                      have hz : a.bind.name = [] ∧ a.bind.key.length = 0 ∧ a.bind.serial = 0 := by simpa using hg3
                      have hb0 := bd0_of hz.1 hz.2.1 hz.2.2
                      have hallF : askOk x name e a := ⟨hae, hpr, by rw [decide_eq_false hT, shownP, if_neg (by decide)]; exact ⟨by simpa using h58, Decidable.not_not.1 h72, hz⟩⟩
                      refine wc_region ?_
                      refine wl_val (v_move' (by conv => (lhs; whnf))) rfl ?_
                      refine wl_val (v_build (c' := (fdC ⟨e, false, bd0⟩ (.slice none 0 0)).toArray) [(0, u64 e)] TF.z48 TF.p48 rfl fill_fd1) rfl ?_
                      refine wl_storeW (cs := (fdC ⟨e, false, bd0⟩ (.slice none 0 0)).toArray) 2 st rfl TF.t48 rfl rfl rfl rfl (one_fdC rfl) ?_
                      intro w st
                      refine wl_val (v_assign' (by conv => (lhs; whnf))) rfl ?_
                      refine wl_nil ?_
                      refine then_go ?_
                      refine wc_ret (then_ret ?_)
                      first
                        | (obtain ⟨q1, q2⟩ := ask_0 hyes hep hallT
                           exact ret2c rfl (st.reads (v := .agg (fdC ⟨e, true, a.bind⟩ (.slice ka a.bind.key.length kc)).toArray) 2 rfl TF.t48 (getV_all rfl)) rfl ((st.keepOnly (l := []) (List.nil_sublist _)).out ⟨_, by rw [q1]; rfl, by rw [q2, decide_eq_true hT]; exact ⟨_, rfl, hok.key, hok.name⟩⟩))
                        | (obtain ⟨q1, q2⟩ := ask_0 hyes hep hallF
                           exact ret2c rfl (st.reads (v := .agg (fdC ⟨e, false, bd0⟩ (.slice none 0 0)).toArray) 2 rfl TF.t48 (getV_all rfl)) rfl ((st.keepOnly (l := []) (List.nil_sublist _)).out ⟨_, by rw [q1]; rfl, by rw [q2, decide_eq_false hT, hb0]; exact ⟨_, rfl, SlM.nil, Nat.zero_le _⟩⟩))
                        | (have hno : ¬ askOk x name e a := by
                             intro hc
                             first
                               | exact hg2 (show chkE (rootAt x e) a.index a.proof = 0 by rw [chkE, if_pos hc.2.1])
                               | exact hg8 (show (a.epoch.toNat : Int) = (e.toNat : Int) by rw [hc.1])
                               | (have h5 := hc.2.2; rw [decide_eq_true hT, shownP, if_pos rfl] at h5; have h6 := h5.1; rw [h6] at h58; simp at h58; done)
                               | (have h5 := hc.2.2; rw [decide_eq_false hT, shownP, if_neg (by decide)] at h5; have h6 := h5.1; rw [h6] at h58; simp at h58; done)
                               | (have h5 := hc.2.2; rw [decide_eq_true hT, shownP, if_pos rfl] at h5; first | exact hN h5.2.1 | exact hS h5.2.2.1 | exact hC h5.2.2.2.1 | exact h100 h5.2.2.2.2)
                               | (have h5 := hc.2.2; rw [decide_eq_false hT, shownP, if_neg (by decide)] at h5; first | exact h72 h5.2.1 | (have h6 := h5.2.2; rw [decide_eq_true h6] at hg3; simp at hg3; done))
                           obtain ⟨q1, q2⟩ := ask_15 hyes hep hno
                           exact ret2c rfl (by first | exact st.reads 1 rfl TF.t48 (getV_all rfl) | exact st.reads 2 rfl TF.t48 (getV_all rfl)) rfl ((st.keepOnly (l := []) (List.nil_sublist _)).out ⟨_, by rw [q1]; rfl, by rw [q2]; exact fd0_M⟩))
        refine fl_val 0 rfl (fun _ => (v_fa TF.f29_2 rfl)) rfl (by kernel_rfl) ?_
        refine fl_ld 1 rfl (v_load rfl (by first | exact st.reads (v := .slice (some ⟨rb, ro, none⟩) x.roots.length rc) (b := b4) (c := (vwC x.pin x.head (.slice (some ⟨rb, ro, none⟩) x.roots.length rc)).toArray) 2 rfl TF.t27 (vw_r hp hh) | exact st.reads (v := .slice (some ⟨rb, ro, none⟩) x.roots.length rc) (b := b4) (c := (vwC x.pin x.head (.slice (some ⟨rb, ro, none⟩) x.roots.length rc)).toArray) 3 rfl TF.t27 (vw_r hp hh))) (by kernel_rfl) ?_
        refine fl_val 2 rfl (fun _ => (v_move' (by conv => (lhs; whnf)))) rfl (by kernel_rfl) ?_
        refine fl_val 3 rfl (fun _ => (v_to (v' := .int .u64 ((e.toNat - 1 : Nat) : Int)) (v_sub rfl rfl) (by rw [show ((e.toNat : Int) - 1) = ((e.toNat - 1 : Nat) : Int) by omega, wrap_u64_small (by omega)]))) rfl (by kernel_rfl) ?_
        refine fl_val 4 rfl (fun _ => (v_ias (e.toNat - 1) Try.underlying27 TF.t55 rfl rfl (by first | rfl | omega) (by first | omega | (dsimp only at *; omega)))) rfl (by kernel_rfl) ?_
        refine fl_val 5 rfl (fun _ => (v_fa TF.f55_2 rfl)) rfl (by kernel_rfl) ?_
        refine fl_ld 6 rfl (v_load rfl (hrt.rd (v' := arr (rootAt x e)) rfl hj (by decide) TF.t23 (by rw [hroot]; exact (getRt hok1).2.1) st.im)) (by kernel_rfl) ?_
        refine fl_val 7 rfl (fun _ => (v_fa TF.f45_1 rfl)) rfl (by kernel_rfl) ?_
        refine fl_ld 8 rfl (v_load rfl (by first | exact st.reads (v := arr a.index) (b := b7) (c := (awC a sv (.slice ka a.bind.key.length kc)).toArray) 1 rfl TF.t23 (aw_i hok) | exact st.reads (v := arr a.index) (b := b7) (c := (awC a sv (.slice ka a.bind.key.length kc)).toArray) 2 rfl TF.t23 (aw_i hok))) (by kernel_rfl) ?_
        refine fl_val 9 rfl (fun _ => (v_fa TF.f45_2 rfl)) rfl (by kernel_rfl) ?_
        refine fl_ld 10 rfl (v_load rfl (by first | exact st.reads (v := .agg (prC sv a.proof.E a.proof.I a.proof.V)) (b := b7) (c := (awC a sv (.slice ka a.bind.key.length kc)).toArray) 1 rfl TF.t40 (aw_p hok) | exact st.reads (v := .agg (prC sv a.proof.E a.proof.I a.proof.V)) (b := b7) (c := (awC a sv (.slice ka a.bind.key.length kc)).toArray) 2 rfl TF.t40 (aw_p hok))) (by kernel_rfl) ?_
        refine fl_effs [11, 16] (by kernel_rfl) ⟨obl_ld rfl rfl rfl (v_load rfl (by first | exact st.reads (v := .agg (prC sv a.proof.E a.proof.I a.proof.V)) (b := b7) (c := (awC a sv (.slice ka a.bind.key.length kc)).toArray) 1 rfl TF.t40 (aw_p hok) | exact st.reads (v := .agg (prC sv a.proof.E a.proof.I a.proof.V)) (b := b7) (c := (awC a sv (.slice ka a.bind.key.length kc)).toArray) 2 rfl TF.t40 (aw_p hok))), obl_ld rfl rfl rfl (v_load rfl (by first | exact st.reads (v := arr a.index) (b := b7) (c := (awC a sv (.slice ka a.bind.key.length kc)).toArray) 1 rfl TF.t23 (aw_i hok) | exact st.reads (v := arr a.index) (b := b7) (c := (awC a sv (.slice ka a.bind.key.length kc)).toArray) 2 rfl TF.t23 (aw_i hok))), obl_ld rfl rfl rfl (v_load rfl (hrt.rd (v' := arr (rootAt x e)) rfl hj (by decide) TF.t23 (by rw [hroot]; exact (getRt hok1).2.1) st.im)), obl_ld rfl rfl rfl (v_load rfl (by first | exact st.reads (v := .slice (some ⟨rb, ro, none⟩) x.roots.length rc) (b := b4) (c := (vwC x.pin x.head (.slice (some ⟨rb, ro, none⟩) x.roots.length rc)).toArray) 2 rfl TF.t27 (vw_r hp hh) | exact st.reads (v := .slice (some ⟨rb, ro, none⟩) x.roots.length rc) (b := b4) (c := (vwC x.pin x.head (.slice (some ⟨rb, ro, none⟩) x.roots.length rc)).toArray) 3 rfl TF.t27 (vw_r hp hh))), trivial⟩ (all2 ?_ ?_)
        · refine stepE 11 (pure' := [9, 7, 5, 4, 3, 2, 0]) (lds' := [1]) rfl (by kernel_rfl) (by kernel_rfl) ?_
          refine wl_call rfl (c_rpcheck st.im hrl hok.idx ⟨_, rfl, hok.sibs, hok.pI, hok.pV⟩) rfl ?_
          rintro v45 w ⟨t45, m2, hg2, hi2, rfl⟩
          have st := st.grown hg2 t45 hi2
          have hok := hok.mono hg2.le
          have hrt := hrt.mono hg2.le
          refine wl_nil ⟨rfl, ?_⟩
          refine fl_val 12 rfl (fun _ => (v_move' (by conv => (lhs; whnf)))) rfl (by kernel_rfl) ?_
          refine fl_val 13 rfl (fun _ => (v_extract rfl rfl)) rfl (by kernel_rfl) ?_
          refine fl_val 14 rfl (fun _ => (v_extract rfl rfl)) rfl (by kernel_rfl) ?_
          refine fl_val 15 rfl (fun _ => (v_extract rfl rfl)) rfl (by kernel_rfl) ?_
          refine fl_eff1 16 [15, 14, 13, 12, 9, 7, 5, 4, 3, 2, 0] [1] (by kernel_rfl) ⟨obl_ld rfl rfl rfl (v_load rfl (by first | exact st.reads (v := .slice (some ⟨rb, ro, none⟩) x.roots.length rc) (b := b4) (c := (vwC x.pin x.head (.slice (some ⟨rb, ro, none⟩) x.roots.length rc)).toArray) 2 rfl TF.t27 (vw_r hp hh) | exact st.reads (v := .slice (some ⟨rb, ro, none⟩) x.roots.length rc) (b := b4) (c := (vwC x.pin x.head (.slice (some ⟨rb, ro, none⟩) x.roots.length rc)).toArray) 3 rfl TF.t27 (vw_r hp hh))), trivial⟩ rfl ?_
          refine wl_alloc TF.z23 st rfl ?_
          intro b10 w st
          refine wl_nil ⟨rfl, ?_⟩
          refine FL.permB [16, 15, 14, 13, 12, 11, 10, 9, 8, 7, 6, 5, 4, 3, 2, 1, 0] [15, 14, 13, 12, 9, 7, 5, 4, 3, 2, 0] [1] (by kernel_rfl) ?_
          exact fin _ _ _ _ rfl rfl rfl rfl rfl rfl rfl rfl rfl rfl rfl hok st
        · refine stepE 16 (pure' := [9, 7, 5, 4, 3, 2, 0]) (lds' := [10, 8, 6, 1]) rfl (by kernel_rfl) (by kernel_rfl) ?_
          refine wl_alloc TF.z23 st rfl ?_
          intro b10 w st
          refine wl_nil ⟨rfl, ?_⟩
          refine fl_eff1 11 [9, 7, 5, 4, 3, 2, 0] [1] (by kernel_rfl) ⟨obl_ld rfl rfl rfl (v_load rfl (by first | exact st.reads (v := .agg (prC sv a.proof.E a.proof.I a.proof.V)) (b := b7) (c := (awC a sv (.slice ka a.bind.key.length kc)).toArray) 1 rfl TF.t40 (aw_p hok) | exact st.reads (v := .agg (prC sv a.proof.E a.proof.I a.proof.V)) (b := b7) (c := (awC a sv (.slice ka a.bind.key.length kc)).toArray) 2 rfl TF.t40 (aw_p hok))), obl_ld rfl rfl rfl (v_load rfl (by first | exact st.reads (v := arr a.index) (b := b7) (c := (awC a sv (.slice ka a.bind.key.length kc)).toArray) 1 rfl TF.t23 (aw_i hok) | exact st.reads (v := arr a.index) (b := b7) (c := (awC a sv (.slice ka a.bind.key.length kc)).toArray) 2 rfl TF.t23 (aw_i hok))), obl_ld rfl rfl rfl (v_load rfl (hrt.rd (v' := arr (rootAt x e)) rfl hj (by decide) TF.t23 (by rw [hroot]; exact (getRt hok1).2.1) st.im)), obl_ld rfl rfl rfl (v_load rfl (by first | exact st.reads (v := .slice (some ⟨rb, ro, none⟩) x.roots.length rc) (b := b4) (c := (vwC x.pin x.head (.slice (some ⟨rb, ro, none⟩) x.roots.length rc)).toArray) 2 rfl TF.t27 (vw_r hp hh) | exact st.reads (v := .slice (some ⟨rb, ro, none⟩) x.roots.length rc) (b := b4) (c := (vwC x.pin x.head (.slice (some ⟨rb, ro, none⟩) x.roots.length rc)).toArray) 3 rfl TF.t27 (vw_r hp hh))), trivial⟩ rfl ?_
          refine wl_call rfl (c_rpcheck st.im hrl hok.idx ⟨_, rfl, hok.sibs, hok.pI, hok.pV⟩) rfl ?_
          rintro v45 w ⟨t45, m2, hg2, hi2, rfl⟩
          have st := st.grown hg2 t45 hi2
          have hok := hok.mono hg2.le
          have hrt := hrt.mono hg2.le
          refine wl_nil ⟨rfl, ?_⟩
          refine fl_val 12 rfl (fun _ => (v_move' (by conv => (lhs; whnf)))) rfl (by kernel_rfl) ?_
          refine fl_val 13 rfl (fun _ => (v_extract rfl rfl)) rfl (by kernel_rfl) ?_
          refine fl_val 14 rfl (fun _ => (v_extract rfl rfl)) rfl (by kernel_rfl) ?_
          refine fl_val 15 rfl (fun _ => (v_extract rfl rfl)) rfl (by kernel_rfl) ?_
          refine FL.permB [16, 15, 14, 13, 12, 11, 10, 9, 8, 7, 6, 5, 4, 3, 2, 1, 0] [15, 14, 13, 12, 9, 7, 5, 4, 3, 2, 0] [1] (by kernel_rfl) ?_
          exact fin _ _ _ _ rfl rfl rfl rfl rfl rfl rfl rfl rfl rfl rfl hok st
end
end Go.Proofs.Ytjjpakjgppmmdaa

namespace Go.Proofs.Ytjjpakjgppmmdaa
open Go Go.RowKit K SH PT
theorem learnG_len : ∀ {L : List Sg} {x : Vw}, (∀ s ∈ L, s.root.ok) → (learnG x L).1.roots.length ≤ x.roots.length + L.length
 | [], x, _ => by simp [learnG]
 | s :: L, x, h => by
  rw [learnG]
  split
  ·have h1 : (lrnV x s).roots.length ≤ x.roots.length + 1 := by
    unfold lrnV
    split
    ·omega
    ·simp
   have h2 := learnG_len (L := L) (x := lrnV x s) fun y hy => h y (by simp [hy])
   rw [List.length_cons]
   omega
  ·simp [vw0]
theorem Bd.eq_of {a b : Bd} (h1 : a.name = b.name) (h2 : (a.serial.toNat : Int) = (b.serial.toNat : Int)) (h3 : a.key = b.key) : a = b := by
 obtain ⟨an, ak, az⟩ := a
 obtain ⟨bn, bk, bz⟩ := b
 have h4 : az = bz := UInt64.toNat_inj.1 (Int.ofNat_inj.1 h2)
 simp at h1 h3
 rw [h1, h3, h4]
theorem Fd.eq_of {a b : Fd} (h1 : (a.epoch.toNat : Int) = (b.epoch.toNat : Int)) (h2 : (a.there == b.there) = true) (h3 : a.bind = b.bind) : a = b := by
 obtain ⟨an, ak, az⟩ := a
 obtain ⟨bn, bk, bz⟩ := b
 have h4 : an = bn := UInt64.toNat_inj.1 (Int.ofNat_inj.1 h1)
 simp at h2 h3
 rw [h2, h3, h4]
section
variable {m : Mem} {wI : World}
theorem c_samebind {v1 v2 : Value} {a b : Bd} (him : Im m wI) (h1 : BdM m v1 a) (h2 : BdM m v2 b) :
    Ret Try.prog 57 #[v1, v2] wI fun v' w' => Tch wI w' [] [] ∧ v' = .bool (decide (a = b)) := by
  have st := St.start him
  obtain ⟨kv, rfl, hk, hn⟩ := h1
  obtain ⟨kw, rfl, hl, hm⟩ := h2
  refine ret_of Try.call57 Try.func57 rfl Try.ntmps57 Try.results57 rfl ?_
  refine wc_seq ?_
  refine wc_region ?_
  refine wl_box (v := .agg (bdC a kv).toArray) rfl st rfl ?_
  intro b2 w st
  refine wl_box (v := .agg (bdC b kw).toArray) rfl st rfl ?_
  intro b3 w st
  refine wl_val (v_assign' (by conv => (lhs; whnf))) rfl ?_
  refine wl_nil ?_
  refine then_go ?_
  refine wc_seq ?_
  refine wc_region ?_
  refine wl_val (v_fa TF.f43_0 rfl) rfl ?_
  refine wl_val (v_load rfl (st.reads (v := .string (strB a.name)) 1 rfl TF.t9 rfl)) rfl ?_
  refine wl_val (v_fa TF.f43_0 rfl) rfl ?_
  refine wl_val (v_load rfl (st.reads (v := .string (strB b.name)) 0 rfl TF.t9 rfl)) rfl ?_
  refine wl_val (v_eqs rfl rfl) rfl ?_
  refine wl_val (v_move' (by conv => (lhs; whnf))) rfl ?_
  by_cases hg5 : a.name = b.name
  · rw [show decide (a.name = b.name) = true from decide_eq_true hg5]
    refine wl_on rfl rfl ?_
    refine wl_val (v_fa TF.f43_2 rfl) rfl ?_
    refine wl_on rfl rfl ?_
    refine wl_val (v_load rfl (st.reads (v := u64 a.serial) 1 rfl TF.t24 rfl)) rfl ?_
    refine wl_on rfl rfl ?_
    refine wl_val (v_fa TF.f43_2 rfl) rfl ?_
    refine wl_on rfl rfl ?_
    refine wl_val (v_load rfl (st.reads (v := u64 b.serial) 0 rfl TF.t24 rfl)) rfl ?_
    refine wl_on rfl rfl ?_
    refine wl_val (v_eql rfl rfl) rfl ?_
    refine wl_val (v_pick rfl) rfl ?_
    refine wl_val (v_move' (by conv => (lhs; whnf))) rfl ?_
    by_cases hg12 : (a.serial.toNat : Int) = (b.serial.toNat : Int)
    · rw [show decide ((a.serial.toNat : Int) = (b.serial.toNat : Int)) = true from decide_eq_true hg12]
      refine wl_on rfl rfl ?_
      refine wl_val (v_fa TF.f43_1 rfl) rfl ?_
      refine wl_on rfl rfl ?_
      refine wl_val (v_load rfl (st.reads (v := kv) 1 rfl TF.t41 rfl)) rfl ?_
      refine wl_on rfl rfl ?_
      refine wl_val (v_b2s Try.underlying41 Try.underlying5 Try.underlying9 st.im hk rfl) rfl ?_
      refine wl_on rfl rfl ?_
      refine wl_val (v_fa TF.f43_1 rfl) rfl ?_
      refine wl_on rfl rfl ?_
      refine wl_val (v_load rfl (st.reads (v := kw) 0 rfl TF.t41 rfl)) rfl ?_
      refine wl_on rfl rfl ?_
      refine wl_val (v_b2s Try.underlying41 Try.underlying5 Try.underlying9 st.im hl rfl) rfl ?_
      refine wl_on rfl rfl ?_
      refine wl_val (v_eqs rfl rfl) rfl ?_
      refine wl_val (v_pick rfl) rfl ?_
      refine wl_val (v_assign' (by conv => (lhs; whnf))) rfl ?_
      refine wl_nil ?_
      refine then_go ?_
      refine wc_ret ?_
      refine ret1 rfl ⟨(st.keepOnly (l := []) (List.nil_sublist _)).touch, ?_⟩
      first
        | (have e : decide (a = b) = decide (a.key = b.key) := decide_eq_decide.2 ⟨fun h => by rw [h], fun h => Bd.eq_of hg5 hg12 h⟩
           rw [e]; rfl)
        | (rw [show decide (a = b) = false from decide_eq_false (fun hc => by first | exact hg5 (show a.name = b.name by rw [hc]) | exact hg12 (show (a.serial.toNat : Int) = (b.serial.toNat : Int) by rw [hc]))]; rfl)
    · rw [show decide ((a.serial.toNat : Int) = (b.serial.toNat : Int)) = false from decide_eq_false hg12]
      refine wl_off rfl rfl rfl rfl ?_
      refine wl_off rfl rfl rfl rfl ?_
      refine wl_off rfl rfl rfl rfl ?_
      refine wl_off rfl rfl rfl rfl ?_
      refine wl_off rfl rfl rfl rfl ?_
      refine wl_off rfl rfl rfl rfl ?_
      refine wl_off rfl rfl rfl rfl ?_
      refine wl_val (v_pick rfl) rfl ?_
      refine wl_val (v_assign' (by conv => (lhs; whnf))) rfl ?_
      refine wl_nil ?_
      refine then_go ?_
      refine wc_ret ?_
      refine ret1 rfl ⟨(st.keepOnly (l := []) (List.nil_sublist _)).touch, ?_⟩
      first
        | (have e : decide (a = b) = decide (a.key = b.key) := decide_eq_decide.2 ⟨fun h => by rw [h], fun h => Bd.eq_of hg5 hg12 h⟩
           rw [e]; rfl)
        | (rw [show decide (a = b) = false from decide_eq_false (fun hc => by first | exact hg5 (show a.name = b.name by rw [hc]) | exact hg12 (show (a.serial.toNat : Int) = (b.serial.toNat : Int) by rw [hc]))]; rfl)
  · rw [show decide (a.name = b.name) = false from decide_eq_false hg5]
    refine wl_off rfl rfl rfl rfl ?_
    refine wl_off rfl rfl rfl rfl ?_
    refine wl_off rfl rfl rfl rfl ?_
    refine wl_off rfl rfl rfl rfl ?_
    refine wl_off rfl rfl rfl rfl ?_
    refine wl_val (v_pick rfl) rfl ?_
    refine wl_val (v_move' (by conv => (lhs; whnf))) rfl ?_
    refine wl_off rfl rfl rfl rfl ?_
    refine wl_off rfl rfl rfl rfl ?_
    refine wl_off rfl rfl rfl rfl ?_
    refine wl_off rfl rfl rfl rfl ?_
    refine wl_off rfl rfl rfl rfl ?_
    refine wl_off rfl rfl rfl rfl ?_
    refine wl_off rfl rfl rfl rfl ?_
    refine wl_val (v_pick rfl) rfl ?_
    refine wl_val (v_assign' (by conv => (lhs; whnf))) rfl ?_
    refine wl_nil ?_
    refine then_go ?_
    refine wc_ret ?_
    refine ret1 rfl ⟨(st.keepOnly (l := []) (List.nil_sublist _)).touch, ?_⟩
    first
      | (have e : decide (a = b) = decide (a.key = b.key) := decide_eq_decide.2 ⟨fun h => by rw [h], fun h => Bd.eq_of hg5 hg12 h⟩
         rw [e]; rfl)
      | (rw [show decide (a = b) = false from decide_eq_false (fun hc => by first | exact hg5 (show a.name = b.name by rw [hc]) | exact hg12 (show (a.serial.toNat : Int) = (b.serial.toNat : Int) by rw [hc]))]; rfl)
theorem fdB {f : Fd} {kv : Value} : getV true 3 (fdC f kv).toArray 2 = some (.agg (bdC f.bind kv).toArray) := rfl
theorem c_samefound {v1 v2 : Value} {a b : Fd} (him : Im m wI) (h1 : FdM m v1 a) (h2 : FdM m v2 b) :
    Ret Try.prog 22 #[v1, v2] wI fun v' w' => Tch wI w' [] [] ∧ v' = .bool (decide (a = b)) := by
  have st := St.start him
  obtain ⟨kv, rfl, hk, hn⟩ := h1
  obtain ⟨kw, rfl, hl, hm⟩ := h2
  refine ret_of Try.call22 Try.func22 rfl Try.ntmps22 Try.results22 rfl ?_
  refine wc_seq ?_
  refine wc_region ?_
  refine wl_box (v := .agg (fdC a kv).toArray) rfl st rfl ?_
  intro b2 w st
  refine wl_box (v := .agg (fdC b kw).toArray) rfl st rfl ?_
  intro b3 w st
  refine wl_val (v_assign' (by conv => (lhs; whnf))) rfl ?_
  refine wl_nil ?_
  refine then_go ?_
  refine wc_seq ?_
  refine wc_region ?_
  refine wl_val (v_fa TF.f48_0 rfl) rfl ?_
  refine wl_val (v_load rfl (st.reads (v := u64 a.epoch) 1 rfl TF.t24 rfl)) rfl ?_
  refine wl_val (v_fa TF.f48_0 rfl) rfl ?_
  refine wl_val (v_load rfl (st.reads (v := u64 b.epoch) 0 rfl TF.t24 rfl)) rfl ?_
  refine wl_val (v_eql rfl rfl) rfl ?_
  refine wl_val (v_move' (by conv => (lhs; whnf))) rfl ?_
  by_cases hg5 : (a.epoch.toNat : Int) = (b.epoch.toNat : Int)
  · rw [show decide ((a.epoch.toNat : Int) = (b.epoch.toNat : Int)) = true from decide_eq_true hg5]
    refine wl_on rfl rfl ?_
    refine wl_val (v_fa TF.f48_1 rfl) rfl ?_
    refine wl_on rfl rfl ?_
    refine wl_val (v_load rfl (st.reads (v := .bool a.there) 1 rfl TF.t4 rfl)) rfl ?_
    refine wl_on rfl rfl ?_
    refine wl_val (v_fa TF.f48_1 rfl) rfl ?_
    refine wl_on rfl rfl ?_
    refine wl_val (v_load rfl (st.reads (v := .bool b.there) 0 rfl TF.t4 rfl)) rfl ?_
    refine wl_on rfl rfl ?_
    refine wl_val (v_eqb Try.underlying4 rfl rfl) rfl ?_
    refine wl_val (v_pick rfl) rfl ?_
    refine wl_val (v_move' (by conv => (lhs; whnf))) rfl ?_
    rcases Bool.eq_false_or_eq_true (a.there == b.there) with hg12 | hg12
    · rw [hg12]
      refine wl_on rfl rfl ?_
      refine wl_val (v_fa TF.f48_2 rfl) rfl ?_
      refine wl_on rfl rfl ?_
      refine wl_val (v_load rfl (st.reads (v := .agg (bdC a.bind kv).toArray) 1 rfl TF.t43 fdB)) rfl ?_
      refine wl_on rfl rfl ?_
      refine wl_val (v_fa TF.f48_2 rfl) rfl ?_
      refine wl_on rfl rfl ?_
      refine wl_val (v_load rfl (st.reads (v := .agg (bdC b.bind kw).toArray) 0 rfl TF.t43 fdB)) rfl ?_
      refine wl_on rfl rfl ?_
      refine wl_call rfl (c_samebind st.im ⟨_, rfl, hk, hn⟩ ⟨_, rfl, hl, hm⟩) rfl ?_
      rintro v22 w ⟨t22, rfl⟩
      have st := st.pure t22
      refine wl_val (v_pick rfl) rfl ?_
      refine wl_val (v_assign' (by conv => (lhs; whnf))) rfl ?_
      refine wl_nil ?_
      refine then_go ?_
      refine wc_ret ?_
      refine ret1 rfl ⟨(st.keepOnly (l := []) (List.nil_sublist _)).touch, ?_⟩
      first
        | (have e : decide (a = b) = decide (a.bind = b.bind) := decide_eq_decide.2 ⟨fun h => by rw [h], fun h => Fd.eq_of hg5 hg12 h⟩
           rw [e]; rfl)
        | (rw [show decide (a = b) = false from decide_eq_false (fun hc => by first | exact hg5 (show (a.epoch.toNat : Int) = (b.epoch.toNat : Int) by rw [hc]) | (rw [hc] at hg12; simp at hg12; done))]; rfl)
    · rw [hg12]
      refine wl_off rfl rfl rfl rfl ?_
      refine wl_off rfl rfl rfl rfl ?_
      refine wl_off rfl rfl rfl rfl ?_
      refine wl_off rfl rfl rfl rfl ?_
      refine wl_off rfl rfl rfl rfl ?_
      refine wl_val (v_pick rfl) rfl ?_
      refine wl_val (v_assign' (by conv => (lhs; whnf))) rfl ?_
      refine wl_nil ?_
      refine then_go ?_
      refine wc_ret ?_
      refine ret1 rfl ⟨(st.keepOnly (l := []) (List.nil_sublist _)).touch, ?_⟩
      first
        | (have e : decide (a = b) = decide (a.bind = b.bind) := decide_eq_decide.2 ⟨fun h => by rw [h], fun h => Fd.eq_of hg5 hg12 h⟩
           rw [e]; rfl)
        | (rw [show decide (a = b) = false from decide_eq_false (fun hc => by first | exact hg5 (show (a.epoch.toNat : Int) = (b.epoch.toNat : Int) by rw [hc]) | (rw [hc] at hg12; simp at hg12; done))]; rfl)
  · rw [show decide ((a.epoch.toNat : Int) = (b.epoch.toNat : Int)) = false from decide_eq_false hg5]
    refine wl_off rfl rfl rfl rfl ?_
    refine wl_off rfl rfl rfl rfl ?_
    refine wl_off rfl rfl rfl rfl ?_
    refine wl_off rfl rfl rfl rfl ?_
    refine wl_off rfl rfl rfl rfl ?_
    refine wl_val (v_pick rfl) rfl ?_
    refine wl_val (v_move' (by conv => (lhs; whnf))) rfl ?_
    refine wl_off rfl rfl rfl rfl ?_
    refine wl_off rfl rfl rfl rfl ?_
    refine wl_off rfl rfl rfl rfl ?_
    refine wl_off rfl rfl rfl rfl ?_
    refine wl_off rfl rfl rfl rfl ?_
    refine wl_val (v_pick rfl) rfl ?_
    refine wl_val (v_assign' (by conv => (lhs; whnf))) rfl ?_
    refine wl_nil ?_
    refine then_go ?_
    refine wc_ret ?_
    refine ret1 rfl ⟨(st.keepOnly (l := []) (List.nil_sublist _)).touch, ?_⟩
    first
      | (have e : decide (a = b) = decide (a.bind = b.bind) := decide_eq_decide.2 ⟨fun h => by rw [h], fun h => Fd.eq_of hg5 hg12 h⟩
         rw [e]; rfl)
      | (rw [show decide (a = b) = false from decide_eq_false (fun hc => by first | exact hg5 (show (a.epoch.toNat : Int) = (b.epoch.toNat : Int) by rw [hc]) | (rw [hc] at hg12; simp at hg12; done))]; rfl)
end
end Go.Proofs.Ytjjpakjgppmmdaa

namespace Go.Proofs.Ytjjpakjgppmmdaa
open Go Go.RowKit K SH PT
def ann : By := [97, 110, 110]
def pin1 : By := 1 :: List.replicate 31 0
theorem okName_ann : okName ann := by decide
theorem fill_pin : FillR (fun i => some (i * 1, 1)) (Value.agg (List.replicate 32 (Value.int .u8 0)).toArray).cells [(0, u8 1)] (bs pin1).toArray := by
 refine fill_one [] [u8 0] (bs (List.replicate 31 0)) rfl rfl rfl ?_
 rfl
theorem v_pin1 {r : Fr} {w : World} {ty : TypeId} {x : Operand} (hx : ev r x = u8 1) : Val Try.prog (.build 23 #[(0, x)]) ty r w (arr pin1) w :=
 v_build_a (c' := (bs pin1).toArray) [(0, u8 1)] TF.z23 Try.underlying23 TF.t5 (by simp [hx]) fill_pin
end Go.Proofs.Ytjjpakjgppmmdaa

namespace Go.Proofs.Ytjjpakjgppmmdaa
open Go Go.RowKit K SH PT
section
variable {m : Mem} {wI : World}
theorem VwM.sz {m : Mem} {v : Value} {x : Vw} (h : VwM m v x) : ∃ rv, v = .agg (vwC x.pin x.head rv).toArray ∧ rv.oneCell' = true ∧ (vwC x.pin x.head rv).length = 98 := by
 obtain ⟨rv, h1, hr, hp, hh, _⟩ := h
 exact ⟨rv, h1, by obtain ⟨_, _, h⟩ := hr.sl; rw [h]; rfl, length_vwC hp hh⟩
theorem FdM.sz {m : Mem} {v : Value} {f : Fd} (h : FdM m v f) : ∃ kv, v = .agg (fdC f kv).toArray ∧ kv.oneCell' = true := by
 obtain ⟨kv, h1, h2, _⟩ := h
 exact ⟨kv, h1, by obtain ⟨_, _, _, h, _⟩ := h2; rw [h]; rfl⟩
end
end Go.Proofs.Ytjjpakjgppmmdaa

namespace Go.Proofs.Ytjjpakjgppmmdaa
open Go Go.RowKit K SH PT
def clashP (a b : By) : Prop := a ≠ b ∧ sum a = sum b
instance {a b : By} : Decidable (clashP a b) := by unfold clashP; infer_instance
section
variable {m : Mem} {wI : World}
theorem c_beq {v1 v2 : Value} {a b : By} (him : Im m wI) (h1 : SlM m v1 1 a.length (bs a)) (h2 : SlM m v2 1 b.length (bs b)) :
  Ret Try.prog 63 #[v1, v2] wI fun v' w' => Tch wI w' [] [] ∧ v' = .bool (decide (a = b)) := by
 have st := St.start him
 refine ret_of Try.call63 Try.func63 rfl Try.ntmps63 Try.results63 rfl ?_
 refine wc_seq ?_
 refine wc_region ?_
 refine wl_val (v_assign' (by conv => (lhs; whnf))) rfl ?_
 refine wl_nil ?_
 refine then_go ?_
 refine wc_seq ?_
 refine wc_region ?_
 refine wl_val (v_move' (by conv => (lhs; whnf))) rfl ?_
 refine wl_val (v_b2s Try.underlying41 Try.underlying5 Try.underlying9 st.im h1 rfl) rfl ?_
 refine wl_val (v_move' (by conv => (lhs; whnf))) rfl ?_
 refine wl_val (v_b2s Try.underlying41 Try.underlying5 Try.underlying9 st.im h2 rfl) rfl ?_
 refine wl_val (v_eqs rfl rfl) rfl ?_
 refine wl_val (v_assign' (by conv => (lhs; whnf))) rfl ?_
 refine wl_nil ?_
 refine then_go ?_
 refine wc_ret ?_
 exact ret1 rfl ⟨st.touch, rfl⟩
end
end Go.Proofs.Ytjjpakjgppmmdaa

namespace Go.Proofs.Ytjjpakjgppmmdaa
open Go Go.RowKit K SH PT
def nextE (a b : Fd) : Int := if a.there = false then 0 else if b.there = false ∨ b.bind.serial.toNat < a.bind.serial.toNat ∨ (b.bind.serial.toNat = a.bind.serial.toNat ∧ ¬ a.bind.key = b.bind.key) then 8 else 0
abbrev AwT := Aw × Value × Value
def awP (p : AwT) : List Value := awC p.1 p.2.1 p.2.2
def AwsM (m : Mem) (v : Value) (L : List AwT) : Prop := LsM m v awP 135 L ∧ ∀ p ∈ L, AwOk m p.1 p.2.1 p.2.2
theorem AwsM.mono {m m' : Mem} {v : Value} {L : List AwT} (h : AwsM m v L) (hm : ∀ k o, m k = some o → m' k = some o) : AwsM m' v L := ⟨h.1.mono hm, fun p hp => (h.2 p hp).mono hm⟩
abbrev FdT := Fd × Value
def fdP (p : FdT) : List Value := fdC p.1 p.2
def keyM (m : Mem) (p : FdT) : Prop := SlM m p.2 1 p.1.bind.key.length (bs p.1.bind.key) ∧ p.1.bind.name.length ≤ 9223372036854775807
theorem keyM.mono {m m' : Mem} {p : FdT} (h : keyM m p) (hm : ∀ k o, m k = some o → m' k = some o) : keyM m' p := ⟨h.1.mono hm, h.2⟩
def FdsM (m : Mem) (v : Value) (L : List FdT) : Prop := LsM m v fdP 5 L ∧ ∀ p ∈ L, keyM m p
theorem FdsM.mono {m m' : Mem} {v : Value} {L : List FdT} (h : FdsM m v L) (hm : ∀ k o, m k = some o → m' k = some o) : FdsM m' v L := ⟨h.1.mono hm, fun p hp => (h.2 p hp).mono hm⟩
theorem FdsM.nil {m : Mem} : FdsM m (.slice none 0 0) [] := ⟨LsM.nil, by simp⟩
section
variable {m : Mem} {wI : World}
theorem c_next {v1 v2 : Value} {a b : Fd} (him : Im m wI) (h1 : FdM m v1 a) (h2 : FdM m v2 b) :
    Ret Try.prog 29 #[v1, v2] wI fun v' w' => Tch wI w' [] [] ∧ v' = .int .i64 (nextE a b) := by
  have st := St.start him
  obtain ⟨k1, rfl, hk1, _⟩ := h1
  obtain ⟨k2, rfl, hk2, _⟩ := h2
  have ho1 : k1.oneCell' = true := by obtain ⟨_, _, _, h, _⟩ := hk1; rw [h]; rfl
  have ho2 : k2.oneCell' = true := by obtain ⟨_, _, _, h, _⟩ := hk2; rw [h]; rfl
  refine ret_of Try.call29 Try.func29 rfl Try.ntmps29 Try.results29 rfl ?_
  refine wc_seq ?_
  refine wc_region ?_
  refine wl_box (v := .agg (fdC a k1).toArray) rfl st rfl ?_
  intro b2 w st
  refine wl_box (v := .agg (fdC b k2).toArray) rfl st rfl ?_
  intro b3 w st
  refine wl_val (v_assign' (by conv => (lhs; whnf))) rfl ?_
  refine wl_nil ?_
  refine then_go ?_
  refine wc_seq ?_
  refine wc_draw TF.mixed ?_
  have st := st.pure (touch_drew _)
  show FL _ _ ?ops1 ?post1 [] [] [] _ _
  have fin : ∀ (r : Fr) (w : World) (b5 b6 : Nat), r 2 = .pointer (some ⟨b2, 0, none⟩) → r 3 = .pointer (some ⟨b3, 0, none⟩) → r 5 = .pointer (some ⟨b5, 0, none⟩) → r 6 = .pointer (some ⟨b6, 0, none⟩) → r 7 = .pointer (some ⟨b2, 0 + 2, none⟩) → r 8 = .agg (bdC a.bind k1).toArray → r 9 = .pointer (some ⟨b3, 0 + 2, none⟩) → r 10 = .agg (bdC b.bind k2).toArray →
    St m m [] wI w [K.blk b6 (bdC bd0 (.slice none 0 0)).toArray 43, K.blk b5 (bdC bd0 (.slice none 0 0)).toArray 43, K.blk b3 (fdC b k2).toArray 48, K.blk b2 (fdC a k1).toArray 48] → FL Try.prog 41 ?ops1 ?post1 [5, 4, 3, 2, 1, 0] [2, 0] [3, 1] r w := by
    clear st
    rintro r w b5 b6 g2 g3 g5 g6 g7 g8 g9 g10 st
    refine fl_o 2 g2 (fl_o 3 g3 (fl_o 5 g5 (fl_o 6 g6 (fl_o 7 g7 (fl_o 8 g8 (fl_o 9 g9 (fl_o 10 g10 ?_)))))))
    refine fl_eff1 6 [2] [3] (by kernel_rfl) ⟨obl_ld rfl rfl rfl (v_load rfl (by first | exact st.reads (b := b3) (c := (fdC b k2).toArray) (v := .agg (bdC b.bind k2).toArray) 2 rfl TF.t43 fdB | exact st.reads (b := b3) (c := (fdC b k2).toArray) (v := .agg (bdC b.bind k2).toArray) 1 rfl TF.t43 fdB | exact st.reads (b := b3) (c := (fdC b k2).toArray) (v := .agg (bdC b.bind k2).toArray) 0 rfl TF.t43 fdB)), obl_ld rfl rfl rfl (v_load rfl (by first | exact st.reads (b := b2) (c := (fdC a k1).toArray) (v := .agg (bdC a.bind k1).toArray) 3 rfl TF.t43 fdB | exact st.reads (b := b2) (c := (fdC a k1).toArray) (v := .agg (bdC a.bind k1).toArray) 2 rfl TF.t43 fdB | exact st.reads (b := b2) (c := (fdC a k1).toArray) (v := .agg (bdC a.bind k1).toArray) 1 rfl TF.t43 fdB)), trivial⟩ rfl ?_
    refine wl_storeW (cs := (bdC a.bind k1).toArray) 1 st rfl TF.t43 rfl rfl rfl rfl (fun u hu => by simp [bdC] at hu; rcases hu with rfl | rfl | rfl <;> first | rfl | exact ho1) ?_
    intro w st
    refine wl_nil ⟨rfl, ?_⟩
    refine fl_eff1 7 [] [] (by kernel_rfl) ⟨obl_ld rfl rfl rfl (v_load rfl (by first | exact st.reads (b := b3) (c := (fdC b k2).toArray) (v := .agg (bdC b.bind k2).toArray) 2 rfl TF.t43 fdB | exact st.reads (b := b3) (c := (fdC b k2).toArray) (v := .agg (bdC b.bind k2).toArray) 1 rfl TF.t43 fdB | exact st.reads (b := b3) (c := (fdC b k2).toArray) (v := .agg (bdC b.bind k2).toArray) 0 rfl TF.t43 fdB)), trivial⟩ rfl ?_
    refine wl_storeW (cs := (bdC b.bind k2).toArray) 0 st rfl TF.t43 rfl rfl rfl rfl (fun u hu => by simp [bdC] at hu; rcases hu with rfl | rfl | rfl <;> first | rfl | exact ho2) ?_
    intro w st
    refine wl_nil ⟨rfl, ?_⟩
    refine fl_nil (by kernel_rfl) trivial ?_
    refine then_go ?_
    refine wc_seq ?_
    refine wc_block ?_
    refine wc_seq ?_
    refine wc_region ?_
    refine wl_val (v_fa TF.f48_1 rfl) rfl ?_
    refine wl_val (v_load rfl (st.reads (v := .bool a.there) 3 rfl TF.t4 rfl)) rfl ?_
    refine wl_val (v_not rfl) rfl ?_
    refine wl_val (v_assign' (by conv => (lhs; whnf))) rfl ?_
    refine wl_nil ?_
    refine then_go ?_
    refine wc_cond rfl (fun h11 => ?_) (fun h11 => ?_)
    · refine wc_seq ?_
      refine wc_region ?_
      refine wl_val (v_assign' (by conv => (lhs; whnf))) rfl ?_
      refine wl_nil ?_
      refine then_go ?_
      refine wc_ret (block_ret (then_ret ?_))
      have hno : a.there = false := by simpa using h11
      exact ret1 rfl ⟨(st.keepOnly (l := []) (List.nil_sublist _)).touch, by rw [nextE, if_pos hno]; rfl⟩
    · refine wc_seq ?_
      have hyes : ¬ a.there = false := by simpa using h11
      refine wc_region ?_
      refine wl_val (v_fa TF.f48_1 rfl) rfl ?_
      refine wl_val (v_load rfl (st.reads (v := .bool b.there) 2 rfl TF.t4 rfl)) rfl ?_
      refine wl_val (v_not rfl) rfl ?_
      refine wl_val (v_move' (by conv => (lhs; whnf))) rfl ?_
      rcases Bool.eq_false_or_eq_true (!b.there) with hg3 | hg3
      · rw [hg3]
        refine wl_off rfl rfl rfl rfl ?_
        refine wl_off rfl rfl rfl rfl ?_
        refine wl_off rfl rfl rfl rfl ?_
        refine wl_off rfl rfl rfl rfl ?_
        refine wl_off rfl rfl rfl rfl ?_
        refine wl_val (v_pick rfl) rfl ?_
        refine wl_val (v_move' (by conv => (lhs; whnf))) rfl ?_
        refine wl_off rfl rfl rfl rfl ?_
        refine wl_off rfl rfl rfl rfl ?_
        refine wl_off rfl rfl rfl rfl ?_
        refine wl_off rfl rfl rfl rfl ?_
        refine wl_off rfl rfl rfl rfl ?_
        refine wl_off rfl rfl rfl rfl ?_
        refine offU rfl rfl rfl ?_
        refine offU rfl rfl rfl ?_
        refine offU rfl rfl rfl ?_
        refine offU rfl rfl rfl ?_
        refine offU rfl rfl rfl ?_
        refine offU rfl rfl rfl ?_
        refine wl_off rfl rfl rfl rfl ?_
        refine wl_val (v_pick rfl) rfl ?_
        refine wl_val (v_assign' (by conv => (lhs; whnf))) rfl ?_
        refine wl_nil ?_
        refine then_go ?_
        refine wc_true rfl ?_
        refine wc_seq ?_
        refine wc_region ?_
        refine wl_val (v_assign' (by conv => (lhs; whnf))) rfl ?_
        refine wl_nil ?_
        refine then_go ?_
        refine wc_ret (block_ret (then_ret ?_))
        have hb : b.there = false := by simpa using hg3
        exact ret1 rfl ⟨(st.keepOnly (l := []) (List.nil_sublist _)).touch, by rw [nextE, if_neg hyes, if_pos (.inl hb)]; rfl⟩
      · rw [hg3]
        refine wl_on rfl rfl ?_
        refine wl_val (v_fa TF.f43_2 rfl) rfl ?_
        refine wl_on rfl rfl ?_
        refine wl_val (v_load rfl (st.reads (v := u64 b.bind.serial) 0 rfl TF.t24 rfl)) rfl ?_
        refine wl_on rfl rfl ?_
        refine wl_val (v_fa TF.f43_2 rfl) rfl ?_
        refine wl_on rfl rfl ?_
        refine wl_val (v_load rfl (st.reads (v := u64 a.bind.serial) 1 rfl TF.t24 rfl)) rfl ?_
        refine wl_on rfl rfl ?_
        refine wl_val (v_lss rfl rfl) rfl ?_
        refine wl_val (v_pick rfl) rfl ?_
        refine wl_val (v_move' (by conv => (lhs; whnf))) rfl ?_
        by_cases hg10 : (b.bind.serial.toNat : Int) < (a.bind.serial.toNat : Int)
        · rw [show decide ((b.bind.serial.toNat : Int) < (a.bind.serial.toNat : Int)) = true from decide_eq_true hg10]
          refine wl_off rfl rfl rfl rfl ?_
          refine wl_off rfl rfl rfl rfl ?_
          refine wl_off rfl rfl rfl rfl ?_
          refine wl_off rfl rfl rfl rfl ?_
          refine wl_off rfl rfl rfl rfl ?_
          refine wl_off rfl rfl rfl rfl ?_
          refine offU rfl rfl rfl ?_
          refine offU rfl rfl rfl ?_
          refine offU rfl rfl rfl ?_
          refine offU rfl rfl rfl ?_
          refine offU rfl rfl rfl ?_
          refine offU rfl rfl rfl ?_
          refine wl_off rfl rfl rfl rfl ?_
          refine wl_val (v_pick rfl) rfl ?_
          refine wl_val (v_assign' (by conv => (lhs; whnf))) rfl ?_
          refine wl_nil ?_
          refine then_go ?_
          refine wc_true rfl ?_
          refine wc_seq ?_
          refine wc_region ?_
          refine wl_val (v_assign' (by conv => (lhs; whnf))) rfl ?_
          refine wl_nil ?_
          refine then_go ?_
          refine wc_ret (block_ret (then_ret ?_))
          exact ret1 rfl ⟨(st.keepOnly (l := []) (List.nil_sublist _)).touch, by rw [nextE, if_neg hyes, if_pos (.inr (.inl (by omega)))]; rfl⟩
        · rw [show decide ((b.bind.serial.toNat : Int) < (a.bind.serial.toNat : Int)) = false from decide_eq_false hg10]
          refine wl_on rfl rfl ?_
          refine wl_val (v_fa TF.f43_2 rfl) rfl ?_
          refine wl_on rfl rfl ?_
          refine wl_val (v_load rfl (st.reads (v := u64 b.bind.serial) 0 rfl TF.t24 rfl)) rfl ?_
          refine wl_on rfl rfl ?_
          refine wl_val (v_fa TF.f43_2 rfl) rfl ?_
          refine wl_on rfl rfl ?_
          refine wl_val (v_load rfl (st.reads (v := u64 a.bind.serial) 1 rfl TF.t24 rfl)) rfl ?_
          refine wl_on rfl rfl ?_
          refine wl_val (v_eql rfl rfl) rfl ?_
          refine wl_on rfl rfl ?_
          refine wl_val (v_move' (by conv => (lhs; whnf))) rfl ?_
          by_cases hg16 : (b.bind.serial.toNat : Int) = (a.bind.serial.toNat : Int)
          · rw [show decide ((b.bind.serial.toNat : Int) = (a.bind.serial.toNat : Int)) = true from decide_eq_true hg16]
            refine wl_on rfl rfl ?_
            refine wl_val (v_fa TF.f43_1 rfl) rfl ?_
            refine wl_on rfl rfl ?_
            refine wl_val (v_load rfl (st.reads (v := k1) 1 rfl TF.t41 rfl)) rfl ?_
            refine wl_on rfl rfl ?_
            refine wl_val (v_fa TF.f43_1 rfl) rfl ?_
            refine wl_on rfl rfl ?_
            refine wl_val (v_load rfl (st.reads (v := k2) 0 rfl TF.t41 rfl)) rfl ?_
            refine wl_on rfl rfl ?_
            refine wl_call rfl (c_beq st.im hk1 hk2) rfl ?_
            rintro v37 w ⟨t37, rfl⟩
            have st := st.pure t37
            refine wl_on rfl rfl ?_
            refine wl_val (v_not rfl) rfl ?_
            refine wl_on rfl rfl ?_
            refine wl_val (v_pick rfl) rfl ?_
            refine wl_val (v_pick rfl) rfl ?_
            refine wl_val (v_assign' (by conv => (lhs; whnf))) rfl ?_
            refine wl_nil ?_
            refine then_go ?_
            refine wc_cond rfl (fun h15 => ?_) (fun h15 => ?_)
            · refine wc_seq ?_
              refine wc_region ?_
              refine wl_val (v_assign' (by conv => (lhs; whnf))) rfl ?_
              refine wl_nil ?_
              refine then_go ?_
              refine wc_ret (block_ret (then_ret ?_))
              have hb : ¬ b.there = false := by simpa using hg3
              first
                | (have hk : ¬ a.bind.key = b.bind.key := by simpa using h15
                   exact ret1 rfl ⟨(st.keepOnly (l := []) (List.nil_sublist _)).touch, by rw [nextE, if_neg hyes, if_pos (.inr (.inr ⟨by omega, hk⟩))]; rfl⟩)
                | (have hk : a.bind.key = b.bind.key := by simpa using h15
                   exact ret1 rfl ⟨(st.keepOnly (l := []) (List.nil_sublist _)).touch, by rw [nextE, if_neg hyes, if_neg (by rintro (h | h | h); exact hb h; omega; exact h.2 hk)]; rfl⟩)
                | exact ret1 rfl ⟨(st.keepOnly (l := []) (List.nil_sublist _)).touch, by rw [nextE, if_neg hyes, if_neg (by rintro (h | h | h); exact hb h; omega; omega)]; rfl⟩
            · refine wc_skip ?_
              refine block_go (then_go ?_)
              refine wc_seq ?_
              refine wc_region ?_
              refine wl_val (v_assign' (by conv => (lhs; whnf))) rfl ?_
              refine wl_nil ?_
              refine then_go ?_
              refine wc_ret ?_
              have hb : ¬ b.there = false := by simpa using hg3
              first
                | (have hk : ¬ a.bind.key = b.bind.key := by simpa using h15
                   exact ret1 rfl ⟨(st.keepOnly (l := []) (List.nil_sublist _)).touch, by rw [nextE, if_neg hyes, if_pos (.inr (.inr ⟨by omega, hk⟩))]; rfl⟩)
                | (have hk : a.bind.key = b.bind.key := by simpa using h15
                   exact ret1 rfl ⟨(st.keepOnly (l := []) (List.nil_sublist _)).touch, by rw [nextE, if_neg hyes, if_neg (by rintro (h | h | h); exact hb h; omega; exact h.2 hk)]; rfl⟩)
                | exact ret1 rfl ⟨(st.keepOnly (l := []) (List.nil_sublist _)).touch, by rw [nextE, if_neg hyes, if_neg (by rintro (h | h | h); exact hb h; omega; omega)]; rfl⟩
          · rw [show decide ((b.bind.serial.toNat : Int) = (a.bind.serial.toNat : Int)) = false from decide_eq_false hg16]
            refine wl_off rfl rfl rfl rfl ?_
            refine wl_off rfl rfl rfl rfl ?_
            refine wl_off rfl rfl rfl rfl ?_
            refine wl_off rfl rfl rfl rfl ?_
            refine wl_off rfl rfl rfl rfl ?_
            refine wl_off rfl rfl rfl rfl ?_
            refine wl_on rfl rfl ?_
            refine wl_val (v_pick rfl) rfl ?_
            refine wl_val (v_pick rfl) rfl ?_
            refine wl_val (v_assign' (by conv => (lhs; whnf))) rfl ?_
            refine wl_nil ?_
            refine then_go ?_
            refine wc_false rfl ?_
            refine wc_skip ?_
            refine block_go (then_go ?_)
            refine wc_seq ?_
            refine wc_region ?_
            refine wl_val (v_assign' (by conv => (lhs; whnf))) rfl ?_
            refine wl_nil ?_
            refine then_go ?_
            refine wc_ret ?_
            have hb : ¬ b.there = false := by simpa using hg3
            first
              | (have hk : ¬ a.bind.key = b.bind.key := by simpa using h15
                 exact ret1 rfl ⟨(st.keepOnly (l := []) (List.nil_sublist _)).touch, by rw [nextE, if_neg hyes, if_pos (.inr (.inr ⟨by omega, hk⟩))]; rfl⟩)
              | (have hk : a.bind.key = b.bind.key := by simpa using h15
                 exact ret1 rfl ⟨(st.keepOnly (l := []) (List.nil_sublist _)).touch, by rw [nextE, if_neg hyes, if_neg (by rintro (h | h | h); exact hb h; omega; exact h.2 hk)]; rfl⟩)
              | exact ret1 rfl ⟨(st.keepOnly (l := []) (List.nil_sublist _)).touch, by rw [nextE, if_neg hyes, if_neg (by rintro (h | h | h); exact hb h; omega; omega)]; rfl⟩
  refine fl_val 0 rfl (fun _ => (v_fa TF.f48_2 rfl)) rfl (by kernel_rfl) ?_
  refine fl_ld 1 rfl (v_load rfl (by first | exact st.reads (b := b2) (c := (fdC a k1).toArray) (v := .agg (bdC a.bind k1).toArray) 3 rfl TF.t43 fdB | exact st.reads (b := b2) (c := (fdC a k1).toArray) (v := .agg (bdC a.bind k1).toArray) 2 rfl TF.t43 fdB | exact st.reads (b := b2) (c := (fdC a k1).toArray) (v := .agg (bdC a.bind k1).toArray) 1 rfl TF.t43 fdB)) (by kernel_rfl) ?_
  refine fl_val 2 rfl (fun _ => (v_fa TF.f48_2 rfl)) rfl (by kernel_rfl) ?_
  refine fl_ld 3 rfl (v_load rfl (by first | exact st.reads (b := b3) (c := (fdC b k2).toArray) (v := .agg (bdC b.bind k2).toArray) 2 rfl TF.t43 fdB | exact st.reads (b := b3) (c := (fdC b k2).toArray) (v := .agg (bdC b.bind k2).toArray) 1 rfl TF.t43 fdB | exact st.reads (b := b3) (c := (fdC b k2).toArray) (v := .agg (bdC b.bind k2).toArray) 0 rfl TF.t43 fdB)) (by kernel_rfl) ?_
  refine fl_effs [4, 5] (by kernel_rfl) ⟨obl_ld rfl rfl rfl (v_load rfl (by first | exact st.reads (b := b3) (c := (fdC b k2).toArray) (v := .agg (bdC b.bind k2).toArray) 2 rfl TF.t43 fdB | exact st.reads (b := b3) (c := (fdC b k2).toArray) (v := .agg (bdC b.bind k2).toArray) 1 rfl TF.t43 fdB | exact st.reads (b := b3) (c := (fdC b k2).toArray) (v := .agg (bdC b.bind k2).toArray) 0 rfl TF.t43 fdB)), obl_ld rfl rfl rfl (v_load rfl (by first | exact st.reads (b := b2) (c := (fdC a k1).toArray) (v := .agg (bdC a.bind k1).toArray) 3 rfl TF.t43 fdB | exact st.reads (b := b2) (c := (fdC a k1).toArray) (v := .agg (bdC a.bind k1).toArray) 2 rfl TF.t43 fdB | exact st.reads (b := b2) (c := (fdC a k1).toArray) (v := .agg (bdC a.bind k1).toArray) 1 rfl TF.t43 fdB)), trivial⟩ (all2 ?_ ?_)
  · refine stepE 4 (pure' := [2, 0]) (lds' := [3, 1]) rfl (by kernel_rfl) (by kernel_rfl) ?_
    refine wl_alloc TF.z43 st rfl ?_
    intro b5 w st
    refine wl_nil ⟨rfl, ?_⟩
    refine fl_eff1 5 [2, 0] [3, 1] (by kernel_rfl) ⟨obl_ld rfl rfl rfl (v_load rfl (by first | exact st.reads (b := b3) (c := (fdC b k2).toArray) (v := .agg (bdC b.bind k2).toArray) 2 rfl TF.t43 fdB | exact st.reads (b := b3) (c := (fdC b k2).toArray) (v := .agg (bdC b.bind k2).toArray) 1 rfl TF.t43 fdB | exact st.reads (b := b3) (c := (fdC b k2).toArray) (v := .agg (bdC b.bind k2).toArray) 0 rfl TF.t43 fdB)), obl_ld rfl rfl rfl (v_load rfl (by first | exact st.reads (b := b2) (c := (fdC a k1).toArray) (v := .agg (bdC a.bind k1).toArray) 3 rfl TF.t43 fdB | exact st.reads (b := b2) (c := (fdC a k1).toArray) (v := .agg (bdC a.bind k1).toArray) 2 rfl TF.t43 fdB | exact st.reads (b := b2) (c := (fdC a k1).toArray) (v := .agg (bdC a.bind k1).toArray) 1 rfl TF.t43 fdB)), trivial⟩ rfl ?_
    refine wl_alloc TF.z43 st rfl ?_
    intro b6 w st
    refine wl_nil ⟨rfl, ?_⟩
    refine FL.permB [5, 4, 3, 2, 1, 0] [2, 0] [3, 1] (by kernel_rfl) ?_
    first
      | exact fin _ _ _ _ rfl rfl rfl rfl rfl rfl rfl rfl st
      | exact fin _ _ _ _ rfl rfl rfl rfl rfl rfl rfl rfl (st.perm (List.Perm.swap _ _ _))
  · refine stepE 5 (pure' := [2, 0]) (lds' := [3, 1]) rfl (by kernel_rfl) (by kernel_rfl) ?_
    refine wl_alloc TF.z43 st rfl ?_
    intro b6 w st
    refine wl_nil ⟨rfl, ?_⟩
    refine fl_eff1 4 [2, 0] [3, 1] (by kernel_rfl) ⟨obl_ld rfl rfl rfl (v_load rfl (by first | exact st.reads (b := b3) (c := (fdC b k2).toArray) (v := .agg (bdC b.bind k2).toArray) 2 rfl TF.t43 fdB | exact st.reads (b := b3) (c := (fdC b k2).toArray) (v := .agg (bdC b.bind k2).toArray) 1 rfl TF.t43 fdB | exact st.reads (b := b3) (c := (fdC b k2).toArray) (v := .agg (bdC b.bind k2).toArray) 0 rfl TF.t43 fdB)), obl_ld rfl rfl rfl (v_load rfl (by first | exact st.reads (b := b2) (c := (fdC a k1).toArray) (v := .agg (bdC a.bind k1).toArray) 3 rfl TF.t43 fdB | exact st.reads (b := b2) (c := (fdC a k1).toArray) (v := .agg (bdC a.bind k1).toArray) 2 rfl TF.t43 fdB | exact st.reads (b := b2) (c := (fdC a k1).toArray) (v := .agg (bdC a.bind k1).toArray) 1 rfl TF.t43 fdB)), trivial⟩ rfl ?_
    refine wl_alloc TF.z43 st rfl ?_
    intro b5 w st
    refine wl_nil ⟨rfl, ?_⟩
    refine FL.permB [5, 4, 3, 2, 1, 0] [2, 0] [3, 1] (by kernel_rfl) ?_
    first
      | exact fin _ _ _ _ rfl rfl rfl rfl rfl rfl rfl rfl st
      | exact fin _ _ _ _ rfl rfl rfl rfl rfl rfl rfl rfl (st.perm (List.Perm.swap _ _ _))
theorem c_rnext {v1 v2 : Value} {a b : Fd} (him : Im m wI) (h1 : FdM m v1 a) (h2 : FdM m v2 b) :
    Ret Try.prog 30 #[v1, v2] wI fun v' w' => Tch wI w' [] [] ∧ v' = .int .i64 (nextE a b) := by
  have st := St.start him
  obtain ⟨k1, rfl, hk1, _⟩ := h1
  obtain ⟨k2, rfl, hk2, _⟩ := h2
  have ho1 : k1.oneCell' = true := by obtain ⟨_, _, _, h, _⟩ := hk1; rw [h]; rfl
  have ho2 : k2.oneCell' = true := by obtain ⟨_, _, _, h, _⟩ := hk2; rw [h]; rfl
  refine ret_of Try.call30 Try.func30 rfl Try.ntmps30 Try.results30 rfl ?_
  refine wc_seq ?_
  refine wc_region ?_
  refine wl_box (v := .agg (fdC a k1).toArray) rfl st rfl ?_
  intro b2 w st
  refine wl_box (v := .agg (fdC b k2).toArray) rfl st rfl ?_
  intro b3 w st
  refine wl_val (v_assign' (by conv => (lhs; whnf))) rfl ?_
  refine wl_nil ?_
  refine then_go ?_
  refine wc_seq ?_
  refine wc_seq ?_
  refine wc_region ?_
  refine wl_val (v_fa TF.f48_1 rfl) rfl ?_
  refine wl_val (v_load rfl (st.reads (v := .bool a.there) 1 rfl TF.t4 rfl)) rfl ?_
  refine wl_val (v_not rfl) rfl ?_
  refine wl_nil ?_
  refine then_go ?_
  refine wc_cond rfl (fun h9 => ?_) (fun h9 => ?_)
  · refine wc_seq ?_
    refine wc_region ?_
    refine wl_val (v_assign' (by conv => (lhs; whnf))) rfl ?_
    refine wl_nil ?_
    refine then_go ?_
    refine wc_ret (then_ret ?_)
    have hno : a.there = false := by simpa using h9
    exact ret1 rfl ⟨(st.keepOnly (l := []) (List.nil_sublist _)).touch, by rw [nextE, if_pos hno]; rfl⟩
  · refine wc_skip ?_
    refine then_go ?_
    refine wc_seq ?_
    refine wc_region ?_
    refine wl_val (v_fa TF.f48_2 rfl) rfl ?_
    refine wl_val (v_load rfl (st.reads (v := .agg (bdC a.bind k1).toArray) 1 rfl TF.t43 fdB)) rfl ?_
    refine wl_alloc TF.z43 st rfl ?_
    intro b5 w st
    refine wl_storeW (cs := (bdC a.bind k1).toArray) 0 st rfl TF.t43 rfl rfl rfl rfl (fun u hu => by simp [bdC] at hu; rcases hu with rfl | rfl | rfl <;> first | rfl | exact ho1) ?_
    intro w st
    refine wl_nil ?_
    refine then_go ?_
    refine wc_seq ?_
    refine wc_region ?_
    refine wl_val (v_fa TF.f48_2 rfl) rfl ?_
    refine wl_val (v_load rfl (st.reads (v := .agg (bdC b.bind k2).toArray) 1 rfl TF.t43 fdB)) rfl ?_
    refine wl_alloc TF.z43 st rfl ?_
    intro b6 w st
    refine wl_storeW (cs := (bdC b.bind k2).toArray) 0 st rfl TF.t43 rfl rfl rfl rfl (fun u hu => by simp [bdC] at hu; rcases hu with rfl | rfl | rfl <;> first | rfl | exact ho2) ?_
    intro w st
    refine wl_nil ?_
    refine then_go ?_
    refine wc_seq ?_
    refine wc_seq ?_
    have hyes : ¬ a.there = false := by simpa using h9
    refine wc_region ?_
    refine wl_val (v_fa TF.f48_1 rfl) rfl ?_
    refine wl_val (v_load rfl (st.reads (v := .bool b.there) 2 rfl TF.t4 rfl)) rfl ?_
    refine wl_val (v_not rfl) rfl ?_
    refine wl_val (v_move' (by conv => (lhs; whnf))) rfl ?_
    rcases Bool.eq_false_or_eq_true (!b.there) with hg3 | hg3
    · rw [hg3]
      refine wl_off rfl rfl rfl rfl ?_
      refine wl_off rfl rfl rfl rfl ?_
      refine wl_off rfl rfl rfl rfl ?_
      refine wl_off rfl rfl rfl rfl ?_
      refine wl_off rfl rfl rfl rfl ?_
      refine wl_val (v_pick rfl) rfl ?_
      refine wl_val (v_move' (by conv => (lhs; whnf))) rfl ?_
      refine wl_off rfl rfl rfl rfl ?_
      refine wl_off rfl rfl rfl rfl ?_
      refine wl_off rfl rfl rfl rfl ?_
      refine wl_off rfl rfl rfl rfl ?_
      refine wl_off rfl rfl rfl rfl ?_
      refine wl_off rfl rfl rfl rfl ?_
      refine offU rfl rfl rfl ?_
      refine offU rfl rfl rfl ?_
      refine offU rfl rfl rfl ?_
      refine offU rfl rfl rfl ?_
      refine offU rfl rfl rfl ?_
      refine offU rfl rfl rfl ?_
      refine offU rfl rfl rfl ?_
      refine wl_off rfl rfl rfl rfl ?_
      refine wl_val (v_pick rfl) rfl ?_
      refine wl_nil ?_
      refine then_go ?_
      refine wc_true rfl ?_
      refine wc_seq ?_
      refine wc_region ?_
      refine wl_val (v_assign' (by conv => (lhs; whnf))) rfl ?_
      refine wl_nil ?_
      refine then_go ?_
      refine wc_ret (then_ret ?_)
      have hb : b.there = false := by simpa using hg3
      exact ret1 rfl ⟨(st.keepOnly (l := []) (List.nil_sublist _)).touch, by rw [nextE, if_neg hyes, if_pos (.inl hb)]; rfl⟩
    · rw [hg3]
      refine wl_on rfl rfl ?_
      refine wl_val (v_fa TF.f43_2 rfl) rfl ?_
      refine wl_on rfl rfl ?_
      refine wl_val (v_load rfl (st.reads (v := u64 b.bind.serial) 0 rfl TF.t24 rfl)) rfl ?_
      refine wl_on rfl rfl ?_
      refine wl_val (v_fa TF.f43_2 rfl) rfl ?_
      refine wl_on rfl rfl ?_
      refine wl_val (v_load rfl (st.reads (v := u64 a.bind.serial) 1 rfl TF.t24 rfl)) rfl ?_
      refine wl_on rfl rfl ?_
      refine wl_val (v_lss rfl rfl) rfl ?_
      refine wl_val (v_pick rfl) rfl ?_
      refine wl_val (v_move' (by conv => (lhs; whnf))) rfl ?_
      by_cases hg10 : (b.bind.serial.toNat : Int) < (a.bind.serial.toNat : Int)
      · rw [show decide ((b.bind.serial.toNat : Int) < (a.bind.serial.toNat : Int)) = true from decide_eq_true hg10]
        refine wl_off rfl rfl rfl rfl ?_
        refine wl_off rfl rfl rfl rfl ?_
        refine wl_off rfl rfl rfl rfl ?_
        refine wl_off rfl rfl rfl rfl ?_
        refine wl_off rfl rfl rfl rfl ?_
        refine wl_off rfl rfl rfl rfl ?_
        refine offU rfl rfl rfl ?_
        refine offU rfl rfl rfl ?_
        refine offU rfl rfl rfl ?_
        refine offU rfl rfl rfl ?_
        refine offU rfl rfl rfl ?_
        refine offU rfl rfl rfl ?_
        refine offU rfl rfl rfl ?_
        refine wl_off rfl rfl rfl rfl ?_
        refine wl_val (v_pick rfl) rfl ?_
        refine wl_nil ?_
        refine then_go ?_
        refine wc_true rfl ?_
        refine wc_seq ?_
        refine wc_region ?_
        refine wl_val (v_assign' (by conv => (lhs; whnf))) rfl ?_
        refine wl_nil ?_
        refine then_go ?_
        refine wc_ret (then_ret ?_)
        exact ret1 rfl ⟨(st.keepOnly (l := []) (List.nil_sublist _)).touch, by rw [nextE, if_neg hyes, if_pos (.inr (.inl (by omega)))]; rfl⟩
      · rw [show decide ((b.bind.serial.toNat : Int) < (a.bind.serial.toNat : Int)) = false from decide_eq_false hg10]
        refine wl_on rfl rfl ?_
        refine wl_val (v_fa TF.f43_2 rfl) rfl ?_
        refine wl_on rfl rfl ?_
        refine wl_val (v_load rfl (st.reads (v := u64 b.bind.serial) 0 rfl TF.t24 rfl)) rfl ?_
        refine wl_on rfl rfl ?_
        refine wl_val (v_fa TF.f43_2 rfl) rfl ?_
        refine wl_on rfl rfl ?_
        refine wl_val (v_load rfl (st.reads (v := u64 a.bind.serial) 1 rfl TF.t24 rfl)) rfl ?_
        refine wl_on rfl rfl ?_
        refine wl_val (v_eql rfl rfl) rfl ?_
        refine wl_on rfl rfl ?_
        refine wl_val (v_move' (by conv => (lhs; whnf))) rfl ?_
        by_cases hg16 : (b.bind.serial.toNat : Int) = (a.bind.serial.toNat : Int)
        · rw [show decide ((b.bind.serial.toNat : Int) = (a.bind.serial.toNat : Int)) = true from decide_eq_true hg16]
          refine wl_on rfl rfl ?_
          refine wl_val (v_fa TF.f43_1 rfl) rfl ?_
          refine wl_on rfl rfl ?_
          refine wl_val (v_load rfl (st.reads (v := k2) 0 rfl TF.t41 rfl)) rfl ?_
          refine wl_on rfl rfl ?_
          refine wl_val (v_b2s Try.underlying41 Try.underlying5 Try.underlying9 st.im hk2 rfl) rfl ?_
          refine wl_on rfl rfl ?_
          refine wl_val (v_fa TF.f43_1 rfl) rfl ?_
          refine wl_on rfl rfl ?_
          refine wl_val (v_load rfl (st.reads (v := k1) 1 rfl TF.t41 rfl)) rfl ?_
          refine wl_on rfl rfl ?_
          refine wl_val (v_b2s Try.underlying41 Try.underlying5 Try.underlying9 st.im hk1 rfl) rfl ?_
          refine wl_on rfl rfl ?_
          refine wl_val (v_nes rfl rfl) rfl ?_
          refine wl_on rfl rfl ?_
          refine wl_val (v_pick rfl) rfl ?_
          refine wl_val (v_pick rfl) rfl ?_
          refine wl_nil ?_
          refine then_go ?_
          refine wc_if rfl (fun h39 => ?_) (fun h39 => ?_)
          · refine wc_seq ?_
            refine wc_region ?_
            refine wl_val (v_assign' (by conv => (lhs; whnf))) rfl ?_
            refine wl_nil ?_
            refine then_go ?_
            refine wc_ret (then_ret ?_)
            have hb : ¬ b.there = false := by simpa using hg3
            first
              | exact ret1 rfl ⟨(st.keepOnly (l := []) (List.nil_sublist _)).touch, by rw [nextE, if_neg hyes, if_pos (.inr (.inr ⟨by omega, fun h => h39 h.symm⟩))]; rfl⟩
              | (have hk : a.bind.key = b.bind.key := (Decidable.not_not.1 h39).symm
                 exact ret1 rfl ⟨(st.keepOnly (l := []) (List.nil_sublist _)).touch, by rw [nextE, if_neg hyes, if_neg (by rintro (h | h | h); exact hb h; omega; exact h.2 hk)]; rfl⟩)
              | exact ret1 rfl ⟨(st.keepOnly (l := []) (List.nil_sublist _)).touch, by rw [nextE, if_neg hyes, if_neg (by rintro (h | h | h); exact hb h; omega; omega)]; rfl⟩
          · refine wc_skip ?_
            refine then_go ?_
            refine wc_seq ?_
            refine wc_region ?_
            refine wl_val (v_assign' (by conv => (lhs; whnf))) rfl ?_
            refine wl_nil ?_
            refine then_go ?_
            refine wc_ret ?_
            have hb : ¬ b.there = false := by simpa using hg3
            first
              | exact ret1 rfl ⟨(st.keepOnly (l := []) (List.nil_sublist _)).touch, by rw [nextE, if_neg hyes, if_pos (.inr (.inr ⟨by omega, fun h => h39 h.symm⟩))]; rfl⟩
              | (have hk : a.bind.key = b.bind.key := (Decidable.not_not.1 h39).symm
                 exact ret1 rfl ⟨(st.keepOnly (l := []) (List.nil_sublist _)).touch, by rw [nextE, if_neg hyes, if_neg (by rintro (h | h | h); exact hb h; omega; exact h.2 hk)]; rfl⟩)
              | exact ret1 rfl ⟨(st.keepOnly (l := []) (List.nil_sublist _)).touch, by rw [nextE, if_neg hyes, if_neg (by rintro (h | h | h); exact hb h; omega; omega)]; rfl⟩
        · rw [show decide ((b.bind.serial.toNat : Int) = (a.bind.serial.toNat : Int)) = false from decide_eq_false hg16]
          refine wl_off rfl rfl rfl rfl ?_
          refine wl_off rfl rfl rfl rfl ?_
          refine wl_off rfl rfl rfl rfl ?_
          refine wl_off rfl rfl rfl rfl ?_
          refine wl_off rfl rfl rfl rfl ?_
          refine wl_off rfl rfl rfl rfl ?_
          refine wl_off rfl rfl rfl rfl ?_
          refine wl_on rfl rfl ?_
          refine wl_val (v_pick rfl) rfl ?_
          refine wl_val (v_pick rfl) rfl ?_
          refine wl_nil ?_
          refine then_go ?_
          refine wc_false rfl ?_
          refine wc_skip ?_
          refine then_go ?_
          refine wc_seq ?_
          refine wc_region ?_
          refine wl_val (v_assign' (by conv => (lhs; whnf))) rfl ?_
          refine wl_nil ?_
          refine then_go ?_
          refine wc_ret ?_
          have hb : ¬ b.there = false := by simpa using hg3
          first
            | exact ret1 rfl ⟨(st.keepOnly (l := []) (List.nil_sublist _)).touch, by rw [nextE, if_neg hyes, if_pos (.inr (.inr ⟨by omega, fun h => h39 h.symm⟩))]; rfl⟩
            | (have hk : a.bind.key = b.bind.key := (Decidable.not_not.1 h39).symm
               exact ret1 rfl ⟨(st.keepOnly (l := []) (List.nil_sublist _)).touch, by rw [nextE, if_neg hyes, if_neg (by rintro (h | h | h); exact hb h; omega; exact h.2 hk)]; rfl⟩)
            | exact ret1 rfl ⟨(st.keepOnly (l := []) (List.nil_sublist _)).touch, by rw [nextE, if_neg hyes, if_neg (by rintro (h | h | h); exact hb h; omega; omega)]; rfl⟩
end
end Go.Proofs.Ytjjpakjgppmmdaa

namespace Go.Proofs.Ytjjpakjgppmmdaa
open Go Go.RowKit K SH PT
end Go.Proofs.Ytjjpakjgppmmdaa

namespace Go.Proofs.Ytjjpakjgppmmdaa
open Go Go.RowKit Go.ChangeShapes Go.WideShapes K SH PT
theorem all_u8 : ∀ {cs : List Value}, (∀ i, i < cs.length → ∃ b : UInt8, cs[i]? = some (u8 b)) → ∃ l : List UInt8, cs = bs l
 | [], _ => ⟨[], rfl⟩
 | c :: cs, h => by
  obtain ⟨b, hb⟩ := h 0 (by simp)
  obtain ⟨l, hl⟩ := all_u8 (cs := cs) fun i hi => by
   have := h (i + 1) (by simp; exact hi)
   simpa using this
  refine ⟨b :: l, ?_⟩
  simp only [List.getElem?_cons_zero, Option.some.injEq] at hb
  rw [hb, hl]
  rfl
section
variable {H : Type} {enc : TypeId × Value → H} {w : World} {sp : Nat → Bool} {held : Bool} {fuel : Nat} {x : DataW H × List MemPlace} {v : Value}
theorem trod_dig {cs : List Value} (h : DataW.trod enc Try.prog w 0 sp held fuel 23 cs = some x) : ∃ l : List UInt8, cs = bs l ∧ l.length = 32 := by
 obtain ⟨xs, m, _, _, hl, hxl, hf⟩ := DataW.trod_array Try.underlying23 h
 rw [TF.t23.cells] at hl
 rw [TF.t5.cells] at hf
 obtain ⟨l, rfl⟩ := all_u8 (cs := cs) fun i hi => by
  have hi' : i < cs.length := hi
  have e := hf i (by omega)
  rw [List.getElem?_eq_getElem (by omega)] at e
  have ec : (cs.drop (i * 1)).take 1 = [cs[i]] := by rw [Nat.mul_one, List.drop_eq_getElem_cons hi]; rfl
  rw [ec] at e
  obtain ⟨a, q, _, wf⟩ := DataW.trod_int Try.underlying5 e
  rw [List.cons.injEq] at q
  simp only [Lit.wf, Bool.and_eq_true, decide_eq_true_eq] at wf
  have h1 : 0 ≤ a := wf.1
  have h2 : a ≤ 255 := wf.2
  refine ⟨UInt8.ofNat a.toNat, ?_⟩
  rw [List.getElem?_eq_getElem hi, q.1]
  simp only [u8, Option.some.injEq, Value.int.injEq, true_and]
  rw [UInt8.toNat_ofNat']
  omega
 exact ⟨l, rfl, by rw [length_bs] at hl; exact hl⟩
theorem open_digs (h : DataW.trod enc Try.prog w 0 sp held fuel 38 [v] = some x) : ∃ L : List (List UInt8), DigM (heapM w) v L ∧ L.length ≤ 9223372036854775807 := by
 obtain ⟨k, X, hS, hk, hX⟩ := trod_SlM Try.underlying38 (by rw [TF.t23.cells]; decide) h
 rw [TF.t23.cells] at hS hX
 have all : ∀ k', k' ≤ k → ∃ L : List (List UInt8), L.length = k' ∧ (List.range k').flatMap X = digs L ∧ D32 L := by
  intro k'
  induction k' with
  | zero => intro _; exact ⟨[], rfl, rfl, by simp [D32]⟩
  | succ k' ih =>
   intro hk'
   obtain ⟨L, h1, h2, h3⟩ := ih (by omega)
   obtain ⟨_, n, y, hy⟩ := hX k' (by omega)
   obtain ⟨l, hl, h32⟩ := trod_dig hy
   refine ⟨L ++ [l], by simp [h1], ?_, h3.app (D32.one h32)⟩
   rw [List.range_succ, List.flatMap_append, h2, digs_app, digs_one]
   simp [hl]
 obtain ⟨L, h1, h2, h3⟩ := all k (Nat.le_refl _)
 rw [h2] at hS
 subst h1
 exact ⟨L, ⟨h3, hS⟩, by omega⟩
theorem trod_seg {S f off F size bytes : Nat} {agg : Bool} {cs : List Value} (hf : FdOff Try.prog S f off F) (tf : TyF Try.prog F agg size bytes) (h : DataW.trod enc Try.prog w 0 sp held fuel S cs = some x) :
  ∃ n y, DataW.trod enc Try.prog w 0 sp held n F ((cs.drop off).take size) = some y := by
 obtain ⟨fs, fl, hS, hfl, rfl, rfl, _⟩ := hf
 obtain ⟨xs, n, _, _, _, hxl, hh⟩ := DataW.trod_struct hS h
 have hlt : f < fs.size := by
  rcases Nat.lt_or_ge f fs.size with h' | h'
  ·exact h'
  ·rw [Array.getElem?_eq_none h'] at hfl; cases hfl
 have e := hh f fl hfl
 rw [tf.cells, List.getElem?_eq_getElem (by omega)] at e
 exact ⟨n, _, e⟩
theorem trod_len {S size bytes : Nat} {agg : Bool} {fs : Array Field} {cs : List Value} (hS : Try.prog.underlying S = some (.struct fs)) (tf : TyF Try.prog S agg size bytes) (h : DataW.trod enc Try.prog w 0 sp held fuel S cs = some x) : cs.length = size := by
 obtain ⟨xs, n, _, _, hl, _⟩ := DataW.trod_struct hS h
 rw [tf.cells] at hl
 exact hl
theorem trod_u64 {cs : List Value} (h : DataW.trod enc Try.prog w 0 sp held fuel 24 cs = some x) : ∃ n : UInt64, cs = [u64 n] := by
 obtain ⟨a, q, _, wf⟩ := DataW.trod_int Try.underlying24 h
 simp only [Lit.wf, Bool.and_eq_true, decide_eq_true_eq] at wf
 have h1 : 0 ≤ a := wf.1
 have h2 : a ≤ 18446744073709551615 := wf.2
 refine ⟨UInt64.ofNat a.toNat, ?_⟩
 rw [q]
 simp only [u64, List.cons.injEq, Value.int.injEq, true_and, and_true]
 rw [UInt64.toNat_ofNat']
 omega
theorem trod_bo {cs : List Value} (h : DataW.trod enc Try.prog w 0 sp held fuel 4 cs = some x) : ∃ b, cs = [.bool b] := by
 obtain ⟨b, q, _⟩ := DataW.trod_bool Try.underlying4 h
 exact ⟨b, q⟩
theorem trod_i64 {cs : List Value} (h : DataW.trod enc Try.prog w 0 sp held fuel 3 cs = some x) : ∃ a, cs = [.int .i64 a] := by
 obtain ⟨a, q, _, _⟩ := DataW.trod_int Try.underlying3 h
 exact ⟨a, q⟩
theorem trod_str {cs : List Value} (h : DataW.trod enc Try.prog w 0 sp held fuel 9 cs = some x) : ∃ s : By, cs = [.string (strB s)] ∧ s.length ≤ 9223372036854775807 := by
 obtain ⟨s, q, _, hs⟩ := DataW.trod_string Try.underlying9 h
 exact ⟨s.data.toList, by rw [q]; rfl, by unfold maxLen at hs; simpa using hs⟩
theorem trod_list {α : Type} {c : α → List Value} {Q : α → Prop} {T E : TypeId} {agg : Bool} {size bytes : Nat} (hT : Try.prog.underlying T = some (.slice E)) (tf : TyF Try.prog E agg size bytes) (hs : 0 < size)
  (one : ∀ {n : Nat} {y : DataW H × List MemPlace} {cs : List Value}, DataW.trod enc Try.prog w 0 sp held n E cs = some y → ∃ a, cs = c a ∧ Q a)
  (h : DataW.trod enc Try.prog w 0 sp held fuel T [v] = some x) : ∃ L : List α, LsM (heapM w) v c size L ∧ (∀ a ∈ L, Q a) ∧ L.length ≤ 9223372036854775807 := by
 obtain ⟨k, X, hS, hk, hX⟩ := trod_SlM hT (by rw [tf.cells]; exact hs) h
 rw [tf.cells] at hS hX
 have all : ∀ k', k' ≤ k → ∃ L : List α, L.length = k' ∧ (List.range k').flatMap X = L.flatMap c ∧ ∀ a ∈ L, Q a ∧ (c a).length = size := by
  intro k'
  induction k' with
  | zero => intro _; exact ⟨[], rfl, rfl, by simp⟩
  | succ k' ih =>
   intro hk'
   obtain ⟨L, h1, h2, h3⟩ := ih (by omega)
   obtain ⟨hl, n, y, hy⟩ := hX k' (by omega)
   obtain ⟨a, ha, hq⟩ := one hy
   refine ⟨L ++ [a], by simp [h1], ?_, fun b hb => ?_⟩
   ·rw [List.range_succ, List.flatMap_append, h2, List.flatMap_append]
    simp [ha]
   ·rcases List.mem_append.1 hb with hb | hb
    ·exact h3 b hb
    ·rw [List.mem_singleton.1 hb]; exact ⟨hq, by rw [← ha]; exact hl⟩
 obtain ⟨L, h1, h2, h3⟩ := all k (Nat.le_refl _)
 rw [h2] at hS
 subst h1
 exact ⟨L, ⟨hS, fun a ha => (h3 a ha).2⟩, fun a ha => (h3 a ha).1, by omega⟩
set_option maxRecDepth 100000 in
theorem open_struct {W : World} {r : Reach} {base : Nat} {d : DataW H} {p : List MemPlace} {T : TypeId} {fs : Array Field} (hT : Try.prog.underlying T = some (.struct fs)) (hv : Value.okWide Try.prog W r base T v) (h : DataW.Trod enc Try.prog w 0 sp held T v d p) :
  ∃ cs n y, v = .agg (List.toArray cs) ∧ DataW.trod enc Try.prog w 0 sp held n T cs = some y := by
 obtain ⟨cs, rfl, _⟩ := okWide_struct hT hv
 obtain ⟨fu, hf⟩ := h
 exact ⟨cs.toList, fu, _, by simp, hf⟩
end
end Go.Proofs.Ytjjpakjgppmmdaa

namespace Go.Proofs.Ytjjpakjgppmmdaa
open Go Go.RowKit Go.ChangeShapes Go.WideShapes K SH PT
theorem seg_app {α : Type} {cs rest : List α} (o k o' : Nat) (h : o + k = o') (hr : rest = cs.drop o') : (cs.drop o).take k ++ rest = cs.drop o := by
 rw [hr, ← h, ← List.drop_drop, List.take_append_drop]
theorem seg_end {α : Type} {cs : List α} (o k : Nat) (h : cs.length = o + k) : (cs.drop o).take k = cs.drop o := List.take_of_length_le (by simp; omega)
theorem seg_one {α : Type} {cs : List α} (o : Nat) (h : o < cs.length) : ∃ v, (cs.drop o).take 1 = [v] := ⟨cs[o], by rw [List.drop_eq_getElem_cons h]; rfl⟩
section
variable {H : Type} {enc : TypeId × Value → H} {w : World} {sp : Nat → Bool} {held : Bool} {fuel : Nat} {x : DataW H × List MemPlace} {v : Value} {cs : List Value}
theorem trod_root (h : DataW.trod enc Try.prog w 0 sp held fuel 55 cs = some x) : ∃ t : Rt, cs = rtC t ∧ t.ok := by
 have hl := trod_len Try.underlying55 TF.t55 h
 obtain ⟨_, _, e0⟩ := trod_seg TF.f55_0 TF.t24 h
 obtain ⟨_, _, e1⟩ := trod_seg TF.f55_1 TF.t23 h
 obtain ⟨_, _, e2⟩ := trod_seg TF.f55_2 TF.t23 h
 obtain ⟨_, _, e3⟩ := trod_seg TF.f55_3 TF.t23 h
 obtain ⟨e, q0⟩ := trod_u64 e0
 obtain ⟨a, q1, ha⟩ := trod_dig e1
 obtain ⟨b, q2, hb⟩ := trod_dig e2
 obtain ⟨c, q3, hc⟩ := trod_dig e3
 have hcs := (seg_app (cs := cs) 0 1 1 rfl (seg_app 1 32 33 rfl (seg_app 33 32 65 rfl (seg_end 65 32 hl)))).symm
 rw [q0, q1, q2, q3] at hcs
 exact ⟨⟨e, a, b, c⟩, hcs, ha, hb, hc⟩
theorem trod_head (h : DataW.trod enc Try.prog w 0 sp held fuel 26 cs = some x) : ∃ t : Hd, cs = hdC t ∧ t.ok := by
 have hl := trod_len Try.underlying26 TF.t26 h
 obtain ⟨_, _, e0⟩ := trod_seg TF.f26_0 TF.t24 h
 obtain ⟨_, _, e1⟩ := trod_seg TF.f26_1 TF.t23 h
 obtain ⟨_, _, e2⟩ := trod_seg TF.f26_2 TF.t23 h
 obtain ⟨e, q0⟩ := trod_u64 e0
 obtain ⟨a, q1, ha⟩ := trod_dig e1
 obtain ⟨b, q2, hb⟩ := trod_dig e2
 have hcs := (seg_app (cs := cs) 0 1 1 rfl (seg_app 1 32 33 rfl (seg_end 33 32 hl))).symm
 rw [q0, q1, q2] at hcs
 exact ⟨⟨e, a, b⟩, hcs, ha, hb⟩
theorem open_roots (h : DataW.trod enc Try.prog w 0 sp held fuel 27 [v] = some x) : ∃ L : List Rt, RtsM (heapM w) v L ∧ (∀ t ∈ L, t.ok) ∧ L.length ≤ 9223372036854775807 :=
 trod_list (c := rtC) (Q := fun t => t.ok) Try.underlying27 TF.t55 (by decide) (fun h => trod_root h) h
theorem trod_view (h : DataW.trod enc Try.prog w 0 sp held fuel 29 cs = some x) : ∃ t : Vw, VwM (heapM w) (.agg (List.toArray cs)) t := by
 have hl := trod_len Try.underlying29 TF.t29 h
 obtain ⟨_, _, e0⟩ := trod_seg TF.f29_0 TF.t23 h
 obtain ⟨_, _, e1⟩ := trod_seg TF.f29_1 TF.t26 h
 obtain ⟨_, _, e2⟩ := trod_seg TF.f29_2 TF.t27 h
 obtain ⟨a, q0, ha⟩ := trod_dig e0
 obtain ⟨b, q1, hb⟩ := trod_head e1
 obtain ⟨v, hv⟩ := seg_one (cs := cs) 97 (by omega)
 rw [hv] at e2
 obtain ⟨L, hL, hok, _⟩ := open_roots e2
 have hcs := (seg_app (cs := cs) 0 32 32 rfl (seg_app 32 65 97 rfl (seg_end 97 1 hl))).symm
 rw [q0, q1, hv] at hcs
 refine ⟨⟨a, b, L⟩, v, ?_, hL, ha, hb, hok⟩
 rw [show cs = _ from hcs]
 rfl
theorem trod_signed (h : DataW.trod enc Try.prog w 0 sp held fuel 71 cs = some x) : ∃ p : Sg × Value, cs = sgP p ∧ p.1.root.ok ∧ SlM (heapM w) p.2 1 p.1.sig.length (bs p.1.sig) := by
 have hl := trod_len Try.underlying71 TF.t71 h
 obtain ⟨_, _, e0⟩ := trod_seg TF.f71_0 TF.t55 h
 obtain ⟨_, _, e1⟩ := trod_seg TF.f71_1 TF.t41 h
 obtain ⟨a, q0, ha⟩ := trod_root e0
 obtain ⟨v, hv⟩ := seg_one (cs := cs) 97 (by omega)
 rw [hv] at e1
 obtain ⟨l, hs, _⟩ := trod_bytes Try.underlying41 Try.underlying5 TF.t5.cells e1
 have hcs := (seg_app (cs := cs) 0 97 97 rfl (seg_end 97 1 hl)).symm
 rw [q0, hv] at hcs
 exact ⟨(⟨a, l⟩, v), hcs, ha, hs⟩
theorem open_signeds (h : DataW.trod enc Try.prog w 0 sp held fuel 30 [v] = some x) : ∃ L : List (Sg × Value), SgsM (heapM w) v L ∧ L.length ≤ 9223372036854775807 := by
 obtain ⟨L, h1, h2, h3⟩ := trod_list (c := sgP) (Q := fun p => p.1.root.ok ∧ SlM (heapM w) p.2 1 p.1.sig.length (bs p.1.sig)) Try.underlying30 TF.t71 (by decide) (fun h => trod_signed h) h
 exact ⟨L, ⟨h1, h2⟩, h3⟩
theorem trod_proof (h : DataW.trod enc Try.prog w 0 sp held fuel 40 cs = some x) : ∃ (p : Prf) (sv : Value), cs = prL sv p.E p.I p.V ∧ DigM (heapM w) sv p.S ∧ p.I.length = 32 ∧ p.V.length = 32 := by
 have hl := trod_len Try.underlying40 TF.t40 h
 obtain ⟨_, _, e0⟩ := trod_seg TF.f40_0 TF.t38 h
 obtain ⟨_, _, e1⟩ := trod_seg TF.f40_1 TF.t3 h
 obtain ⟨_, _, e2⟩ := trod_seg TF.f40_2 TF.t23 h
 obtain ⟨_, _, e3⟩ := trod_seg TF.f40_3 TF.t23 h
 obtain ⟨v, hv⟩ := seg_one (cs := cs) 0 (by omega)
 rw [hv] at e0
 obtain ⟨S, hS, _⟩ := open_digs e0
 obtain ⟨E, q1⟩ := trod_i64 e1
 obtain ⟨I, q2, hI⟩ := trod_dig e2
 obtain ⟨V, q3, hV⟩ := trod_dig e3
 have hcs := (seg_app (cs := cs) 0 1 1 rfl (seg_app 1 1 2 rfl (seg_app 2 32 34 rfl (seg_end 34 32 hl)))).symm
 rw [hv, q1, q2, q3] at hcs
 exact ⟨⟨S, E, I, V⟩, v, hcs, hS, hI, hV⟩
theorem trod_bind (h : DataW.trod enc Try.prog w 0 sp held fuel 43 cs = some x) : ∃ (b : Bd) (kv : Value), cs = bdC b kv ∧ SlM (heapM w) kv 1 b.key.length (bs b.key) ∧ b.name.length ≤ 9223372036854775807 := by
 have hl := trod_len Try.underlying43 TF.t43 h
 obtain ⟨_, _, e0⟩ := trod_seg TF.f43_0 TF.t9 h
 obtain ⟨_, _, e1⟩ := trod_seg TF.f43_1 TF.t41 h
 obtain ⟨_, _, e2⟩ := trod_seg TF.f43_2 TF.t24 h
 obtain ⟨s, q0, hs⟩ := trod_str e0
 obtain ⟨v, hv⟩ := seg_one (cs := cs) 1 (by omega)
 rw [hv] at e1
 obtain ⟨l, hk, _⟩ := trod_bytes Try.underlying41 Try.underlying5 TF.t5.cells e1
 obtain ⟨z, q2⟩ := trod_u64 e2
 have hcs := (seg_app (cs := cs) 0 1 1 rfl (seg_app 1 1 2 rfl (seg_end 2 1 hl))).symm
 rw [q0, hv, q2] at hcs
 exact ⟨⟨s, l, z⟩, v, hcs, hk, hs⟩
theorem trod_answer (h : DataW.trod enc Try.prog w 0 sp held fuel 45 cs = some x) : ∃ (a : Aw) (sv kv : Value), cs = awC a sv kv ∧ AwOk (heapM w) a sv kv := by
 have hl := trod_len Try.underlying45 TF.t45 h
 obtain ⟨_, _, e0⟩ := trod_seg TF.f45_0 TF.t24 h
 obtain ⟨_, _, e1⟩ := trod_seg TF.f45_1 TF.t23 h
 obtain ⟨_, _, e2⟩ := trod_seg TF.f45_2 TF.t40 h
 obtain ⟨_, _, e3⟩ := trod_seg TF.f45_3 TF.t4 h
 obtain ⟨_, _, e4⟩ := trod_seg TF.f45_4 TF.t23 h
 obtain ⟨_, _, e5⟩ := trod_seg TF.f45_5 TF.t43 h
 obtain ⟨e, q0⟩ := trod_u64 e0
 obtain ⟨i, q1, hi⟩ := trod_dig e1
 obtain ⟨p, sv, q2, hS, hI, hV⟩ := trod_proof e2
 obtain ⟨t, q3⟩ := trod_bo e3
 obtain ⟨s, q4, hs⟩ := trod_dig e4
 obtain ⟨b, kv, q5, hk, hn⟩ := trod_bind e5
 have hcs := (seg_app (cs := cs) 0 1 1 rfl (seg_app 1 32 33 rfl (seg_app 33 66 99 rfl (seg_app 99 1 100 rfl (seg_app 100 32 132 rfl (seg_end 132 3 hl)))))).symm
 rw [q0, q1, q2, q3, q4, q5] at hcs
 exact ⟨⟨e, i, p, t, s, b⟩, sv, kv, hcs, hS, hk, hi, hs, hI, hV, hn⟩
theorem trod_found (h : DataW.trod enc Try.prog w 0 sp held fuel 48 cs = some x) : ∃ (f : Fd) (kv : Value), cs = fdC f kv ∧ SlM (heapM w) kv 1 f.bind.key.length (bs f.bind.key) ∧ f.bind.name.length ≤ 9223372036854775807 := by
 have hl := trod_len Try.underlying48 TF.t48 h
 obtain ⟨_, _, e0⟩ := trod_seg TF.f48_0 TF.t24 h
 obtain ⟨_, _, e1⟩ := trod_seg TF.f48_1 TF.t4 h
 obtain ⟨_, _, e2⟩ := trod_seg TF.f48_2 TF.t43 h
 obtain ⟨e, q0⟩ := trod_u64 e0
 obtain ⟨t, q1⟩ := trod_bo e1
 obtain ⟨b, kv, q2, hk, hn⟩ := trod_bind e2
 have hcs := (seg_app (cs := cs) 0 1 1 rfl (seg_app 1 1 2 rfl (seg_end 2 3 hl))).symm
 rw [q0, q1, q2] at hcs
 exact ⟨⟨e, t, b⟩, kv, hcs, hk, hn⟩
end
end Go.Proofs.Ytjjpakjgppmmdaa

namespace Go.Proofs.Ytjjpakjgppmmdaa
open Go Go.RowKit Go.ChangeShapes Go.WideShapes K SH PT
theorem open_answers {H : Type} {enc : TypeId × Value → H} {w : World} {sp : Nat → Bool} {held : Bool} {fuel : Nat} {x : DataW H × List MemPlace} {v : Value} (h : DataW.trod enc Try.prog w 0 sp held fuel 61 [v] = some x) : ∃ L : List AwT, AwsM (heapM w) v L ∧ L.length ≤ 9223372036854775807 := by
 obtain ⟨L, h1, h2, h3⟩ := trod_list (c := awP) (Q := fun p => AwOk (heapM w) p.1 p.2.1 p.2.2) Try.underlying61 TF.t45 (by decide) (fun h => by obtain ⟨a, sv, kv, h1, h2⟩ := trod_answer h; exact ⟨(a, sv, kv), h1, h2⟩) h
 exact ⟨L, ⟨h1, h2⟩, h3⟩
end Go.Proofs.Ytjjpakjgppmmdaa

namespace Go.Proofs.Ytjjpakjgppmmdaa
open Go Go.RowKit K SH PT
theorem getV_in {g : Bool} {size o off : Nat} {a b c l : List Value} {v : Value} (hl : l = a ++ b ++ c) (ha : a.length = off) (hb : o + (bif g then size else 1) ≤ b.length) (h : getV g size b.toArray o = some v) : getV g size l.toArray (off + o) = some v := by
 subst hl; subst ha
 unfold getV at h ⊢
 cases g with
 | true =>
  simp only [cond_true] at hb
  rw [if_pos rfl] at h ⊢
  rw [if_pos (by simpa using hb)] at h
  rw [if_pos (by simp; omega)]
  rw [← h]
  congr 2
  apply Array.toList_inj.mp
  simp only [Array.toList_extract, List.extract_eq_take_drop]
  rw [show a.length + o + size - (a.length + o) = size by omega, show o + size - o = size by omega]
  rw [List.append_assoc, ← List.drop_drop, List.drop_left, List.drop_append_of_le_length (by omega), List.take_append_of_le_length (by simp; omega)]
 | false =>
  simp only [cond_false] at hb
  rw [if_neg (by simp)] at h ⊢
  rw [← h]
  simp only [List.append_assoc]
  rw [List.getElem?_append_right (by omega), Nat.add_sub_cancel_left, List.getElem?_append_left (by omega)]
theorem K.St.rdp {P : Program} {m0 m : Mem} {F : List Nat} {w0 w : World} {Es : List Ent} {T : TypeId} {agg : Bool} {size bytes b : Nat} {c : Array Value} {t : TypeId} {v : Value} {p : Addr} (st : St m0 m F w0 w Es) (i : Nat) (hi : Es[i]? = some (K.blk b c t)) (hp : p = ⟨b, p.off, Option.none⟩) (tf : TyF P T agg size bytes) (hv : getV agg size c p.off = some v) : Reads P w T p v :=
 hp ▸ st.reads i hi tf hv
section
variable {P : Program} {n : Nat} {ops : Array Oper} {Q : Po} {rest : List Oper} {r : Fr} {w : World} {d : Nat} {ty : TypeId} {pos : String} {after : Array Edge}
theorem wl_valg {op : Op} {v : Value} {j t : Nat} {b want : Bool} (hj : (ops[j]?).bind (·.dst) = some t) (hb : r t = .bool b) (hv : b = want → Val P op ty r w v w) (hd : Nat.blt d n = true) (k : WL P n ops Q rest (upd d (bif b == want then v else undef) r) w) :
  WL P n ops Q (⟨some d, op, ty, pos, after, some (j, want)⟩ :: rest) r w := by
 refine wl_guard hj hb (fun h => ?_) (fun h => ?_) (.inr ⟨d, rfl, hd⟩)
 ·subst h
  refine wl_val (hv rfl) hd ?_
  have : (bif b == b then v else undef) = v := by cases b <;> rfl
  rwa [this] at k
 ·subst h
  have : (bif (!want) == want then v else undef) = undef := by cases want <;> rfl
  rwa [this] at k
theorem gx {x : Operand} {b want : Bool} {v : Value} (e : b = want) (h : ev r x = bif b == want then v else undef) : ev r x = v := by
 subst e
 rw [h]
 cases b <;> rfl
theorem v_pickA {c x y : Operand} {b b2 : Bool} (hc : ev r c = .bool b) (hx : ev r x = bif b == true then .bool b2 else undef) (hy : ev r y = .bool false) : Val P (.pick c x y) ty r w (.bool (b && b2)) w := by
 have h := v_pick (P := P) (w := w) (ty := ty) (x := x) (y := y) hc
 rw [hx, hy] at h
 cases b <;> exact h
theorem v_pickO {c x y : Operand} {b b2 : Bool} (hc : ev r c = .bool b) (hx : ev r x = .bool true) (hy : ev r y = bif b == false then .bool b2 else undef) : Val P (.pick c x y) ty r w (.bool (b || b2)) w := by
 have h := v_pick (P := P) (w := w) (ty := ty) (x := x) (y := y) hc
 rw [hx, hy] at h
 cases b <;> exact h
end
theorem one_cell {v : Value} (h : v.oneCell' = true) : ∀ u ∈ [v], u.oneCell' = true := fun u hu => by rw [List.mem_singleton.1 hu]; exact h
theorem one_app {a b : List Value} (ha : ∀ u ∈ a, u.oneCell' = true) (hb : ∀ u ∈ b, u.oneCell' = true) : ∀ u ∈ a ++ b, u.oneCell' = true := fun u hu => (List.mem_append.1 hu).elim (ha u) (hb u)
theorem SlM.one1 {m : Mem} {v : Value} {size k : Nat} {xs : List Value} (h : SlM m v size k xs) : v.oneCell' = true := by obtain ⟨_, _, _, h, _⟩ := h; rw [h]; rfl
theorem LsM.one1 {α : Type} {c : α → List Value} {size : Nat} {m : Mem} {v : Value} {L : List α} (h : LsM m v c size L) : v.oneCell' = true := SlM.one1 h.row
theorem PcsM.one1 {m : Mem} {v : Value} {L : List (List UInt8 × Value)} (h : PcsM m v L) : v.oneCell' = true := SlM.one1 h.1
abbrev SgOk (m : Mem) (x : Sg) (sv : Value) : Prop := SlM m sv 1 x.sig.length (bs x.sig) ∧ x.root.ok
abbrev VwOk (m : Mem) (x : Vw) (rv : Value) : Prop := RtsM m rv x.roots ∧ x.pin.length = 32 ∧ x.head.ok ∧ ∀ y ∈ x.roots, Rt.ok y
abbrev BdOk (m : Mem) (x : Bd) (kv : Value) : Prop := SlM m kv 1 x.key.length (bs x.key) ∧ x.name.length ≤ 9223372036854775807
abbrev FdOk (m : Mem) (x : Fd) (kv : Value) : Prop := SlM m kv 1 x.bind.key.length (bs x.bind.key) ∧ x.bind.name.length ≤ 9223372036854775807
section
variable {m m' : Mem} {v : Value}
theorem SgOk.mono {x : Sg} (h : SgOk m x v) (hm : ∀ k o, m k = some o → m' k = some o) : SgOk m' x v := ⟨SlM.mono h.1 hm, h.2⟩
theorem VwOk.mono {x : Vw} (h : VwOk m x v) (hm : ∀ k o, m k = some o → m' k = some o) : VwOk m' x v := ⟨LsM.mono h.1 hm, h.2⟩
theorem BdOk.mono {x : Bd} (h : BdOk m x v) (hm : ∀ k o, m k = some o → m' k = some o) : BdOk m' x v := ⟨SlM.mono h.1 hm, h.2⟩
theorem FdOk.mono {x : Fd} (h : FdOk m x v) (hm : ∀ k o, m k = some o → m' k = some o) : FdOk m' x v := ⟨SlM.mono h.1 hm, h.2⟩
theorem sgLen {x : Sg} (h : SgOk m x v) : (sgC x.root v).length = 98 := length_sgC h.2
theorem vwLen {x : Vw} (h : VwOk m x v) : (vwC x.pin x.head v).length = 98 := length_vwC h.2.1 h.2.2.1
theorem vwOne {x : Vw} (h : VwOk m x v) : ∀ u ∈ vwC x.pin x.head v, u.oneCell' = true := one_vwC (LsM.one1 h.1)
theorem vwP {x : Vw} (h : VwOk m x v) : getV true 32 (vwC x.pin x.head v).toArray 0 = some (arr x.pin) := vw_p h.2.1
theorem vwR {x : Vw} (h : VwOk m x v) : getV false 1 (vwC x.pin x.head v).toArray 97 = some v := vw_r h.2.1 h.2.2.1
theorem fdOne {x : Fd} (h : FdOk m x v) : ∀ u ∈ fdC x v, u.oneCell' = true := fun u hu => one_fdC (f := x) (SlM.one1 h.1) u hu
end
def rt0 : Rt := ⟨0, z32, z32, z32⟩
def sg0 : Sg := ⟨rt0, []⟩
def aw0 : Aw := ⟨0, z32, ⟨[], 0, z32, z32⟩, false, z32, bd0⟩
theorem aw0_ok {m : Mem} : AwOk m aw0 (.slice none 0 0) (.slice none 0 0) := ⟨⟨by simp [aw0, D32], SlM.nil⟩, SlM.nil, rfl, rfl, rfl, rfl, by decide⟩
theorem vw0_ok {m : Mem} : VwOk m vw0 (.slice none 0 0) := ⟨LsM.nil, rfl, hd0_ok, fun y hy => by cases (show y ∈ ([] : List Rt) from hy)⟩
theorem fd0_ok {m : Mem} : FdOk m fd0 (.slice none 0 0) := ⟨SlM.nil, by decide⟩
structure Wt where
 view : Vw
 name : By
 index : By
 last : Fd
def wtC (x : Wt) (rvView kvLast : Value) : List Value := (vwC x.view.pin x.view.head rvView) ++ ([.string (strB x.name)] ++ ((bs x.index) ++ ((fdC x.last kvLast))))
structure WtOk (m : Mem) (x : Wt) (rvView kvLast : Value) : Prop where
 view : VwOk m x.view rvView
 name : x.name.length ≤ 9223372036854775807
 index : x.index.length = 32
 last : FdOk m x.last kvLast
theorem WtOk.mono {m m' : Mem} {x : Wt} {rvView kvLast : Value} (h : WtOk m x rvView kvLast) (hm : ∀ k o, m k = some o → m' k = some o) : WtOk m' x rvView kvLast :=
 ⟨⟨h.view.1.mono hm, h.view.2⟩, h.name, h.index, ⟨h.last.1.mono hm, h.last.2⟩⟩
def WtM (m : Mem) (v : Value) (x : Wt) : Prop := ∃ rvView kvLast, v = .agg (wtC x rvView kvLast).toArray ∧ WtOk m x rvView kvLast
theorem WtM.mono {m m' : Mem} {v : Value} {x : Wt} (h : WtM m v x) (hm : ∀ k o, m k = some o → m' k = some o) : WtM m' v x := by
 obtain ⟨rvView, kvLast, h1, h2⟩ := h
 exact ⟨_, _, h1, h2.mono hm⟩
section
variable {m : Mem} {x : Wt} {rvView kvLast : Value} (h : WtOk m x rvView kvLast)
include h
theorem Wt.len : (wtC x rvView kvLast).length = 136 := by
 have l0 : ((vwC x.view.pin x.view.head rvView)).length = 98 := vwLen h.view
 have l2 : ((bs x.index)).length = 32 := (by rw [length_bs]; exact h.index)
 have l3 : ((fdC x.last kvLast)).length = 5 := rfl
 simp only [wtC, List.length_append, List.length_cons, List.length_nil, l0, l2, l3]
theorem Wt.g0_98 : getV true 98 (wtC x rvView kvLast).toArray 0 = some (.agg (vwC x.view.pin x.view.head rvView).toArray) := by
 have l0 : ((vwC x.view.pin x.view.head rvView)).length = 98 := vwLen h.view
 have l2 : ((bs x.index)).length = 32 := (by rw [length_bs]; exact h.index)
 have l3 : ((fdC x.last kvLast)).length = 5 := rfl
 have e : wtC x rvView kvLast = (([] : List Value)) ++ ((vwC x.view.pin x.view.head rvView)) ++ ([.string (strB x.name)] ++ (bs x.index) ++ (fdC x.last kvLast) ++ ([] : List Value)) := by simp [wtC]
 exact getV_seg (a := ([] : List Value)) (b := (vwC x.view.pin x.view.head rvView)) (c := [.string (strB x.name)] ++ (bs x.index) ++ (fdC x.last kvLast) ++ ([] : List Value)) e (by simp only [List.length_append, List.length_cons, List.length_nil, l0, l2, l3]) l0
theorem Wt.g0_32 : getV true 32 (wtC x rvView kvLast).toArray 0 = some (arr x.view.pin) := by
 have l0 : ((vwC x.view.pin x.view.head rvView)).length = 98 := vwLen h.view
 have l2 : ((bs x.index)).length = 32 := (by rw [length_bs]; exact h.index)
 have l3 : ((fdC x.last kvLast)).length = 5 := rfl
 have e : wtC x rvView kvLast = (([] : List Value)) ++ ((vwC x.view.pin x.view.head rvView)) ++ ([.string (strB x.name)] ++ (bs x.index) ++ (fdC x.last kvLast) ++ ([] : List Value)) := by simp [wtC]
 exact getV_in (o := 0) e (by simp only [List.length_append, List.length_cons, List.length_nil, l0, l2, l3]) (by rw [l0]; decide) (vwP h.view)
theorem Wt.g97_1 : getV false 1 (wtC x rvView kvLast).toArray 97 = some (rvView) := by
 have l0 : ((vwC x.view.pin x.view.head rvView)).length = 98 := vwLen h.view
 have l2 : ((bs x.index)).length = 32 := (by rw [length_bs]; exact h.index)
 have l3 : ((fdC x.last kvLast)).length = 5 := rfl
 have e : wtC x rvView kvLast = (([] : List Value)) ++ ((vwC x.view.pin x.view.head rvView)) ++ ([.string (strB x.name)] ++ (bs x.index) ++ (fdC x.last kvLast) ++ ([] : List Value)) := by simp [wtC]
 exact getV_in (o := 97) e (by simp only [List.length_append, List.length_cons, List.length_nil, l0, l2, l3]) (by rw [l0]; decide) (vwR h.view)
theorem Wt.g98_1 : getV false 1 (wtC x rvView kvLast).toArray 98 = some (.string (strB x.name)) := by
 have l0 : ((vwC x.view.pin x.view.head rvView)).length = 98 := vwLen h.view
 have l2 : ((bs x.index)).length = 32 := (by rw [length_bs]; exact h.index)
 have l3 : ((fdC x.last kvLast)).length = 5 := rfl
 have e : wtC x rvView kvLast = (([] : List Value) ++ (vwC x.view.pin x.view.head rvView)) ++ ([.string (strB x.name)]) ++ ((bs x.index) ++ (fdC x.last kvLast) ++ ([] : List Value)) := by simp [wtC]
 exact getV_lst (b := []) (a := ([] : List Value) ++ (vwC x.view.pin x.view.head rvView)) (c := (bs x.index) ++ (fdC x.last kvLast) ++ ([] : List Value)) (by rw [e]; simp) (by simp only [List.length_append, List.length_cons, List.length_nil, l0, l2, l3])
theorem Wt.g99_32 : getV true 32 (wtC x rvView kvLast).toArray 99 = some (arr x.index) := by
 have l0 : ((vwC x.view.pin x.view.head rvView)).length = 98 := vwLen h.view
 have l2 : ((bs x.index)).length = 32 := (by rw [length_bs]; exact h.index)
 have l3 : ((fdC x.last kvLast)).length = 5 := rfl
 have e : wtC x rvView kvLast = (([] : List Value) ++ (vwC x.view.pin x.view.head rvView) ++ [.string (strB x.name)]) ++ ((bs x.index)) ++ ((fdC x.last kvLast) ++ ([] : List Value)) := by simp [wtC]
 exact getV_seg (a := ([] : List Value) ++ (vwC x.view.pin x.view.head rvView) ++ [.string (strB x.name)]) (b := (bs x.index)) (c := (fdC x.last kvLast) ++ ([] : List Value)) e (by simp only [List.length_append, List.length_cons, List.length_nil, l0, l2, l3]) l2
theorem Wt.g131_5 : getV true 5 (wtC x rvView kvLast).toArray 131 = some (.agg (fdC x.last kvLast).toArray) := by
 have l0 : ((vwC x.view.pin x.view.head rvView)).length = 98 := vwLen h.view
 have l2 : ((bs x.index)).length = 32 := (by rw [length_bs]; exact h.index)
 have l3 : ((fdC x.last kvLast)).length = 5 := rfl
 have e : wtC x rvView kvLast = (([] : List Value) ++ (vwC x.view.pin x.view.head rvView) ++ [.string (strB x.name)] ++ (bs x.index)) ++ ((fdC x.last kvLast)) ++ (([] : List Value)) := by simp [wtC]
 exact getV_seg (a := ([] : List Value) ++ (vwC x.view.pin x.view.head rvView) ++ [.string (strB x.name)] ++ (bs x.index)) (b := (fdC x.last kvLast)) (c := ([] : List Value)) e (by simp only [List.length_append, List.length_cons, List.length_nil, l0, l2, l3]) l3
theorem Wt.g132_1 : getV false 1 (wtC x rvView kvLast).toArray 132 = some (.bool x.last.there) := by
 have l0 : ((vwC x.view.pin x.view.head rvView)).length = 98 := vwLen h.view
 have l2 : ((bs x.index)).length = 32 := (by rw [length_bs]; exact h.index)
 have l3 : ((fdC x.last kvLast)).length = 5 := rfl
 have e : wtC x rvView kvLast = (([] : List Value) ++ (vwC x.view.pin x.view.head rvView) ++ [.string (strB x.name)] ++ (bs x.index)) ++ ((fdC x.last kvLast)) ++ (([] : List Value)) := by simp [wtC]
 exact getV_in (o := 1) e (by simp only [List.length_append, List.length_cons, List.length_nil, l0, l2, l3]) (by rw [l3]; decide) (rfl)
theorem Wt.g134_1 : getV false 1 (wtC x rvView kvLast).toArray 134 = some (kvLast) := by
 have l0 : ((vwC x.view.pin x.view.head rvView)).length = 98 := vwLen h.view
 have l2 : ((bs x.index)).length = 32 := (by rw [length_bs]; exact h.index)
 have l3 : ((fdC x.last kvLast)).length = 5 := rfl
 have e : wtC x rvView kvLast = (([] : List Value) ++ (vwC x.view.pin x.view.head rvView) ++ [.string (strB x.name)] ++ (bs x.index)) ++ ((fdC x.last kvLast)) ++ (([] : List Value)) := by simp [wtC]
 exact getV_in (o := 3) e (by simp only [List.length_append, List.length_cons, List.length_nil, l0, l2, l3]) (by rw [l3]; decide) (rfl)
theorem Wt.one : ∀ u ∈ wtC x rvView kvLast, u.oneCell' = true := (one_app ((vwOne h.view)) (one_app (one_cell rfl) (one_app (one_bs _) ((fdOne h.last)))))
end
def Wt.zero : Wt := ⟨vw0, [], z32, fd0⟩
theorem Wt.zok {m : Mem} : WtOk m Wt.zero (.slice none 0 0) (.slice none 0 0) := ⟨vw0_ok, by decide, rfl, fd0_ok⟩
theorem Wt.fill_0_1 {m : Mem} {x : Wt} {rvView : Value} (h0 : VwOk m x.view rvView) (h1 : x.name.length ≤ 9223372036854775807) : FillR (#[(0, 98), (98, 1), (99, 32), (131, 5)][·]?) (Value.agg ((List.replicate 32 (Value.int .u8 0) ++ ([Value.int .u64 0] ++ List.replicate 32 (Value.int .u8 0) ++ List.replicate 32 (Value.int .u8 0)) ++ [Value.slice none 0 0]) ++ [Value.string ⟨#[]⟩] ++ List.replicate 32 (Value.int .u8 0) ++ ([Value.int .u64 0] ++ [Value.bool false] ++ ([Value.string ⟨#[]⟩] ++ [Value.slice none 0 0] ++ [Value.int .u64 0]))).toArray).cells [(0, .agg (vwC x.view.pin x.view.head rvView).toArray), (1, .string (strB x.name))] (wtC ⟨x.view, x.name, z32, fd0⟩ rvView   (.slice none 0 0)).toArray := by
 have l0 : ((vwC x.view.pin x.view.head rvView)).length = 98 := vwLen h0
 refine fill_one (([] : List Value)) (((List.replicate 32 (Value.int .u8 0) ++ ([Value.int .u64 0] ++ List.replicate 32 (Value.int .u8 0) ++ List.replicate 32 (Value.int .u8 0)) ++ [Value.slice none 0 0]))) (([Value.string ⟨#[]⟩]) ++ (List.replicate 32 (Value.int .u8 0)) ++ (([Value.int .u64 0] ++ [Value.bool false] ++ ([Value.string ⟨#[]⟩] ++ [Value.slice none 0 0] ++ [Value.int .u64 0]))) ++ ([] : List Value)) (by first | rfl | simp [arr, hdV, rtV, Value.cells, l0]) (by first | rfl | simp [length_bs, List.length_replicate, l0]) (by first | rfl | simp [arr, hdV, rtV, Value.cells, l0]) ?_
 refine fill_one (([] : List Value) ++ (vwC x.view.pin x.view.head rvView)) (([Value.string ⟨#[]⟩])) ((List.replicate 32 (Value.int .u8 0)) ++ (([Value.int .u64 0] ++ [Value.bool false] ++ ([Value.string ⟨#[]⟩] ++ [Value.slice none 0 0] ++ [Value.int .u64 0]))) ++ ([] : List Value)) (by first | rfl | simp [arr, hdV, rtV, Value.cells, l0]) (by first | rfl | simp [length_bs, List.length_replicate, l0]) (by first | rfl | simp [arr, hdV, rtV, Value.cells, l0]) ?_
 first | rfl | (simp [FillR, wtC, arr, hdV, rtV, Value.cells, fd0, vw0, z32, bdC, hdC, fdC, vwC, z32, bs, u8, List.replicate]; done) | (simp [FillR, wtC, arr, hdV, rtV, Value.cells, fd0, vw0, z32, bdC, hdC, fdC, vwC, z32, bs, u8, List.replicate] <;> repeat' (first | rfl | constructor))
theorem Wt.fill_0_1_2_3 {m : Mem} {x : Wt} {rvView kvLast : Value} (h0 : VwOk m x.view rvView) (h1 : x.name.length ≤ 9223372036854775807) (h2 : x.index.length = 32) (h3 : FdOk m x.last kvLast) : FillR (#[(0, 98), (98, 1), (99, 32), (131, 5)][·]?) (Value.agg ((List.replicate 32 (Value.int .u8 0) ++ ([Value.int .u64 0] ++ List.replicate 32 (Value.int .u8 0) ++ List.replicate 32 (Value.int .u8 0)) ++ [Value.slice none 0 0]) ++ [Value.string ⟨#[]⟩] ++ List.replicate 32 (Value.int .u8 0) ++ ([Value.int .u64 0] ++ [Value.bool false] ++ ([Value.string ⟨#[]⟩] ++ [Value.slice none 0 0] ++ [Value.int .u64 0]))).toArray).cells [(0, .agg (vwC x.view.pin x.view.head rvView).toArray), (1, .string (strB x.name)), (2, arr x.index), (3, .agg (fdC x.last kvLast).toArray)] (wtC ⟨x.view, x.name, x.index, x.last⟩ rvView   kvLast).toArray := by
 have l0 : ((vwC x.view.pin x.view.head rvView)).length = 98 := vwLen h0
 have l2 : ((bs x.index)).length = 32 := (by rw [length_bs]; exact h2)
 have l3 : ((fdC x.last kvLast)).length = 5 := rfl
 refine fill_one (([] : List Value)) (((List.replicate 32 (Value.int .u8 0) ++ ([Value.int .u64 0] ++ List.replicate 32 (Value.int .u8 0) ++ List.replicate 32 (Value.int .u8 0)) ++ [Value.slice none 0 0]))) (([Value.string ⟨#[]⟩]) ++ (List.replicate 32 (Value.int .u8 0)) ++ (([Value.int .u64 0] ++ [Value.bool false] ++ ([Value.string ⟨#[]⟩] ++ [Value.slice none 0 0] ++ [Value.int .u64 0]))) ++ ([] : List Value)) (by first | rfl | simp [arr, hdV, rtV, Value.cells, l0, l2, l3]) (by first | rfl | simp [length_bs, List.length_replicate, l0, l2, l3]) (by first | rfl | simp [arr, hdV, rtV, Value.cells, l0, l2, l3]) ?_
 refine fill_one (([] : List Value) ++ (vwC x.view.pin x.view.head rvView)) (([Value.string ⟨#[]⟩])) ((List.replicate 32 (Value.int .u8 0)) ++ (([Value.int .u64 0] ++ [Value.bool false] ++ ([Value.string ⟨#[]⟩] ++ [Value.slice none 0 0] ++ [Value.int .u64 0]))) ++ ([] : List Value)) (by first | rfl | simp [arr, hdV, rtV, Value.cells, l0, l2, l3]) (by first | rfl | simp [length_bs, List.length_replicate, l0, l2, l3]) (by first | rfl | simp [arr, hdV, rtV, Value.cells, l0, l2, l3]) ?_
 refine fill_one (([] : List Value) ++ (vwC x.view.pin x.view.head rvView) ++ [.string (strB x.name)]) ((List.replicate 32 (Value.int .u8 0))) ((([Value.int .u64 0] ++ [Value.bool false] ++ ([Value.string ⟨#[]⟩] ++ [Value.slice none 0 0] ++ [Value.int .u64 0]))) ++ ([] : List Value)) (by first | rfl | simp [arr, hdV, rtV, Value.cells, l0, l2, l3]) (by first | rfl | simp [length_bs, List.length_replicate, l0, l2, l3]) (by first | rfl | simp [arr, hdV, rtV, Value.cells, l0, l2, l3]) ?_
 refine fill_one (([] : List Value) ++ (vwC x.view.pin x.view.head rvView) ++ [.string (strB x.name)] ++ (bs x.index)) ((([Value.int .u64 0] ++ [Value.bool false] ++ ([Value.string ⟨#[]⟩] ++ [Value.slice none 0 0] ++ [Value.int .u64 0])))) (([] : List Value)) (by first | rfl | simp [arr, hdV, rtV, Value.cells, l0, l2, l3]) (by first | rfl | simp [length_bs, List.length_replicate, l0, l2, l3]) (by first | rfl | simp [arr, hdV, rtV, Value.cells, l0, l2, l3]) ?_
 first | rfl | (simp [FillR, wtC, arr, hdV, rtV, Value.cells, fd0, vw0, z32, bdC, hdC, fdC, vwC, z32, bs, u8, List.replicate]; done) | (simp [FillR, wtC, arr, hdV, rtV, Value.cells, fd0, vw0, z32, bdC, hdC, fdC, vwC, z32, bs, u8, List.replicate] <;> repeat' (first | rfl | constructor))
end Go.Proofs.Ytjjpakjgppmmdaa

namespace Go.Proofs.Ytjjpakjgppmmdaa
open Go Go.RowKit K SH PT
def newW (pin name : By) : Wt × Int := if okName name then (⟨newV pin, name, z32, fd0⟩, 0) else (Wt.zero, 4)
def epW (w : Wt) : UInt64 := UInt64.ofNat w.view.roots.length + 1
def lrnW (w : Wt) (s : Sg) : Vw := (learnG w.view [s]).1
def seesW (w : Wt) (s : Sg) (a : Aw) : Fd := askF (lrnW w s) w.name (epW w) a
def stpE (w : Wt) (s : Sg) (a : Aw) : Int :=
 if ¬ s.root.epoch = epW w then 10
 else if ¬ (learnG w.view [s]).2 = 0 then (learnG w.view [s]).2
 else if ¬ askE (lrnW w s) w.name (epW w) a = 0 then askE (lrnW w s) w.name (epW w) a
 else if 0 < w.view.roots.length ∧ ¬ a.index = w.index then 15
 else nextE w.last (seesW w s a)
def stepW (w : Wt) (s : Sg) (a : Aw) : Wt := if stpE w s a = 0 then ⟨lrnW w s, w.name, a.index, seesW w s a⟩ else Wt.zero
def expE (w : Wt) (key : By) : Int := if w.last.there = false then 7 else if ¬ w.last.bind.key = key then 5 else 0
section
variable {w : Wt} {s : Sg} {a : Aw}
theorem step_10 (h : ¬ s.root.epoch = epW w) : stpE w s a = 10 := by rw [stpE, if_pos h]
theorem step_l (h : s.root.epoch = epW w) (h2 : ¬ (learnG w.view [s]).2 = 0) : stpE w s a = (learnG w.view [s]).2 := by rw [stpE, if_neg (not_not_intro h), if_pos h2]
theorem step_a (h : s.root.epoch = epW w) (h2 : (learnG w.view [s]).2 = 0) (h3 : ¬ askE (lrnW w s) w.name (epW w) a = 0) : stpE w s a = askE (lrnW w s) w.name (epW w) a := by rw [stpE, if_neg (not_not_intro h), if_neg (not_not_intro h2), if_pos h3]
theorem step_15 (h : s.root.epoch = epW w) (h2 : (learnG w.view [s]).2 = 0) (h3 : askE (lrnW w s) w.name (epW w) a = 0) (h4 : 0 < w.view.roots.length ∧ ¬ a.index = w.index) : stpE w s a = 15 := by rw [stpE, if_neg (not_not_intro h), if_neg (not_not_intro h2), if_neg (not_not_intro h3), if_pos h4]
theorem step_n (h : s.root.epoch = epW w) (h2 : (learnG w.view [s]).2 = 0) (h3 : askE (lrnW w s) w.name (epW w) a = 0) (h4 : ¬ (0 < w.view.roots.length ∧ ¬ a.index = w.index)) : stpE w s a = nextE w.last (seesW w s a) := by rw [stpE, if_neg (not_not_intro h), if_neg (not_not_intro h2), if_neg (not_not_intro h3), if_neg h4]
theorem stepW_no (h : ¬ stpE w s a = 0) : stepW w s a = Wt.zero := by rw [stepW, if_neg h]
theorem stepW_yes (h : stpE w s a = 0) : stepW w s a = ⟨lrnW w s, w.name, a.index, seesW w s a⟩ := by rw [stepW, if_pos h]
end
theorem wt0_M {m : Mem} : WtM m (.agg (wtC Wt.zero (.slice none 0 0) (.slice none 0 0)).toArray) Wt.zero := ⟨_, _, rfl, Wt.zok⟩
theorem ofNat_len {n : Nat} (h : n ≤ 1000000) : (UInt64.ofNat n).toNat = n := by rw [UInt64.toNat_ofNat']; omega
theorem ofNat_len1 {n : Nat} (h : n ≤ 1000000) : (UInt64.ofNat n + 1).toNat = n + 1 := by rw [UInt64.toNat_add, ofNat_len h, show (1 : UInt64).toNat = 1 from rfl]; omega
section
variable {m : Mem} {wI : World}
theorem c_mnew {pin name : By} (him : Im m wI) (hp : pin.length = 32) (hn : name.length ≤ 9223372036854775807) : Ret Try.prog 35 #[arr pin, .string (strB name)] wI fun v' w' => Out m wI w' fun m' => ∃ v2, v' = .tuple #[v2, .int .i64 (newW pin name).2] ∧ WtM m' v2 (newW pin name).1 := by
 have st := St.start him
 have hh : Hd.ok ⟨0, z32, pin⟩ := ⟨rfl, hp⟩
 have hnv : VwOk m (newV pin) (.slice none 0 0) := ⟨LsM.nil, hp, hh, by simp [newV]⟩
 refine ret_of Try.call35 Try.func35 rfl Try.ntmps35 Try.results35 rfl ?_
 refine wc_seq ?_
 refine wc_region ?_
 refine wl_box (v := arr pin) rfl st rfl ?_
 intro b2 w st
 refine wl_alloc TF.z69 st rfl ?_
 intro b4 w st
 refine wl_val (v_assign' (by conv => (lhs; whnf))) rfl ?_
 refine wl_nil ?_
 refine then_go ?_
 refine wc_seq ?_
 refine wc_seq ?_
 refine wc_region ?_
 refine wl_val (v_move' (by conv => (lhs; whnf))) rfl ?_
 refine wl_byte1 0 Try.underlying41 TF.t5 TF.z5 rfl st rfl ?_
 intro b7 w st
 obtain ⟨m1, hg1, hm1, st⟩ := st.freeze (i := 0) rfl (by simp)
 change St _ _ _ _ _ [_, _] at st
 have hs1 : SlM m1 (.slice (some ⟨b7, 0, none⟩) 1 1) 1 ([0] : By).length (bs [0]) := SlM.ofBlock (pre := []) (post := []) hm1 (by simp) rfl (Nat.le_refl _)
 refine wl_val (v_build (c' := (bdC ⟨name, [0], 0⟩ (.slice (some ⟨b7, 0, none⟩) 1 1)).toArray) [(0, .string (strB name)), (1, .slice (some ⟨b7, 0, none⟩) 1 1)] TF.z43 TF.p43 rfl (fill_bd rfl)) rfl ?_
 refine wl_call rfl (c_reccheck (b := ⟨name, [0], 0⟩) st.im ⟨_, rfl, hs1, hn⟩) rfl ?_
 rintro v9 w ⟨t9, rfl⟩
 have st := st.pure t9
 refine wl_val (v_neq rfl rfl) rfl ?_
 refine wl_nil ?_
 refine then_go ?_
 refine wc_if rfl (fun h10 => ?_) (fun h10 => ?_)
 ·refine wc_seq ?_
  refine wc_region ?_
  refine wl_val (v_build (c' := (wtC Wt.zero (.slice none 0 0) (.slice none 0 0)).toArray) [] TF.z69 TF.p69 rfl rfl) rfl ?_
  refine wl_storeW 0 st rfl TF.t69 rfl rfl (by first | (rw [List.size_toArray]; exact Wt.len (by assumption)) | rfl) (by first | rfl | exact Wt.len (by assumption)) (by first | exact (Wt.one (by assumption)) | exact (Wt.one (Wt.zok (m := fun _ => none)))) ?_
  intro w st
  refine wl_val (v_assign' (by conv => (lhs; whnf))) rfl ?_
  refine wl_nil ?_
  refine then_go ?_
  refine wc_ret (then_ret ?_)
  have hno : ¬ okName name := by intro hc; rw [checkE_name, if_pos hc] at h10; exact h10 rfl
  have e : newW pin name = (Wt.zero, 4) := by rw [newW, if_neg hno]
  rw [e]
  exact ret2c rfl (st.reads 0 rfl TF.t69 (getV_all rfl)) rfl ((st.keepOnly (l := []) (List.nil_sublist _)).out ⟨_, rfl, wt0_M⟩)
 ·refine wc_skip ?_
  refine then_go ?_
  refine wc_seq ?_
  have hyes : okName name := by
   refine Decidable.byContradiction fun hc => h10 ?_
   rw [checkE_name, if_neg hc]
   decide
  have e : newW pin name = (⟨newV pin, name, z32, fd0⟩, 0) := by rw [newW, if_pos hyes]
  have hok : WtOk m1 ⟨newV pin, name, z32, fd0⟩ (.slice none 0 0) (.slice none 0 0) := ⟨⟨LsM.nil, hp, hh, by simp [newV]⟩, hn, rfl, fd0_ok⟩
  refine wc_region ?_
  refine wl_val (v_load rfl (by first | exact st.rdp 1 rfl (by exact rfl) TF.t23 (by exact (getV_all (by rw [size_arr]; assumption))))) rfl ?_
  refine wl_call rfl (c_new st.im hp) rfl ?_
  rintro v13 w ⟨t13, rfl⟩
  have st := st.pure t13
  refine wl_val (v_move' (by conv => (lhs; whnf))) rfl ?_
  refine wl_val (v_build (c' := (wtC (⟨newV pin, name, z32, fd0⟩) (.slice none 0 0) (.slice none 0 0)).toArray) _ TF.z69 TF.p69 rfl (Wt.fill_0_1 (x := ⟨newV pin, name, z32, fd0⟩) hnv hn)) rfl ?_
  refine wl_storeW 0 st rfl TF.t69 rfl rfl (by first | (rw [List.size_toArray]; exact Wt.len (by assumption)) | rfl) (by first | rfl | exact Wt.len (by assumption)) (by first | exact (Wt.one (by assumption)) | exact (Wt.one (Wt.zok (m := fun _ => none)))) ?_
  intro w st
  refine wl_val (v_assign' (by conv => (lhs; whnf))) rfl ?_
  refine wl_nil ?_
  refine then_go ?_
  refine wc_ret ?_
  rw [e]
  exact ret2c rfl (st.reads 0 rfl TF.t69 (getV_all (by exact Wt.len hok))) rfl ((st.keepOnly (l := []) (List.nil_sublist _)).out ⟨_, rfl, _, _, rfl, hok⟩)
end
end Go.Proofs.Ytjjpakjgppmmdaa

namespace Go.Proofs.Ytjjpakjgppmmdaa
open Go Go.RowKit Go.ChangeShapes Go.WideShapes K SH PT
section
variable {H : Type} {enc : TypeId × Value → H} {w : World} {sp : Nat → Bool} {held : Bool} {fuel : Nat} {x : DataW H × List MemPlace} {v : Value} {cs : List Value}
theorem trod_viewC (h : DataW.trod enc Try.prog w 0 sp held fuel 29 cs = some x) : ∃ (t : Vw) (rv : Value), cs = vwC t.pin t.head rv ∧ VwOk (heapM w) t rv := by
 obtain ⟨t, rv, h1, h2⟩ := trod_view h
 simp only [Value.agg.injEq] at h1
 exact ⟨t, rv, by simpa using congrArg Array.toList h1, h2⟩
theorem trod_watch (h : DataW.trod enc Try.prog w 0 sp held fuel 69 cs = some x) : ∃ (t : Wt) (rv kv : Value), cs = wtC t rv kv ∧ WtOk (heapM w) t rv kv := by
 have hl := trod_len Try.underlying69 TF.t69 h
 obtain ⟨_, _, e0⟩ := trod_seg TF.f69_0 TF.t29 h
 obtain ⟨_, _, e1⟩ := trod_seg TF.f69_1 TF.t9 h
 obtain ⟨_, _, e2⟩ := trod_seg TF.f69_2 TF.t23 h
 obtain ⟨_, _, e3⟩ := trod_seg TF.f69_3 TF.t48 h
 obtain ⟨a, rv, q0, ha⟩ := trod_viewC e0
 obtain ⟨b, q1, hb⟩ := trod_str e1
 obtain ⟨c, q2, hc⟩ := trod_dig e2
 obtain ⟨d, kv, q3, hd⟩ := trod_found e3
 have hcs := (seg_app (cs := cs) 0 98 98 rfl (seg_app 98 1 99 rfl (seg_app 99 32 131 rfl (seg_end 131 5 hl)))).symm
 rw [q0, q1, q2, q3] at hcs
 exact ⟨⟨a, b, c, d⟩, rv, kv, hcs, ha, hb, hc, hd⟩
section tops
variable {W : World} {r : Reach} {base : Nat} {d : DataW H} {p : List MemPlace}
set_option maxRecDepth 100000 in
theorem open_watch (hv : Value.okWide Try.prog W r base 69 v) (h : DataW.Trod enc Try.prog w 0 sp held 69 v d p) : ∃ t : Wt, WtM (heapM w) v t := by
 obtain ⟨cs, n, y, rfl, hy⟩ := open_struct Try.underlying69 hv h
 obtain ⟨t, rv, kv, rfl, hok⟩ := trod_watch hy
 exact ⟨t, rv, kv, rfl, hok⟩
theorem open_bytes (h : DataW.trod enc Try.prog w 0 sp held fuel 41 [v] = some x) : ∃ l : List UInt8, SlM (heapM w) v 1 l.length (bs l) ∧ l.length ≤ 9223372036854775807 := by
 obtain ⟨l, h1, h2⟩ := trod_bytes Try.underlying41 Try.underlying5 TF.t5.cells h
 exact ⟨l, h1, by omega⟩
end tops
end
end Go.Proofs.Ytjjpakjgppmmdaa

namespace Go.Proofs.Ytjjpakjgppmmdaa
open Go Go.RowKit K SH PT
section
variable {m : Mem} {wI : World}
theorem epW_nat {w : Wt} (h : w.view.roots.length ≤ 1000000) : (epW w).toNat = w.view.roots.length + 1 := ofNat_len1 h
theorem ep_ne {w : Wt} {s : Sg} (h : (s.root.epoch.toNat : Int) = ((epW w).toNat : Int)) : s.root.epoch = epW w := UInt64.toNat_inj.1 (by omega)
theorem SgsM.one {b : Nat} {s : Sg} {sv : Value} {t : TypeId} {fr : Nat × Nat} (hm : m b = some (.cells (sgC s.root sv).toArray t fr)) (hs : SgOk m s sv) : SgsM m (.slice (some ⟨b, 0, none⟩) 1 1) [(s, sv)] :=
 ⟨⟨SlM.of hm (by simp [sgP, length_sgC hs.2]) (Nat.le_refl _) (fun j u hj => by simpa [sgP] using hj), fun p hp => by rw [List.mem_singleton.1 hp]; exact length_sgC hs.2⟩, fun p hp => by rw [List.mem_singleton.1 hp]; exact ⟨hs.2, hs.1⟩⟩
theorem c_step {wv sv av : Value} {x : Wt} {s : Sg} {a : Aw} (him : Im m wI) (hw : WtM m wv x) (hs : SgM m sv s) (ha : AwM m av a) (hL : x.view.roots.length ≤ 999999) (hk : a.bind.key.length ≤ 1099511627776) :
  Ret Try.prog 33 #[wv, sv, av] wI fun v' w' => Out m wI w' fun m' => ∃ v2, v' = .tuple #[v2, .int .i64 (stpE x s a)] ∧ WtM m' v2 (stepW x s a) := by
 have st := St.start him
 have ha0 := ha
 obtain ⟨rv, kw, rfl, hw⟩ := hw
 obtain ⟨sg, rfl, hsg, hsr⟩ := hs
 obtain ⟨pv, kv, rfl, ha⟩ := ha
 have hs : SgOk m s sg := ⟨hsg, hsr⟩
 have hN := epW_nat (w := x) (by omega)
 have hnm := hw.name
 obtain ⟨ra, rc, hra⟩ := hw.view.1.sl
 subst hra
 refine ret_of Try.call33 Try.func33 rfl Try.ntmps33 Try.results33 rfl ?_
 refine wc_seq ?_
 refine wc_region ?_
 refine wl_box (v := .agg (wtC x (.slice ra x.view.roots.length rc) kw).toArray) rfl st rfl ?_
 intro b3 w st
 refine wl_box (v := .agg (sgC s.root sg).toArray) rfl st rfl ?_
 intro b4 w st
 refine wl_box (v := .agg (awC a pv kv).toArray) rfl st rfl ?_
 intro b5 w st
 refine wl_alloc TF.z69 st rfl ?_
 intro b6 w st
 refine wl_val (v_assign' (by conv => (lhs; whnf))) rfl ?_
 refine wl_nil ?_
 refine then_go ?_
 refine wc_seq ?_
 refine wc_region ?_
 refine wl_val (v_fa TF.f69_0 rfl) rfl ?_
 refine wl_val (v_fa TF.f29_2 rfl) rfl ?_
 refine wl_val (v_load rfl (by first | exact st.rdp 3 rfl (by exact rfl) TF.t27 (by exact (Wt.g97_1 (by assumption))))) rfl ?_
 refine wl_val (v_len_s Try.underlying27 rfl) rfl ?_
 refine wl_val (v_to (v' := u64 (UInt64.ofNat x.view.roots.length)) (v_conv Try.underlying3 Try.underlying24 rfl) (by rw [wrap_u64]; rfl)) rfl ?_
 refine wl_val (v_assign' (by conv => (lhs; whnf))) rfl ?_
 refine wl_nil ?_
 refine then_go ?_
 refine wc_seq ?_
 refine wc_seq ?_
 refine wc_region ?_
 refine wl_val (v_fa TF.f71_0 rfl) rfl ?_
 refine wl_val (v_fa TF.f55_0 rfl) rfl ?_
 refine wl_val (v_load rfl (by first | exact st.rdp 2 rfl (by exact rfl) TF.t24 (by exact (sg_e)))) rfl ?_
 refine wl_val (v_move' (by conv => (lhs; whnf))) rfl ?_
 refine wl_val (v_add64 (q := 1) rfl rfl) rfl ?_
 refine wl_val (v_neq rfl rfl) rfl ?_
 refine wl_nil ?_
 refine then_go ?_
 refine wc_if rfl (fun h23 => ?_) (fun h23 => ?_)
 ·refine wc_seq ?_
  refine wc_region ?_
  refine wl_val (v_build (c' := (wtC Wt.zero (.slice none 0 0) (.slice none 0 0)).toArray) [] TF.z69 TF.p69 rfl rfl) rfl ?_
  refine wl_storeW 0 st rfl TF.t69 rfl rfl (by first | (rw [List.size_toArray]; exact Wt.len (by assumption)) | rfl) (by first | rfl | exact Wt.len (by assumption)) (by first | exact (Wt.one (by assumption)) | exact (Wt.one (Wt.zok (m := fun _ => none)))) ?_
  intro w st
  refine wl_val (v_assign' (by conv => (lhs; whnf))) rfl ?_
  refine wl_nil ?_
  refine then_go ?_
  refine wc_ret (then_ret ?_)
  have e := step_10 (w := x) (s := s) (a := a) (fun h => h23 (by rw [h]; rfl))
  rw [stepW_no (by rw [e]; decide), e]
  exact ret2c rfl (st.reads 0 rfl TF.t69 (getV_all (by first | rfl))) rfl ((st.keepOnly (l := []) (List.nil_sublist _)).out ⟨_, rfl, wt0_M⟩)
 ·refine wc_skip ?_
  refine then_go ?_
  refine wc_seq ?_
  have h1 : s.root.epoch = epW x := ep_ne (Decidable.not_not.1 h23)
  refine wc_region ?_
  refine wl_val (v_fa TF.f69_0 rfl) rfl ?_
  refine wl_val (v_load rfl (by first | exact st.rdp 3 rfl (by exact rfl) TF.t29 (by exact (Wt.g0_98 (by assumption))))) rfl ?_
  refine wl_val (v_load rfl (by first | exact st.rdp 2 rfl (by exact rfl) TF.t71 (by exact (getV_all (by exact sgLen (by assumption)))))) rfl ?_
  refine wl_lsOne (sgC s.root sg) Try.underlying30 TF.t71 TF.z71 (by decide) (by decide) (length_sgC hsr) rfl st rfl ?_
  intro b29 w st
  obtain ⟨m4, hg4, hm4, st⟩ := st.freeze (i := 0) rfl (by simp)
  change St _ _ _ _ _ [_, _, _, _] at st
  have hw := hw.mono hg4.le
  have ha := ha.mono hg4.le
  have ha0 := ha0.mono hg4.le
  have hsl : SgsM m4 (.slice (some ⟨b29, 0, none⟩) 1 1) [(s, sg)] := SgsM.one hm4 ⟨hsg.mono hg4.le, hsr⟩
  refine wl_call rfl (c_learn (L := [(s, sg)]) st.im ⟨_, rfl, hw.view⟩ hsl (by simp; omega)) rfl ?_
  rintro v30 w ⟨t30, mm30, gr30, im30, v2, rfl, lr, rfl, hlv⟩
  have st := st.grown gr30 t30 im30
  have hw := hw.mono gr30.le
  have ha := ha.mono gr30.le
  have ha0 := ha0.mono gr30.le
  change VwOk _ (lrnW x s) _ at hlv
  refine wl_val (v_move' (by conv => (lhs; whnf))) rfl ?_
  refine wl_val (v_extract rfl rfl) rfl ?_
  refine wl_val (v_extract rfl rfl) rfl ?_
  refine wl_alloc TF.z29 st rfl ?_
  intro b9 w st
  refine wl_storeW 0 st rfl TF.t29 rfl rfl (by first | (rw [List.size_toArray]; exact vwLen (by assumption)) | rfl) (by first | rfl | exact vwLen (by assumption)) (by first | exact (vwOne (by assumption)) | exact (vwOne (vw0_ok (m := fun _ => none)))) ?_
  intro w st
  refine wl_val (v_assign' (by conv => (lhs; whnf))) rfl ?_
  refine wl_nil ?_
  refine then_go ?_
  refine wc_seq ?_
  refine wc_seq ?_
  refine wc_region ?_
  refine wl_val (v_move' (by conv => (lhs; whnf))) rfl ?_
  refine wl_val (v_neq rfl rfl) rfl ?_
  refine wl_nil ?_
  refine then_go ?_
  refine wc_if rfl (fun h34 => ?_) (fun h34 => ?_)
  ·refine wc_seq ?_
   refine wc_region ?_
   refine wl_val (v_build (c' := (wtC Wt.zero (.slice none 0 0) (.slice none 0 0)).toArray) [] TF.z69 TF.p69 rfl rfl) rfl ?_
   refine wl_val (v_move' (by conv => (lhs; whnf))) rfl ?_
   refine wl_storeW 1 st rfl TF.t69 rfl rfl (by first | (rw [List.size_toArray]; exact Wt.len (by assumption)) | rfl) (by first | rfl | exact Wt.len (by assumption)) (by first | exact (Wt.one (by assumption)) | exact (Wt.one (Wt.zok (m := fun _ => none)))) ?_
   intro w st
   refine wl_val (v_assign' (by conv => (lhs; whnf))) rfl ?_
   refine wl_nil ?_
   refine then_go ?_
   refine wc_ret (then_ret ?_)
   have e := step_l (w := x) (s := s) (a := a) h1 h34
   rw [stepW_no (by rw [e]; exact h34), e]
   exact ret2c rfl (st.reads 1 rfl TF.t69 (getV_all (by first | rfl))) rfl ((st.keepOnly (l := []) (List.nil_sublist _)).out ⟨_, rfl, wt0_M⟩)
  ·refine wc_skip ?_
   refine then_go ?_
   refine wc_seq ?_
   have h2 : (learnG x.view [s]).2 = 0 := Decidable.not_not.1 h34
   have hll : (lrnW x s).roots.length ≤ x.view.roots.length + 1 := learnG_len (L := [s]) (by simpa using hsr)
   refine wc_region ?_
   refine wl_val (v_load rfl (by first | exact st.rdp 0 rfl (by exact rfl) TF.t29 (by exact (getV_all (by exact vwLen (by assumption)))))) rfl ?_
   refine wl_val (v_fa TF.f69_1 rfl) rfl ?_
   refine wl_val (v_load rfl (by first | exact st.rdp 4 rfl (by exact rfl) TF.t9 (by exact (Wt.g98_1 (by assumption))))) rfl ?_
   refine wl_val (v_move' (by conv => (lhs; whnf))) rfl ?_
   refine wl_val (v_add64 (q := 1) rfl rfl) rfl ?_
   refine wl_val (v_load rfl (by first | exact st.rdp 2 rfl (by exact rfl) TF.t45 (by exact (getV_all (by exact length_awC (by assumption)))))) rfl ?_
   refine wl_call rfl (c_ask (x := lrnW x s) (e := epW x) st.im ⟨_, rfl, hlv⟩ hnm ha0 (by omega) hk) rfl ?_
   rintro v44 w ⟨t44, mm44, gr44, im44, fv, rfl, fk, rfl, hfd⟩
   have st := st.grown gr44 t44 im44
   have hw := hw.mono gr44.le
   have ha := ha.mono gr44.le
   have ha0 := ha0.mono gr44.le
   have hlv := hlv.mono gr44.le
   change FdOk _ (seesW x s a) _ at hfd
   refine wl_val (v_move' (by conv => (lhs; whnf))) rfl ?_
   refine wl_val (v_extract rfl rfl) rfl ?_
   refine wl_val (v_extract rfl rfl) rfl ?_
   refine wl_alloc TF.z48 st rfl ?_
   intro b11 w st
   refine wl_storeW 0 st rfl TF.t48 rfl rfl (by first | (rw [List.size_toArray]; exact rfl) | rfl) (by first | rfl | exact rfl) (by first | exact (fdOne (by assumption)) | exact (fdOne (fd0_ok (m := fun _ => none)))) ?_
   intro w st
   refine wl_val (v_assign' (by conv => (lhs; whnf))) rfl ?_
   refine wl_nil ?_
   refine then_go ?_
   refine wc_seq ?_
   refine wc_seq ?_
   refine wc_region ?_
   refine wl_val (v_move' (by conv => (lhs; whnf))) rfl ?_
   refine wl_val (v_neq rfl rfl) rfl ?_
   refine wl_nil ?_
   refine then_go ?_
   refine wc_if rfl (fun h48 => ?_) (fun h48 => ?_)
   ·refine wc_seq ?_
    refine wc_region ?_
    refine wl_val (v_build (c' := (wtC Wt.zero (.slice none 0 0) (.slice none 0 0)).toArray) [] TF.z69 TF.p69 rfl rfl) rfl ?_
    refine wl_val (v_move' (by conv => (lhs; whnf))) rfl ?_
    refine wl_storeW 2 st rfl TF.t69 rfl rfl (by first | (rw [List.size_toArray]; exact Wt.len (by assumption)) | rfl) (by first | rfl | exact Wt.len (by assumption)) (by first | exact (Wt.one (by assumption)) | exact (Wt.one (Wt.zok (m := fun _ => none)))) ?_
    intro w st
    refine wl_val (v_assign' (by conv => (lhs; whnf))) rfl ?_
    refine wl_nil ?_
    refine then_go ?_
    refine wc_ret (then_ret ?_)
    have e := step_a (w := x) (s := s) (a := a) h1 h2 h48
    rw [stepW_no (by rw [e]; exact h48), e]
    exact ret2c rfl (st.reads 2 rfl TF.t69 (getV_all (by first | rfl))) rfl ((st.keepOnly (l := []) (List.nil_sublist _)).out ⟨_, rfl, wt0_M⟩)
   ·refine wc_skip ?_
    refine then_go ?_
    refine wc_seq ?_
    refine wc_seq ?_
    have h3 : askE (lrnW x s) x.name (epW x) a = 0 := Decidable.not_not.1 h48
    refine wc_region ?_
    refine wl_val (v_move' (by conv => (lhs; whnf))) rfl ?_
    refine wl_val (v_to (v' := .bool (decide (0 < x.view.roots.length))) (v_gtr rfl rfl) (by rw [ofNat_len (by omega)]; simp)) rfl ?_
    refine wl_val (v_move' (by conv => (lhs; whnf))) rfl ?_
    by_cases hg2 : 0 < x.view.roots.length
    ·rw [show decide (0 < x.view.roots.length) = true from decide_eq_true hg2]
     refine wl_on rfl rfl ?_
     refine wl_val (v_fa TF.f45_1 rfl) rfl ?_
     refine wl_on rfl rfl ?_
     refine wl_val (v_load rfl (by first | exact st.rdp 3 rfl (by exact rfl) TF.t23 (by exact (aw_i (by assumption))))) rfl ?_
     refine wl_on rfl rfl ?_
     refine wl_val (v_fa TF.f69_2 rfl) rfl ?_
     refine wl_on rfl rfl ?_
     refine wl_val (v_load rfl (by first | exact st.rdp 5 rfl (by exact rfl) TF.t23 (by exact (Wt.g99_32 (by assumption))))) rfl ?_
     refine wl_on rfl rfl ?_
     refine wl_val (v_neD rfl rfl ha.idx hw.index) rfl ?_
     refine wl_val (v_pick rfl) rfl ?_
     refine wl_nil ?_
     refine then_go ?_
     refine wc_if rfl (fun h59 => ?_) (fun h59 => ?_)
     ·refine wc_seq ?_
      refine wc_region ?_
      refine wl_val (v_build (c' := (wtC Wt.zero (.slice none 0 0) (.slice none 0 0)).toArray) [] TF.z69 TF.p69 rfl rfl) rfl ?_
      refine wl_storeW 2 st rfl TF.t69 rfl rfl (by first | (rw [List.size_toArray]; exact Wt.len (by assumption)) | rfl) (by first | rfl | exact Wt.len (by assumption)) (by first | exact (Wt.one (by assumption)) | exact (Wt.one (Wt.zok (m := fun _ => none)))) ?_
      intro w st
      refine wl_val (v_assign' (by conv => (lhs; whnf))) rfl ?_
      refine wl_nil ?_
      refine then_go ?_
      refine wc_ret (then_ret ?_)
      have e := step_15 (w := x) (s := s) (a := a) h1 h2 h3 ⟨hg2, h59⟩
      rw [stepW_no (by rw [e]; decide), e]
      exact ret2c rfl (st.reads 2 rfl TF.t69 (getV_all (by first | rfl))) rfl ((st.keepOnly (l := []) (List.nil_sublist _)).out ⟨_, rfl, wt0_M⟩)
     ·refine wc_skip ?_
      refine then_go ?_
      refine wc_seq ?_
      refine wc_seq ?_
      have h4 : ¬ (0 < x.view.roots.length ∧ ¬ a.index = x.index) := by
       first
        | exact fun hc => h59 hc.2
        | exact fun hc => hg2 hc.1
      have e := step_n (w := x) (s := s) (a := a) h1 h2 h3 h4
      refine wc_region ?_
      refine wl_val (v_fa TF.f69_3 rfl) rfl ?_
      refine wl_val (v_load rfl (by first | exact st.rdp 5 rfl (by exact rfl) TF.t48 (by exact (Wt.g131_5 (by assumption))))) rfl ?_
      refine wl_val (v_load rfl (by first | exact st.rdp 0 rfl (by exact rfl) TF.t48 (by exact (getV_all (by exact rfl))))) rfl ?_
      refine wl_call rfl (c_next st.im ⟨_, rfl, hw.last⟩ ⟨_, rfl, hfd⟩) rfl ?_
      rintro v64 w ⟨t64, rfl⟩
      have st := st.pure t64
      refine wl_val (v_assign' (by conv => (lhs; whnf))) rfl ?_
      refine wl_nil ?_
      refine then_go ?_
      refine wc_seq ?_
      refine wc_region ?_
      refine wl_val (v_move' (by conv => (lhs; whnf))) rfl ?_
      refine wl_val (v_neq rfl rfl) rfl ?_
      refine wl_nil ?_
      refine then_go ?_
      refine wc_if rfl (fun h66 => ?_) (fun h66 => ?_)
      ·refine wc_seq ?_
       refine wc_region ?_
       refine wl_val (v_build (c' := (wtC Wt.zero (.slice none 0 0) (.slice none 0 0)).toArray) [] TF.z69 TF.p69 rfl rfl) rfl ?_
       refine wl_val (v_move' (by conv => (lhs; whnf))) rfl ?_
       refine wl_storeW 2 st rfl TF.t69 rfl rfl (by first | (rw [List.size_toArray]; exact Wt.len (by assumption)) | rfl) (by first | rfl | exact Wt.len (by assumption)) (by first | exact (Wt.one (by assumption)) | exact (Wt.one (Wt.zok (m := fun _ => none)))) ?_
       intro w st
       refine wl_val (v_assign' (by conv => (lhs; whnf))) rfl ?_
       refine wl_nil ?_
       refine then_go ?_
       refine wc_ret (then_ret ?_)
       rw [stepW_no (by rw [e]; exact h66), e]
       exact ret2c rfl (st.reads 2 rfl TF.t69 (getV_all (by first | rfl))) rfl ((st.keepOnly (l := []) (List.nil_sublist _)).out ⟨_, rfl, wt0_M⟩)
      ·refine wc_skip ?_
       refine then_go ?_
       refine wc_seq ?_
       have e0 : stpE x s a = 0 := e.trans (Decidable.not_not.1 h66)
       have hok : WtOk _ ⟨lrnW x s, x.name, a.index, seesW x s a⟩ lr fk := ⟨hlv, hnm, ha.idx, hfd⟩
       refine wc_region ?_
       refine wl_val (v_load rfl (by first | exact st.rdp 1 rfl (by exact rfl) TF.t29 (by exact (getV_all (by exact vwLen (by assumption)))))) rfl ?_
       refine wl_val (v_fa TF.f69_1 rfl) rfl ?_
       refine wl_val (v_load rfl (by first | exact st.rdp 5 rfl (by exact rfl) TF.t9 (by exact (Wt.g98_1 (by assumption))))) rfl ?_
       refine wl_val (v_fa TF.f45_1 rfl) rfl ?_
       refine wl_val (v_load rfl (by first | exact st.rdp 3 rfl (by exact rfl) TF.t23 (by exact (aw_i (by assumption))))) rfl ?_
       refine wl_val (v_load rfl (by first | exact st.rdp 0 rfl (by exact rfl) TF.t48 (by exact (getV_all (by exact rfl))))) rfl ?_
       refine wl_val (v_build (c' := (wtC (⟨lrnW x s, x.name, a.index, seesW x s a⟩) (lr) (fk)).toArray) _ TF.z69 TF.p69 rfl (Wt.fill_0_1_2_3 (x := ⟨lrnW x s, x.name, a.index, seesW x s a⟩) hlv hnm ha.idx hfd)) rfl ?_
       refine wl_storeW 2 st rfl TF.t69 rfl rfl (by first | (rw [List.size_toArray]; exact Wt.len (by assumption)) | rfl) (by first | rfl | exact Wt.len (by assumption)) (by first | exact (Wt.one (by assumption)) | exact (Wt.one (Wt.zok (m := fun _ => none)))) ?_
       intro w st
       refine wl_val (v_assign' (by conv => (lhs; whnf))) rfl ?_
       refine wl_nil ?_
       refine then_go ?_
       refine wc_ret ?_
       rw [stepW_yes e0, e0]
       exact ret2c rfl (st.reads 2 rfl TF.t69 (getV_all (by first | exact Wt.len (by assumption) | rfl))) rfl ((st.keepOnly (l := []) (List.nil_sublist _)).out ⟨_, rfl, _, _, rfl, hok⟩)
    ·rw [show decide (0 < x.view.roots.length) = false from decide_eq_false hg2]
     refine wl_off rfl rfl rfl rfl ?_
     refine wl_off rfl rfl rfl rfl ?_
     refine wl_off rfl rfl rfl rfl ?_
     refine wl_off rfl rfl rfl rfl ?_
     refine wl_off rfl rfl rfl rfl ?_
     refine wl_val (v_pick rfl) rfl ?_
     refine wl_nil ?_
     refine then_go ?_
     refine wc_false rfl ?_
     refine wc_skip ?_
     refine then_go ?_
     refine wc_seq ?_
     refine wc_seq ?_
     have h4 : ¬ (0 < x.view.roots.length ∧ ¬ a.index = x.index) := by
      first
       | exact fun hc => h59 hc.2
       | exact fun hc => hg2 hc.1
     have e := step_n (w := x) (s := s) (a := a) h1 h2 h3 h4
     refine wc_region ?_
     refine wl_val (v_fa TF.f69_3 rfl) rfl ?_
     refine wl_val (v_load rfl (by first | exact st.rdp 5 rfl (by exact rfl) TF.t48 (by exact (Wt.g131_5 (by assumption))))) rfl ?_
     refine wl_val (v_load rfl (by first | exact st.rdp 0 rfl (by exact rfl) TF.t48 (by exact (getV_all (by exact rfl))))) rfl ?_
     refine wl_call rfl (c_next st.im ⟨_, rfl, hw.last⟩ ⟨_, rfl, hfd⟩) rfl ?_
     rintro v64 w ⟨t64, rfl⟩
     have st := st.pure t64
     refine wl_val (v_assign' (by conv => (lhs; whnf))) rfl ?_
     refine wl_nil ?_
     refine then_go ?_
     refine wc_seq ?_
     refine wc_region ?_
     refine wl_val (v_move' (by conv => (lhs; whnf))) rfl ?_
     refine wl_val (v_neq rfl rfl) rfl ?_
     refine wl_nil ?_
     refine then_go ?_
     refine wc_if rfl (fun h66 => ?_) (fun h66 => ?_)
     ·refine wc_seq ?_
      refine wc_region ?_
      refine wl_val (v_build (c' := (wtC Wt.zero (.slice none 0 0) (.slice none 0 0)).toArray) [] TF.z69 TF.p69 rfl rfl) rfl ?_
      refine wl_val (v_move' (by conv => (lhs; whnf))) rfl ?_
      refine wl_storeW 2 st rfl TF.t69 rfl rfl (by first | (rw [List.size_toArray]; exact Wt.len (by assumption)) | rfl) (by first | rfl | exact Wt.len (by assumption)) (by first | exact (Wt.one (by assumption)) | exact (Wt.one (Wt.zok (m := fun _ => none)))) ?_
      intro w st
      refine wl_val (v_assign' (by conv => (lhs; whnf))) rfl ?_
      refine wl_nil ?_
      refine then_go ?_
      refine wc_ret (then_ret ?_)
      rw [stepW_no (by rw [e]; exact h66), e]
      exact ret2c rfl (st.reads 2 rfl TF.t69 (getV_all (by first | rfl))) rfl ((st.keepOnly (l := []) (List.nil_sublist _)).out ⟨_, rfl, wt0_M⟩)
     ·refine wc_skip ?_
      refine then_go ?_
      refine wc_seq ?_
      have e0 : stpE x s a = 0 := e.trans (Decidable.not_not.1 h66)
      have hok : WtOk _ ⟨lrnW x s, x.name, a.index, seesW x s a⟩ lr fk := ⟨hlv, hnm, ha.idx, hfd⟩
      refine wc_region ?_
      refine wl_val (v_load rfl (by first | exact st.rdp 1 rfl (by exact rfl) TF.t29 (by exact (getV_all (by exact vwLen (by assumption)))))) rfl ?_
      refine wl_val (v_fa TF.f69_1 rfl) rfl ?_
      refine wl_val (v_load rfl (by first | exact st.rdp 5 rfl (by exact rfl) TF.t9 (by exact (Wt.g98_1 (by assumption))))) rfl ?_
      refine wl_val (v_fa TF.f45_1 rfl) rfl ?_
      refine wl_val (v_load rfl (by first | exact st.rdp 3 rfl (by exact rfl) TF.t23 (by exact (aw_i (by assumption))))) rfl ?_
      refine wl_val (v_load rfl (by first | exact st.rdp 0 rfl (by exact rfl) TF.t48 (by exact (getV_all (by exact rfl))))) rfl ?_
      refine wl_val (v_build (c' := (wtC (⟨lrnW x s, x.name, a.index, seesW x s a⟩) (lr) (fk)).toArray) _ TF.z69 TF.p69 rfl (Wt.fill_0_1_2_3 (x := ⟨lrnW x s, x.name, a.index, seesW x s a⟩) hlv hnm ha.idx hfd)) rfl ?_
      refine wl_storeW 2 st rfl TF.t69 rfl rfl (by first | (rw [List.size_toArray]; exact Wt.len (by assumption)) | rfl) (by first | rfl | exact Wt.len (by assumption)) (by first | exact (Wt.one (by assumption)) | exact (Wt.one (Wt.zok (m := fun _ => none)))) ?_
      intro w st
      refine wl_val (v_assign' (by conv => (lhs; whnf))) rfl ?_
      refine wl_nil ?_
      refine then_go ?_
      refine wc_ret ?_
      rw [stepW_yes e0, e0]
      exact ret2c rfl (st.reads 2 rfl TF.t69 (getV_all (by first | exact Wt.len (by assumption) | rfl))) rfl ((st.keepOnly (l := []) (List.nil_sublist _)).out ⟨_, rfl, _, _, rfl, hok⟩)
theorem c_rstep {wv sv av : Value} {x : Wt} {s : Sg} {a : Aw} (him : Im m wI) (hw : WtM m wv x) (hs : SgM m sv s) (ha : AwM m av a) (hL : x.view.roots.length ≤ 999999) :
  Ret Try.prog 34 #[wv, sv, av] wI fun v' w' => Out m wI w' fun m' => ∃ v2, v' = .tuple #[v2, .int .i64 (stpE x s a)] ∧ WtM m' v2 (stepW x s a) := by
 have st := St.start him
 have ha0 := ha
 obtain ⟨rv, kw, rfl, hw⟩ := hw
 obtain ⟨sg, rfl, hsg, hsr⟩ := hs
 obtain ⟨pv, kv, rfl, ha⟩ := ha
 have hs : SgOk m s sg := ⟨hsg, hsr⟩
 have hN := epW_nat (w := x) (by omega)
 have hnm := hw.name
 obtain ⟨ra, rc, hra⟩ := hw.view.1.sl
 subst hra
 refine ret_of Try.call34 Try.func34 rfl Try.ntmps34 Try.results34 rfl ?_
 refine wc_seq ?_
 refine wc_region ?_
 refine wl_box (v := .agg (wtC x (.slice ra x.view.roots.length rc) kw).toArray) rfl st rfl ?_
 intro b3 w st
 refine wl_box (v := .agg (sgC s.root sg).toArray) rfl st rfl ?_
 intro b4 w st
 refine wl_box (v := .agg (awC a pv kv).toArray) rfl st rfl ?_
 intro b5 w st
 refine wl_alloc TF.z69 st rfl ?_
 intro b6 w st
 refine wl_val (v_assign' (by conv => (lhs; whnf))) rfl ?_
 refine wl_nil ?_
 refine then_go ?_
 refine wc_seq ?_
 refine wc_region ?_
 refine wl_val (v_fa TF.f69_0 rfl) rfl ?_
 refine wl_val (v_fa TF.f29_2 rfl) rfl ?_
 refine wl_val (v_load rfl (by first | exact st.rdp 3 rfl (by exact rfl) TF.t27 (by exact (Wt.g97_1 (by assumption))))) rfl ?_
 refine wl_val (v_len_s Try.underlying27 rfl) rfl ?_
 refine wl_val (v_to (v' := u64 (UInt64.ofNat x.view.roots.length)) (v_conv Try.underlying3 Try.underlying24 rfl) (by rw [wrap_u64]; rfl)) rfl ?_
 refine wl_val (v_add64 (q := 1) rfl rfl) rfl ?_
 refine wl_val (v_assign' (by conv => (lhs; whnf))) rfl ?_
 refine wl_nil ?_
 refine then_go ?_
 refine wc_seq ?_
 refine wc_seq ?_
 refine wc_region ?_
 refine wl_val (v_fa TF.f71_0 rfl) rfl ?_
 refine wl_val (v_fa TF.f55_0 rfl) rfl ?_
 refine wl_val (v_load rfl (by first | exact st.rdp 2 rfl (by exact rfl) TF.t24 (by exact (sg_e)))) rfl ?_
 refine wl_val (v_move' (by conv => (lhs; whnf))) rfl ?_
 refine wl_val (v_neq rfl rfl) rfl ?_
 refine wl_nil ?_
 refine then_go ?_
 refine wc_if rfl (fun h23 => ?_) (fun h23 => ?_)
 ·refine wc_seq ?_
  refine wc_region ?_
  refine wl_val (v_build (c' := (wtC Wt.zero (.slice none 0 0) (.slice none 0 0)).toArray) [] TF.z69 TF.p69 rfl rfl) rfl ?_
  refine wl_storeW 0 st rfl TF.t69 rfl rfl (by first | (rw [List.size_toArray]; exact Wt.len (by assumption)) | rfl) (by first | rfl | exact Wt.len (by assumption)) (by first | exact (Wt.one (by assumption)) | exact (Wt.one (Wt.zok (m := fun _ => none)))) ?_
  intro w st
  refine wl_val (v_assign' (by conv => (lhs; whnf))) rfl ?_
  refine wl_nil ?_
  refine then_go ?_
  refine wc_ret (then_ret ?_)
  have e := step_10 (w := x) (s := s) (a := a) (fun h => h23 (by rw [h]; rfl))
  rw [stepW_no (by rw [e]; decide), e]
  exact ret2c rfl (st.reads 0 rfl TF.t69 (getV_all (by first | rfl))) rfl ((st.keepOnly (l := []) (List.nil_sublist _)).out ⟨_, rfl, wt0_M⟩)
 ·refine wc_skip ?_
  refine then_go ?_
  refine wc_seq ?_
  have h1 : s.root.epoch = epW x := ep_ne (Decidable.not_not.1 h23)
  refine wc_region ?_
  refine wl_val (v_fa TF.f69_0 rfl) rfl ?_
  refine wl_val (v_load rfl (by first | exact st.rdp 3 rfl (by exact rfl) TF.t29 (by exact (Wt.g0_98 (by assumption))))) rfl ?_
  refine wl_val (v_load rfl (by first | exact st.rdp 2 rfl (by exact rfl) TF.t71 (by exact (getV_all (by exact sgLen (by assumption)))))) rfl ?_
  refine wl_lsOne (sgC s.root sg) Try.underlying30 TF.t71 TF.z71 (by decide) (by decide) (length_sgC hsr) rfl st rfl ?_
  intro b29 w st
  obtain ⟨m4, hg4, hm4, st⟩ := st.freeze (i := 0) rfl (by simp)
  change St _ _ _ _ _ [_, _, _, _] at st
  have hw := hw.mono hg4.le
  have ha := ha.mono hg4.le
  have ha0 := ha0.mono hg4.le
  have hsl : SgsM m4 (.slice (some ⟨b29, 0, none⟩) 1 1) [(s, sg)] := SgsM.one hm4 ⟨hsg.mono hg4.le, hsr⟩
  refine wl_call rfl (c_rlearn (L := [(s, sg)]) st.im ⟨_, rfl, hw.view⟩ hsl (by simp; omega)) rfl ?_
  rintro v30 w ⟨t30, mm30, gr30, im30, v2, rfl, lr, rfl, hlv⟩
  have st := st.grown gr30 t30 im30
  have hw := hw.mono gr30.le
  have ha := ha.mono gr30.le
  have ha0 := ha0.mono gr30.le
  change VwOk _ (lrnW x s) _ at hlv
  refine wl_val (v_move' (by conv => (lhs; whnf))) rfl ?_
  refine wl_val (v_extract rfl rfl) rfl ?_
  refine wl_val (v_extract rfl rfl) rfl ?_
  refine wl_alloc TF.z29 st rfl ?_
  intro b9 w st
  refine wl_storeW 0 st rfl TF.t29 rfl rfl (by first | (rw [List.size_toArray]; exact vwLen (by assumption)) | rfl) (by first | rfl | exact vwLen (by assumption)) (by first | exact (vwOne (by assumption)) | exact (vwOne (vw0_ok (m := fun _ => none)))) ?_
  intro w st
  refine wl_val (v_assign' (by conv => (lhs; whnf))) rfl ?_
  refine wl_nil ?_
  refine then_go ?_
  refine wc_seq ?_
  refine wc_seq ?_
  refine wc_region ?_
  refine wl_val (v_move' (by conv => (lhs; whnf))) rfl ?_
  refine wl_val (v_neq rfl rfl) rfl ?_
  refine wl_nil ?_
  refine then_go ?_
  refine wc_if rfl (fun h34 => ?_) (fun h34 => ?_)
  ·refine wc_seq ?_
   refine wc_region ?_
   refine wl_val (v_build (c' := (wtC Wt.zero (.slice none 0 0) (.slice none 0 0)).toArray) [] TF.z69 TF.p69 rfl rfl) rfl ?_
   refine wl_val (v_move' (by conv => (lhs; whnf))) rfl ?_
   refine wl_storeW 1 st rfl TF.t69 rfl rfl (by first | (rw [List.size_toArray]; exact Wt.len (by assumption)) | rfl) (by first | rfl | exact Wt.len (by assumption)) (by first | exact (Wt.one (by assumption)) | exact (Wt.one (Wt.zok (m := fun _ => none)))) ?_
   intro w st
   refine wl_val (v_assign' (by conv => (lhs; whnf))) rfl ?_
   refine wl_nil ?_
   refine then_go ?_
   refine wc_ret (then_ret ?_)
   have e := step_l (w := x) (s := s) (a := a) h1 h34
   rw [stepW_no (by rw [e]; exact h34), e]
   exact ret2c rfl (st.reads 1 rfl TF.t69 (getV_all (by first | rfl))) rfl ((st.keepOnly (l := []) (List.nil_sublist _)).out ⟨_, rfl, wt0_M⟩)
  ·refine wc_skip ?_
   refine then_go ?_
   refine wc_seq ?_
   have h2 : (learnG x.view [s]).2 = 0 := Decidable.not_not.1 h34
   have hll : (lrnW x s).roots.length ≤ x.view.roots.length + 1 := learnG_len (L := [s]) (by simpa using hsr)
   refine wc_region ?_
   refine wl_val (v_load rfl (by first | exact st.rdp 0 rfl (by exact rfl) TF.t29 (by exact (getV_all (by exact vwLen (by assumption)))))) rfl ?_
   refine wl_val (v_fa TF.f69_1 rfl) rfl ?_
   refine wl_val (v_load rfl (by first | exact st.rdp 4 rfl (by exact rfl) TF.t9 (by exact (Wt.g98_1 (by assumption))))) rfl ?_
   refine wl_val (v_move' (by conv => (lhs; whnf))) rfl ?_
   refine wl_val (v_load rfl (by first | exact st.rdp 2 rfl (by exact rfl) TF.t45 (by exact (getV_all (by exact length_awC (by assumption)))))) rfl ?_
   refine wl_call rfl (c_rask (x := lrnW x s) (e := epW x) st.im ⟨_, rfl, hlv⟩ hnm ha0 (by omega)) rfl ?_
   rintro v43 w ⟨t43, mm43, gr43, im43, fv, rfl, fk, rfl, hfd⟩
   have st := st.grown gr43 t43 im43
   have hw := hw.mono gr43.le
   have ha := ha.mono gr43.le
   have ha0 := ha0.mono gr43.le
   have hlv := hlv.mono gr43.le
   change FdOk _ (seesW x s a) _ at hfd
   refine wl_val (v_move' (by conv => (lhs; whnf))) rfl ?_
   refine wl_val (v_extract rfl rfl) rfl ?_
   refine wl_val (v_extract rfl rfl) rfl ?_
   refine wl_alloc TF.z48 st rfl ?_
   intro b11 w st
   refine wl_storeW 0 st rfl TF.t48 rfl rfl (by first | (rw [List.size_toArray]; exact rfl) | rfl) (by first | rfl | exact rfl) (by first | exact (fdOne (by assumption)) | exact (fdOne (fd0_ok (m := fun _ => none)))) ?_
   intro w st
   refine wl_val (v_assign' (by conv => (lhs; whnf))) rfl ?_
   refine wl_nil ?_
   refine then_go ?_
   refine wc_seq ?_
   refine wc_seq ?_
   refine wc_region ?_
   refine wl_val (v_move' (by conv => (lhs; whnf))) rfl ?_
   refine wl_val (v_neq rfl rfl) rfl ?_
   refine wl_nil ?_
   refine then_go ?_
   refine wc_if rfl (fun h47 => ?_) (fun h47 => ?_)
   ·refine wc_seq ?_
    refine wc_region ?_
    refine wl_val (v_build (c' := (wtC Wt.zero (.slice none 0 0) (.slice none 0 0)).toArray) [] TF.z69 TF.p69 rfl rfl) rfl ?_
    refine wl_val (v_move' (by conv => (lhs; whnf))) rfl ?_
    refine wl_storeW 2 st rfl TF.t69 rfl rfl (by first | (rw [List.size_toArray]; exact Wt.len (by assumption)) | rfl) (by first | rfl | exact Wt.len (by assumption)) (by first | exact (Wt.one (by assumption)) | exact (Wt.one (Wt.zok (m := fun _ => none)))) ?_
    intro w st
    refine wl_val (v_assign' (by conv => (lhs; whnf))) rfl ?_
    refine wl_nil ?_
    refine then_go ?_
    refine wc_ret (then_ret ?_)
    have e := step_a (w := x) (s := s) (a := a) h1 h2 h47
    rw [stepW_no (by rw [e]; exact h47), e]
    exact ret2c rfl (st.reads 2 rfl TF.t69 (getV_all (by first | rfl))) rfl ((st.keepOnly (l := []) (List.nil_sublist _)).out ⟨_, rfl, wt0_M⟩)
   ·refine wc_skip ?_
    refine then_go ?_
    refine wc_seq ?_
    refine wc_seq ?_
    have h3 : askE (lrnW x s) x.name (epW x) a = 0 := Decidable.not_not.1 h47
    refine wc_region ?_
    refine wl_val (v_move' (by conv => (lhs; whnf))) rfl ?_
    refine wl_val (v_to (v' := .bool (decide (0 < x.view.roots.length))) (v_gtr rfl rfl) (by rw [ofNat_len1 (by omega)]; exact congrArg Value.bool (decide_eq_decide.2 (by omega)))) rfl ?_
    refine wl_val (v_move' (by conv => (lhs; whnf))) rfl ?_
    by_cases hg2 : 0 < x.view.roots.length
    ·rw [show decide (0 < x.view.roots.length) = true from decide_eq_true hg2]
     refine wl_on rfl rfl ?_
     refine wl_val (v_fa TF.f45_1 rfl) rfl ?_
     refine wl_on rfl rfl ?_
     refine wl_val (v_load rfl (by first | exact st.rdp 3 rfl (by exact rfl) TF.t23 (by exact (aw_i (by assumption))))) rfl ?_
     refine wl_on rfl rfl ?_
     refine wl_val (v_fa TF.f69_2 rfl) rfl ?_
     refine wl_on rfl rfl ?_
     refine wl_val (v_load rfl (by first | exact st.rdp 5 rfl (by exact rfl) TF.t23 (by exact (Wt.g99_32 (by assumption))))) rfl ?_
     refine wl_on rfl rfl ?_
     refine wl_val (v_neD rfl rfl ha.idx hw.index) rfl ?_
     refine wl_val (v_pick rfl) rfl ?_
     refine wl_nil ?_
     refine then_go ?_
     refine wc_if rfl (fun h58 => ?_) (fun h58 => ?_)
     ·refine wc_seq ?_
      refine wc_region ?_
      refine wl_val (v_build (c' := (wtC Wt.zero (.slice none 0 0) (.slice none 0 0)).toArray) [] TF.z69 TF.p69 rfl rfl) rfl ?_
      refine wl_storeW 2 st rfl TF.t69 rfl rfl (by first | (rw [List.size_toArray]; exact Wt.len (by assumption)) | rfl) (by first | rfl | exact Wt.len (by assumption)) (by first | exact (Wt.one (by assumption)) | exact (Wt.one (Wt.zok (m := fun _ => none)))) ?_
      intro w st
      refine wl_val (v_assign' (by conv => (lhs; whnf))) rfl ?_
      refine wl_nil ?_
      refine then_go ?_
      refine wc_ret (then_ret ?_)
      have e := step_15 (w := x) (s := s) (a := a) h1 h2 h3 ⟨hg2, h58⟩
      rw [stepW_no (by rw [e]; decide), e]
      exact ret2c rfl (st.reads 2 rfl TF.t69 (getV_all (by first | rfl))) rfl ((st.keepOnly (l := []) (List.nil_sublist _)).out ⟨_, rfl, wt0_M⟩)
     ·refine wc_skip ?_
      refine then_go ?_
      refine wc_seq ?_
      refine wc_seq ?_
      have h4 : ¬ (0 < x.view.roots.length ∧ ¬ a.index = x.index) := by
       first
        | exact fun hc => h58 hc.2
        | exact fun hc => hg2 hc.1
      have e := step_n (w := x) (s := s) (a := a) h1 h2 h3 h4
      refine wc_region ?_
      refine wl_val (v_fa TF.f69_3 rfl) rfl ?_
      refine wl_val (v_load rfl (by first | exact st.rdp 5 rfl (by exact rfl) TF.t48 (by exact (Wt.g131_5 (by assumption))))) rfl ?_
      refine wl_val (v_load rfl (by first | exact st.rdp 0 rfl (by exact rfl) TF.t48 (by exact (getV_all (by exact rfl))))) rfl ?_
      refine wl_call rfl (c_rnext st.im ⟨_, rfl, hw.last⟩ ⟨_, rfl, hfd⟩) rfl ?_
      rintro v63 w ⟨t63, rfl⟩
      have st := st.pure t63
      refine wl_val (v_assign' (by conv => (lhs; whnf))) rfl ?_
      refine wl_nil ?_
      refine then_go ?_
      refine wc_seq ?_
      refine wc_region ?_
      refine wl_val (v_move' (by conv => (lhs; whnf))) rfl ?_
      refine wl_val (v_neq rfl rfl) rfl ?_
      refine wl_nil ?_
      refine then_go ?_
      refine wc_if rfl (fun h65 => ?_) (fun h65 => ?_)
      ·refine wc_seq ?_
       refine wc_region ?_
       refine wl_val (v_build (c' := (wtC Wt.zero (.slice none 0 0) (.slice none 0 0)).toArray) [] TF.z69 TF.p69 rfl rfl) rfl ?_
       refine wl_val (v_move' (by conv => (lhs; whnf))) rfl ?_
       refine wl_storeW 2 st rfl TF.t69 rfl rfl (by first | (rw [List.size_toArray]; exact Wt.len (by assumption)) | rfl) (by first | rfl | exact Wt.len (by assumption)) (by first | exact (Wt.one (by assumption)) | exact (Wt.one (Wt.zok (m := fun _ => none)))) ?_
       intro w st
       refine wl_val (v_assign' (by conv => (lhs; whnf))) rfl ?_
       refine wl_nil ?_
       refine then_go ?_
       refine wc_ret (then_ret ?_)
       rw [stepW_no (by rw [e]; exact h65), e]
       exact ret2c rfl (st.reads 2 rfl TF.t69 (getV_all (by first | rfl))) rfl ((st.keepOnly (l := []) (List.nil_sublist _)).out ⟨_, rfl, wt0_M⟩)
      ·refine wc_skip ?_
       refine then_go ?_
       refine wc_seq ?_
       have e0 : stpE x s a = 0 := e.trans (Decidable.not_not.1 h65)
       have hok : WtOk _ ⟨lrnW x s, x.name, a.index, seesW x s a⟩ lr fk := ⟨hlv, hnm, ha.idx, hfd⟩
       refine wc_region ?_
       refine wl_val (v_load rfl (by first | exact st.rdp 1 rfl (by exact rfl) TF.t29 (by exact (getV_all (by exact vwLen (by assumption)))))) rfl ?_
       refine wl_val (v_fa TF.f69_1 rfl) rfl ?_
       refine wl_val (v_load rfl (by first | exact st.rdp 5 rfl (by exact rfl) TF.t9 (by exact (Wt.g98_1 (by assumption))))) rfl ?_
       refine wl_val (v_fa TF.f45_1 rfl) rfl ?_
       refine wl_val (v_load rfl (by first | exact st.rdp 3 rfl (by exact rfl) TF.t23 (by exact (aw_i (by assumption))))) rfl ?_
       refine wl_val (v_load rfl (by first | exact st.rdp 0 rfl (by exact rfl) TF.t48 (by exact (getV_all (by exact rfl))))) rfl ?_
       refine wl_val (v_build (c' := (wtC (⟨lrnW x s, x.name, a.index, seesW x s a⟩) (lr) (fk)).toArray) _ TF.z69 TF.p69 rfl (Wt.fill_0_1_2_3 (x := ⟨lrnW x s, x.name, a.index, seesW x s a⟩) hlv hnm ha.idx hfd)) rfl ?_
       refine wl_storeW 2 st rfl TF.t69 rfl rfl (by first | (rw [List.size_toArray]; exact Wt.len (by assumption)) | rfl) (by first | rfl | exact Wt.len (by assumption)) (by first | exact (Wt.one (by assumption)) | exact (Wt.one (Wt.zok (m := fun _ => none)))) ?_
       intro w st
       refine wl_val (v_assign' (by conv => (lhs; whnf))) rfl ?_
       refine wl_nil ?_
       refine then_go ?_
       refine wc_ret ?_
       rw [stepW_yes e0, e0]
       exact ret2c rfl (st.reads 2 rfl TF.t69 (getV_all (by first | exact Wt.len (by assumption) | rfl))) rfl ((st.keepOnly (l := []) (List.nil_sublist _)).out ⟨_, rfl, _, _, rfl, hok⟩)
    ·rw [show decide (0 < x.view.roots.length) = false from decide_eq_false hg2]
     refine wl_off rfl rfl rfl rfl ?_
     refine wl_off rfl rfl rfl rfl ?_
     refine wl_off rfl rfl rfl rfl ?_
     refine wl_off rfl rfl rfl rfl ?_
     refine wl_off rfl rfl rfl rfl ?_
     refine wl_val (v_pick rfl) rfl ?_
     refine wl_nil ?_
     refine then_go ?_
     refine wc_false rfl ?_
     refine wc_skip ?_
     refine then_go ?_
     refine wc_seq ?_
     refine wc_seq ?_
     have h4 : ¬ (0 < x.view.roots.length ∧ ¬ a.index = x.index) := by
      first
       | exact fun hc => h58 hc.2
       | exact fun hc => hg2 hc.1
     have e := step_n (w := x) (s := s) (a := a) h1 h2 h3 h4
     refine wc_region ?_
     refine wl_val (v_fa TF.f69_3 rfl) rfl ?_
     refine wl_val (v_load rfl (by first | exact st.rdp 5 rfl (by exact rfl) TF.t48 (by exact (Wt.g131_5 (by assumption))))) rfl ?_
     refine wl_val (v_load rfl (by first | exact st.rdp 0 rfl (by exact rfl) TF.t48 (by exact (getV_all (by exact rfl))))) rfl ?_
     refine wl_call rfl (c_rnext st.im ⟨_, rfl, hw.last⟩ ⟨_, rfl, hfd⟩) rfl ?_
     rintro v63 w ⟨t63, rfl⟩
     have st := st.pure t63
     refine wl_val (v_assign' (by conv => (lhs; whnf))) rfl ?_
     refine wl_nil ?_
     refine then_go ?_
     refine wc_seq ?_
     refine wc_region ?_
     refine wl_val (v_move' (by conv => (lhs; whnf))) rfl ?_
     refine wl_val (v_neq rfl rfl) rfl ?_
     refine wl_nil ?_
     refine then_go ?_
     refine wc_if rfl (fun h65 => ?_) (fun h65 => ?_)
     ·refine wc_seq ?_
      refine wc_region ?_
      refine wl_val (v_build (c' := (wtC Wt.zero (.slice none 0 0) (.slice none 0 0)).toArray) [] TF.z69 TF.p69 rfl rfl) rfl ?_
      refine wl_val (v_move' (by conv => (lhs; whnf))) rfl ?_
      refine wl_storeW 2 st rfl TF.t69 rfl rfl (by first | (rw [List.size_toArray]; exact Wt.len (by assumption)) | rfl) (by first | rfl | exact Wt.len (by assumption)) (by first | exact (Wt.one (by assumption)) | exact (Wt.one (Wt.zok (m := fun _ => none)))) ?_
      intro w st
      refine wl_val (v_assign' (by conv => (lhs; whnf))) rfl ?_
      refine wl_nil ?_
      refine then_go ?_
      refine wc_ret (then_ret ?_)
      rw [stepW_no (by rw [e]; exact h65), e]
      exact ret2c rfl (st.reads 2 rfl TF.t69 (getV_all (by first | rfl))) rfl ((st.keepOnly (l := []) (List.nil_sublist _)).out ⟨_, rfl, wt0_M⟩)
     ·refine wc_skip ?_
      refine then_go ?_
      refine wc_seq ?_
      have e0 : stpE x s a = 0 := e.trans (Decidable.not_not.1 h65)
      have hok : WtOk _ ⟨lrnW x s, x.name, a.index, seesW x s a⟩ lr fk := ⟨hlv, hnm, ha.idx, hfd⟩
      refine wc_region ?_
      refine wl_val (v_load rfl (by first | exact st.rdp 1 rfl (by exact rfl) TF.t29 (by exact (getV_all (by exact vwLen (by assumption)))))) rfl ?_
      refine wl_val (v_fa TF.f69_1 rfl) rfl ?_
      refine wl_val (v_load rfl (by first | exact st.rdp 5 rfl (by exact rfl) TF.t9 (by exact (Wt.g98_1 (by assumption))))) rfl ?_
      refine wl_val (v_fa TF.f45_1 rfl) rfl ?_
      refine wl_val (v_load rfl (by first | exact st.rdp 3 rfl (by exact rfl) TF.t23 (by exact (aw_i (by assumption))))) rfl ?_
      refine wl_val (v_load rfl (by first | exact st.rdp 0 rfl (by exact rfl) TF.t48 (by exact (getV_all (by exact rfl))))) rfl ?_
      refine wl_val (v_build (c' := (wtC (⟨lrnW x s, x.name, a.index, seesW x s a⟩) (lr) (fk)).toArray) _ TF.z69 TF.p69 rfl (Wt.fill_0_1_2_3 (x := ⟨lrnW x s, x.name, a.index, seesW x s a⟩) hlv hnm ha.idx hfd)) rfl ?_
      refine wl_storeW 2 st rfl TF.t69 rfl rfl (by first | (rw [List.size_toArray]; exact Wt.len (by assumption)) | rfl) (by first | rfl | exact Wt.len (by assumption)) (by first | exact (Wt.one (by assumption)) | exact (Wt.one (Wt.zok (m := fun _ => none)))) ?_
      intro w st
      refine wl_val (v_assign' (by conv => (lhs; whnf))) rfl ?_
      refine wl_nil ?_
      refine then_go ?_
      refine wc_ret ?_
      rw [stepW_yes e0, e0]
      exact ret2c rfl (st.reads 2 rfl TF.t69 (getV_all (by first | exact Wt.len (by assumption) | rfl))) rfl ((st.keepOnly (l := []) (List.nil_sublist _)).out ⟨_, rfl, _, _, rfl, hok⟩)
end
end Go.Proofs.Ytjjpakjgppmmdaa

namespace Go.Proofs.Ytjjpakjgppmmdaa
open Go Go.RowKit K SH PT
def runGo : Wt → Nat → List Sg → List Aw → Wt × Nat × Int
 | w, n, s :: l, a :: k => if stpE w s a = 0 then runGo (stepW w s a) (n + 1) l k else (Wt.zero, n, stpE w s a)
 | w, n, _, _ => (w, n, 0)
theorem stepW_len {w : Wt} {s : Sg} {a : Aw} (hs : s.root.ok) : (stepW w s a).view.roots.length ≤ w.view.roots.length + 1 := by
 unfold stepW
 split
 ·exact learnG_len (L := [s]) (by simpa using hs)
 ·exact Nat.zero_le _
section
variable {m : Mem} {wI : World}
theorem c_expect {wv kv : Value} {x : Wt} {key : By} (him : Im m wI) (hw : WtM m wv x) (hk : SlM m kv 1 key.length (bs key)) :
  Ret Try.prog 40 #[wv, kv] wI fun v' w' => Tch wI w' [] [] ∧ v' = .int .i64 (expE x key) := by
 have st := St.start him
 obtain ⟨rv, kw, rfl, hw⟩ := hw
 refine ret_of Try.call40 Try.func40 rfl Try.ntmps40 Try.results40 rfl ?_
 refine wc_seq ?_
 refine wc_region ?_
 refine wl_box (v := .agg (wtC x rv kw).toArray) rfl st rfl ?_
 intro b2 w st
 refine wl_val (v_assign' (by conv => (lhs; whnf))) rfl ?_
 refine wl_nil ?_
 refine then_go ?_
 refine wc_seq ?_
 refine wc_block ?_
 refine wc_seq ?_
 refine wc_region ?_
 refine wl_val (v_fa TF.f69_3 rfl) rfl ?_
 refine wl_val (v_fa TF.f48_1 rfl) rfl ?_
 refine wl_val (v_load rfl (by first | exact st.rdp 0 rfl (by exact rfl) TF.t4 (by exact (Wt.g132_1 (by assumption))))) rfl ?_
 refine wl_val (v_not rfl) rfl ?_
 refine wl_val (v_assign' (by conv => (lhs; whnf))) rfl ?_
 refine wl_nil ?_
 refine then_go ?_
 refine wc_cond rfl (fun h5 => ?_) (fun h5 => ?_)
 ·refine wc_seq ?_
  refine wc_region ?_
  refine wl_val (v_assign' (by conv => (lhs; whnf))) rfl ?_
  refine wl_nil ?_
  refine then_go ?_
  refine wc_ret (block_ret (then_ret ?_))
  have e : expE x key = 7 := by rw [expE, if_pos (by simpa using h5)]
  rw [e]
  exact ret1 rfl ⟨(st.keepOnly (l := []) (List.nil_sublist _)).touch, rfl⟩
 ·refine wc_seq ?_
  refine wc_region ?_
  refine wl_val (v_fa TF.f69_3 rfl) rfl ?_
  refine wl_val (v_fa TF.f48_2 rfl) rfl ?_
  refine wl_val (v_fa TF.f43_1 rfl) rfl ?_
  refine wl_val (v_load rfl (by first | exact st.rdp 0 rfl (by exact rfl) TF.t41 (by exact (Wt.g134_1 (by assumption))))) rfl ?_
  refine wl_val (v_move' (by conv => (lhs; whnf))) rfl ?_
  refine wl_call rfl (c_beq st.im hw.last.1 hk) rfl ?_
  rintro v16 w ⟨t16, rfl⟩
  have st := st.pure t16
  refine wl_val (v_not rfl) rfl ?_
  refine wl_val (v_assign' (by conv => (lhs; whnf))) rfl ?_
  refine wl_nil ?_
  refine then_go ?_
  refine wc_cond rfl (fun h10 => ?_) (fun h10 => ?_)
  ·refine wc_seq ?_
   refine wc_region ?_
   refine wl_val (v_assign' (by conv => (lhs; whnf))) rfl ?_
   refine wl_nil ?_
   refine then_go ?_
   refine wc_ret (block_ret (then_ret ?_))
   have e : expE x key = 5 := by rw [expE, if_neg (by simpa using h5), if_pos (by simpa using h10)]
   rw [e]
   exact ret1 rfl ⟨(st.keepOnly (l := []) (List.nil_sublist _)).touch, rfl⟩
  ·refine wc_skip ?_
   refine block_go (then_go ?_)
   refine wc_seq ?_
   refine wc_region ?_
   refine wl_val (v_assign' (by conv => (lhs; whnf))) rfl ?_
   refine wl_nil ?_
   refine then_go ?_
   refine wc_ret ?_
   have e : expE x key = 0 := by rw [expE, if_neg (by simpa using h5), if_neg (by simpa using h10)]
   rw [e]
   exact ret1 rfl ⟨(st.keepOnly (l := []) (List.nil_sublist _)).touch, rfl⟩
theorem c_rexpect {wv kv : Value} {x : Wt} {key : By} (him : Im m wI) (hw : WtM m wv x) (hk : SlM m kv 1 key.length (bs key)) :
  Ret Try.prog 41 #[wv, kv] wI fun v' w' => Tch wI w' [] [] ∧ v' = .int .i64 (expE x key) := by
 have st := St.start him
 obtain ⟨rv, kw, rfl, hw⟩ := hw
 refine ret_of Try.call41 Try.func41 rfl Try.ntmps41 Try.results41 rfl ?_
 refine wc_seq ?_
 refine wc_region ?_
 refine wl_box (v := .agg (wtC x rv kw).toArray) rfl st rfl ?_
 intro b2 w st
 refine wl_val (v_assign' (by conv => (lhs; whnf))) rfl ?_
 refine wl_nil ?_
 refine then_go ?_
 refine wc_seq ?_
 refine wc_seq ?_
 refine wc_region ?_
 refine wl_val (v_fa TF.f69_3 rfl) rfl ?_
 refine wl_val (v_fa TF.f48_1 rfl) rfl ?_
 refine wl_val (v_load rfl (by first | exact st.rdp 0 rfl (by exact rfl) TF.t4 (by exact (Wt.g132_1 (by assumption))))) rfl ?_
 refine wl_val (v_not rfl) rfl ?_
 refine wl_nil ?_
 refine then_go ?_
 refine wc_cond rfl (fun h8 => ?_) (fun h8 => ?_)
 ·refine wc_seq ?_
  refine wc_region ?_
  refine wl_val (v_assign' (by conv => (lhs; whnf))) rfl ?_
  refine wl_nil ?_
  refine then_go ?_
  refine wc_ret (then_ret ?_)
  have e : expE x key = 7 := by rw [expE, if_pos (by simpa using h8)]
  rw [e]
  exact ret1 rfl ⟨(st.keepOnly (l := []) (List.nil_sublist _)).touch, rfl⟩
 ·refine wc_skip ?_
  refine then_go ?_
  refine wc_seq ?_
  refine wc_seq ?_
  refine wc_region ?_
  refine wl_val (v_fa TF.f69_3 rfl) rfl ?_
  refine wl_val (v_fa TF.f48_2 rfl) rfl ?_
  refine wl_val (v_fa TF.f43_1 rfl) rfl ?_
  refine wl_val (v_load rfl (by first | exact st.rdp 0 rfl (by exact rfl) TF.t41 (by exact (Wt.g134_1 (by assumption))))) rfl ?_
  refine wl_val (v_b2s Try.underlying41 Try.underlying5 Try.underlying9 st.im hw.last.1 rfl) rfl ?_
  refine wl_val (v_move' (by conv => (lhs; whnf))) rfl ?_
  refine wl_val (v_b2s Try.underlying41 Try.underlying5 Try.underlying9 st.im hk rfl) rfl ?_
  refine wl_val (v_nes rfl rfl) rfl ?_
  refine wl_nil ?_
  refine then_go ?_
  refine wc_if rfl (fun h16 => ?_) (fun h16 => ?_)
  ·refine wc_seq ?_
   refine wc_region ?_
   refine wl_val (v_assign' (by conv => (lhs; whnf))) rfl ?_
   refine wl_nil ?_
   refine then_go ?_
   refine wc_ret (then_ret ?_)
   have e : expE x key = 5 := by rw [expE, if_neg (by simpa using h8), if_pos h16]
   rw [e]
   exact ret1 rfl ⟨(st.keepOnly (l := []) (List.nil_sublist _)).touch, rfl⟩
  ·refine wc_skip ?_
   refine then_go ?_
   refine wc_seq ?_
   refine wc_region ?_
   refine wl_val (v_assign' (by conv => (lhs; whnf))) rfl ?_
   refine wl_nil ?_
   refine then_go ?_
   refine wc_ret ?_
   have e : expE x key = 0 := by rw [expE, if_neg (by simpa using h8), if_neg h16]
   rw [e]
   exact ret1 rfl ⟨(st.keepOnly (l := []) (List.nil_sublist _)).touch, rfl⟩
theorem c_wsame {v1 v2 : Value} {x : Wt} (him : Im m wI) (h1 : WtM m v1 x) (h2 : WtM m v2 x) (hL : x.view.roots.length ≤ 1099511627776) :
  Ret Try.prog 37 #[v1, v2] wI fun v' w' => Tch wI w' [] [] ∧ v' = .bool true := by
 have st := St.start him
 obtain ⟨rv1, kw1, rfl, h1⟩ := h1
 obtain ⟨rv2, kw2, rfl, h2⟩ := h2
 refine ret_of Try.call37 Try.func37 rfl Try.ntmps37 Try.results37 rfl ?_
 refine wc_seq ?_
 refine wc_region ?_
 refine wl_box (v := .agg (wtC x rv1 kw1).toArray) rfl st rfl ?_
 intro b2 w st
 refine wl_box (v := .agg (wtC x rv2 kw2).toArray) rfl st rfl ?_
 intro b3 w st
 refine wl_val (v_assign' (by conv => (lhs; whnf))) rfl ?_
 refine wl_nil ?_
 refine then_go ?_
 refine wc_seq ?_
 refine wc_region ?_
 refine wl_val (v_fa TF.f69_0 rfl) rfl ?_
 refine wl_val (v_load rfl (st.rdp 1 rfl (by exact rfl) TF.t29 (by exact Wt.g0_98 h1))) rfl ?_
 refine wl_val (v_fa TF.f69_0 rfl) rfl ?_
 refine wl_val (v_load rfl (st.rdp 0 rfl (by exact rfl) TF.t29 (by exact Wt.g0_98 h2))) rfl ?_
 refine wl_call rfl (c_sameview st.im ⟨_, rfl, h1.view⟩ ⟨_, rfl, h2.view⟩ hL) rfl ?_
 rintro v9 w ⟨t9, rfl⟩
 have st := st.pure t9
 refine wl_val (v_move' (by conv => (lhs; whnf))) rfl ?_
 refine wl_on rfl rfl ?_
 refine wl_val (v_fa TF.f69_1 rfl) rfl ?_
 refine wl_on rfl rfl ?_
 refine wl_val (v_load rfl (by first | exact st.rdp 1 rfl (by exact rfl) TF.t9 (by exact (Wt.g98_1 (by assumption))))) rfl ?_
 refine wl_on rfl rfl ?_
 refine wl_val (v_fa TF.f69_1 rfl) rfl ?_
 refine wl_on rfl rfl ?_
 refine wl_val (v_load rfl (by first | exact st.rdp 0 rfl (by exact rfl) TF.t9 (by exact (Wt.g98_1 (by assumption))))) rfl ?_
 refine wl_on rfl rfl ?_
 refine wl_val (v_to (v_eqs rfl rfl) (by rw [decide_eq_true rfl])) rfl ?_
 refine wl_val (v_pick rfl) rfl ?_
 refine wl_val (v_move' (by conv => (lhs; whnf))) rfl ?_
 refine wl_on rfl rfl ?_
 refine wl_val (v_fa TF.f69_2 rfl) rfl ?_
 refine wl_on rfl rfl ?_
 refine wl_val (v_load rfl (by first | exact st.rdp 1 rfl (by exact rfl) TF.t23 (by exact (Wt.g99_32 (by assumption))))) rfl ?_
 refine wl_on rfl rfl ?_
 refine wl_val (v_fa TF.f69_2 rfl) rfl ?_
 refine wl_on rfl rfl ?_
 refine wl_val (v_load rfl (by first | exact st.rdp 0 rfl (by exact rfl) TF.t23 (by exact (Wt.g99_32 (by assumption))))) rfl ?_
 refine wl_on rfl rfl ?_
 refine wl_val (v_eqDT rfl rfl h1.index) rfl ?_
 refine wl_val (v_pick rfl) rfl ?_
 refine wl_val (v_move' (by conv => (lhs; whnf))) rfl ?_
 refine wl_on rfl rfl ?_
 refine wl_val (v_fa TF.f69_3 rfl) rfl ?_
 refine wl_on rfl rfl ?_
 refine wl_val (v_load rfl (st.rdp 1 rfl (by exact rfl) TF.t48 (by exact Wt.g131_5 h1))) rfl ?_
 refine wl_on rfl rfl ?_
 refine wl_val (v_fa TF.f69_3 rfl) rfl ?_
 refine wl_on rfl rfl ?_
 refine wl_val (v_load rfl (st.rdp 0 rfl (by exact rfl) TF.t48 (by exact Wt.g131_5 h2))) rfl ?_
 refine wl_on rfl rfl ?_
 refine wl_call rfl (c_samefound st.im ⟨_, rfl, h1.last⟩ ⟨_, rfl, h2.last⟩) rfl ?_
 rintro v29 w ⟨t29, rfl⟩
 have st := st.pure t29
 refine wl_val (v_pick rfl) rfl ?_
 refine wl_val (v_assign' (by conv => (lhs; whnf))) rfl ?_
 refine wl_nil ?_
 refine then_go ?_
 refine wc_ret ?_
 rw [decide_eq_true rfl]
 exact ret1 rfl ⟨(st.keepOnly (l := []) (List.nil_sublist _)).touch, rfl⟩
theorem c_run {wv lv av : Value} {x : Wt} {L : List (Sg × Value)} {A : List AwT} (him : Im m wI) (hw : WtM m wv x) (hl : SgsM m lv L) (ha : AwsM m av A) (hL : x.view.roots.length + L.length ≤ 999999) (hk : ∀ p ∈ A, p.1.bind.key.length ≤ 1099511627776) :
  Ret Try.prog 38 #[wv, lv, av] wI fun v' w' => Out m wI w' fun m' => ∃ v2, v' = .tuple #[v2, .int .i64 (runGo x 0 (L.map (·.1)) (A.map (·.1))).2.1, .int .i64 (runGo x 0 (L.map (·.1)) (A.map (·.1))).2.2] ∧ WtM m' v2 (runGo x 0 (L.map (·.1)) (A.map (·.1))).1 := by
 have st := St.start him
 obtain ⟨rv, kw, rfl, hw⟩ := hw
 obtain ⟨la, lc, rfl⟩ := hl.1.sl
 obtain ⟨aa, ac, rfl⟩ := ha.1.sl
 obtain ⟨R, hR⟩ : ∃ R, R = runGo x 0 (L.map (·.1)) (A.map (·.1)) := ⟨_, rfl⟩
 rw [← hR]
 refine ret_of Try.call38 Try.func38 rfl Try.ntmps38 Try.results38 rfl ?_
 refine wc_seq ?_
 refine wc_region ?_
 refine wl_box (v := .agg (wtC x rv kw).toArray) rfl st rfl ?_
 intro b3 w st
 refine wl_alloc TF.z69 st rfl ?_
 intro b6 w st
 refine wl_val (v_assign' (by conv => (lhs; whnf))) rfl ?_
 refine wl_val (v_assign' (by conv => (lhs; whnf))) rfl ?_
 refine wl_nil ?_
 refine then_go ?_
 refine wc_seq ?_
 refine wc_region ?_
 refine wl_val (v_move' (by conv => (lhs; whnf))) rfl ?_
 refine wl_val (v_len_s Try.underlying30 rfl) rfl ?_
 refine wl_val (v_move' (by conv => (lhs; whnf))) rfl ?_
 refine wl_val (v_len_s Try.underlying61 rfl) rfl ?_
 refine wl_val (v_to (v' := .int .i64 ((min L.length A.length : Nat) : Int)) (v_min rfl rfl) (by congr 1; omega)) rfl ?_
 refine wl_val (v_assign' (by conv => (lhs; whnf))) rfl ?_
 refine wl_nil ?_
 refine then_go ?_
 refine wc_seq ?_
 refine wc_seq ?_
 refine wc_region ?_
 refine wl_val (v_move' (by conv => (lhs; whnf))) rfl ?_
 refine wl_val (v_move' (by conv => (lhs; whnf))) rfl ?_
 refine wl_nil ?_
 refine then_go ?_
 refine wc_block ?_
 refine wc_loop (S := Nat) (fun q r w' => ∃ (i : Nat) (y : Wt) (rv kw : Value) (m2 : Mem), q + i = min L.length A.length ∧ r 1 = .slice la L.length lc ∧ r 2 = .slice aa A.length ac ∧ r 3 = .pointer (some ⟨b3, 0, none⟩) ∧ r 6 = .pointer (some ⟨b6, 0, none⟩) ∧ r 9 = .int .i64 ((min L.length A.length : Nat) : Int) ∧ r 18 = .int .i64 ((min L.length A.length : Nat) : Int) ∧ r 19 = .int .i64 i ∧ y.view.roots.length ≤ x.view.roots.length + i ∧ R = runGo y i ((L.drop i).map (·.1)) ((A.drop i).map (·.1)) ∧ WtOk m2 y rv kw ∧ SgsM m2 (.slice la L.length lc) L ∧ AwsM m2 (.slice aa A.length ac) A ∧
  St m m2 [] wI w' [K.blk b6 (wtC Wt.zero (.slice none 0 0) (.slice none 0 0)).toArray 69, K.blk b3 (wtC y rv kw).toArray 69]) id (min L.length A.length) ⟨0, x, rv, kw, m, by omega, rfl, rfl, rfl, rfl, rfl, rfl, rfl, by omega, hR, hw, hl, ha, st⟩ ?_
 clear hl ha hw st
 rintro q r w2 ⟨i, y, rv, kw, m2, hqi, g1, g2, g3, g6, g9, g18, g19, hyl, hRx, hw, hl, ha, st⟩
 refine wc_o 1 g1 (wc_o 2 g2 (wc_o 3 g3 (wc_o 6 g6 (wc_o 9 g9 (wc_o 18 g18 (wc_o 19 g19 ?_))))))
 refine wc_seq ?_
 refine wc_region ?_
 refine wl_val (v_lss rfl rfl) rfl ?_
 refine wl_nil ?_
 refine then_go ?_
 refine wc_seq ?_
 refine wc_if rfl (fun h20 => ?_) (fun h20 => ?_)
 ·refine wc_skip ?_
  refine then_go ?_
  refine wc_seq ?_
  refine wc_block ?_
  refine wc_seq ?_
  refine wc_region ?_
  refine wl_val (v_move' (by conv => (lhs; whnf))) rfl ?_
  refine wl_val (v_assign' (by conv => (lhs; whnf))) rfl ?_
  refine wl_nil ?_
  refine then_go ?_
  refine wc_seq ?_
  have hi1 : i < L.length := by omega
  have hi2 : i < A.length := by omega
  obtain ⟨lb, lo, hla⟩ := hl.1.ptr (by omega) (by decide)
  subst hla
  obtain ⟨ab, ao, haa⟩ := ha.1.ptr (by omega) (by decide)
  subst haa
  have hs1 := hl.2 _ (List.getElem_mem hi1)
  have ha1 := ha.2 _ (List.getElem_mem hi2)
  have hk1 := hk _ (List.getElem_mem hi2)
  rw [List.drop_eq_getElem_cons hi1, List.drop_eq_getElem_cons hi2, List.map_cons, List.map_cons] at hRx
  refine wc_draw TF.mixed ?_
  have st := st.pure (touch_drew _)
  show FL _ _ ?ops5 ?post5 [] [] [] _ _
  have fin : ∀ (r : Fr) (w : World) (m3 : Mem) (b11 : Nat) (v2 : Value), r 1 = .slice (some ⟨lb, lo, none⟩) L.length lc → r 2 = .slice (some ⟨ab, ao, none⟩) A.length ac → r 3 = .pointer (some ⟨b3, 0, none⟩) → r 6 = .pointer (some ⟨b6, 0, none⟩) → r 9 = .int .i64 ((min L.length A.length : Nat) : Int) → r 10 = .int .i64 i → r 11 = .pointer (some ⟨b11, 0, none⟩) → r 18 = .int .i64 ((min L.length A.length : Nat) : Int) → r 19 = .int .i64 i → r 22 = .tuple #[v2, .int .i64 (stpE y L[i].1 A[i].1)] → r 33 = v2 → r 34 = .int .i64 (stpE y L[i].1 A[i].1) → WtM m3 v2 (stepW y L[i].1 A[i].1) → WtOk m3 y rv kw → SgsM m3 (.slice (some ⟨lb, lo, none⟩) L.length lc) L → AwsM m3 (.slice (some ⟨ab, ao, none⟩) A.length ac) A →
   St m m3 [] wI w [K.blk b11 (wtC Wt.zero (.slice none 0 0) (.slice none 0 0)).toArray 69, K.blk b6 (wtC Wt.zero (.slice none 0 0) (.slice none 0 0)).toArray 69, K.blk b3 (wtC y rv kw).toArray 69] → FL Try.prog 44 ?ops5 ?post5 [13, 12, 11, 10, 9, 8, 7, 6, 5, 4, 3, 2, 1, 0] [12, 11, 10, 7, 6, 5, 3, 2, 1] [] r w := by
   clear st hw hl ha
   rintro r w m3 b11 v2 g1 g2 g3 g6 g9 g10 g11 g18 g19 g22 g33 g34 hz hw hl ha st
   obtain ⟨rz, kz, rfl, hz⟩ := hz
   refine fl_o 1 g1 (fl_o 2 g2 (fl_o 3 g3 (fl_o 6 g6 (fl_o 9 g9 (fl_o 10 g10 (fl_o 11 g11 (fl_o 18 g18 (fl_o 19 g19 (fl_o 22 g22 (fl_o 33 g33 (fl_o 34 g34 ?_)))))))))))
   refine fl_eff1 14 [12] [] (by kernel_rfl) trivial rfl ?_
   refine wl_storeW 0 st rfl TF.t69 rfl rfl (by first | (rw [List.size_toArray]; exact Wt.len (by assumption)) | rfl) (by first | rfl | exact Wt.len (by assumption)) (by first | exact (Wt.one (by assumption)) | exact (Wt.one (Wt.zok (m := fun _ => none)))) ?_
   intro w st
   refine wl_nil ⟨rfl, ?_⟩
   refine fl_eff1 15 [] [] (by kernel_rfl) trivial rfl ?_
   refine wl_val (v_assign' (by conv => (lhs; whnf))) rfl ?_
   refine wl_nil ⟨rfl, ?_⟩
   refine fl_nil (by kernel_rfl) trivial ?_
   refine then_go ?_
   refine wc_seq ?_
   refine wc_seq ?_
   refine wc_region ?_
   refine wl_val (v_move' (by conv => (lhs; whnf))) rfl ?_
   refine wl_val (v_neq rfl rfl) rfl ?_
   refine wl_nil ?_
   refine then_go ?_
   refine wc_if rfl (fun h36 => ?_) (fun h36 => ?_)
   ·refine wc_seq ?_
    refine wc_region ?_
    refine wl_val (v_build (c' := (wtC Wt.zero (.slice none 0 0) (.slice none 0 0)).toArray) [] TF.z69 TF.p69 rfl rfl) rfl ?_
    refine wl_val (v_move' (by conv => (lhs; whnf))) rfl ?_
    refine wl_val (v_move' (by conv => (lhs; whnf))) rfl ?_
    refine wl_storeW 1 st rfl TF.t69 rfl rfl (by first | (rw [List.size_toArray]; exact Wt.len (by assumption)) | rfl) (by first | rfl | exact Wt.len (by assumption)) (by first | exact (Wt.one (by assumption)) | exact (Wt.one (Wt.zok (m := fun _ => none)))) ?_
    intro w st
    refine wl_val (v_assign' (by conv => (lhs; whnf))) rfl ?_
    refine wl_val (v_assign' (by conv => (lhs; whnf))) rfl ?_
    refine wl_nil ?_
    refine then_go ?_
    refine wc_ret (then_ret (block_ret (then_ret (then_ret (block_ret (then_ret ?_))))))
    rw [runGo, if_neg h36] at hRx
    rw [hRx]
    exact ret3c rfl (st.reads 1 rfl TF.t69 (getV_all (by first | rfl))) rfl rfl ((st.keepOnly (l := []) (List.nil_sublist _)).out ⟨_, rfl, wt0_M⟩)
   ·refine wc_skip ?_
    refine then_go ?_
    refine wc_region ?_
    refine wl_val (v_load rfl (by first | exact st.rdp 0 rfl (by exact rfl) TF.t69 (by exact (getV_all (by exact Wt.len (by assumption)))))) rfl ?_
    refine wl_storeW 2 st rfl TF.t69 rfl rfl (by first | (rw [List.size_toArray]; exact Wt.len (by assumption)) | rfl) (by first | rfl | exact Wt.len (by assumption)) (by first | exact (Wt.one (by assumption)) | exact (Wt.one (Wt.zok (m := fun _ => none)))) ?_
    intro w st
    refine wl_nil ?_
    refine block_go (then_go ?_)
    refine wc_region ?_
    refine wl_val (v_add' rfl rfl rfl (by first | omega | (dsimp only at *; omega)) (by first | omega | (dsimp only at *; omega))) rfl ?_
    refine wl_val (v_move' (by conv => (lhs; whnf))) rfl ?_
    refine wl_nil ?_
    refine then_go ?_
    have hE : stpE y L[i].1 A[i].1 = 0 := Decidable.not_not.1 h36
    rw [runGo, if_pos hE] at hRx
    exact ⟨q - 1, by simp; omega, i + 1, _, rz, kz, m3, by omega, rfl, rfl, rfl, rfl, rfl, rfl, rfl, by have := stepW_len (w := y) (a := A[i].1) hs1.1; omega, hRx, hz, hl, ha, st.drop 0⟩
  refine fl_ld 0 rfl (v_load rfl (by first | exact st.rdp 1 rfl (by exact rfl) TF.t69 (by exact getV_all (by exact Wt.len hw)) | exact st.rdp 2 rfl (by exact rfl) TF.t69 (by exact getV_all (by exact Wt.len hw)))) (by kernel_rfl) ?_
  refine fl_val 1 rfl (fun _ => (v_move' (by conv => (lhs; whnf)))) rfl (by kernel_rfl) ?_
  refine fl_val 2 rfl (fun _ => (v_move' (by conv => (lhs; whnf)))) rfl (by kernel_rfl) ?_
  refine fl_val 3 rfl (fun _ => (v_ias i Try.underlying30 TF.t71 rfl rfl (by first | rfl | omega) (by first | omega | (dsimp only at *; omega)))) rfl (by kernel_rfl) ?_
  refine fl_ld 4 rfl (v_load rfl (hl.1.rd0 rfl hi1 (by decide) TF.t71 (v' := .agg (sgC L[i].1.root L[i].2).toArray) (getV_all (by exact length_sgC hs1.1)) st.im)) (by kernel_rfl) ?_
  refine fl_val 5 rfl (fun _ => (v_move' (by conv => (lhs; whnf)))) rfl (by kernel_rfl) ?_
  refine fl_val 6 rfl (fun _ => (v_move' (by conv => (lhs; whnf)))) rfl (by kernel_rfl) ?_
  refine fl_val 7 rfl (fun _ => (v_ias i Try.underlying61 TF.t45 rfl rfl (by first | rfl | omega) (by first | omega | (dsimp only at *; omega)))) rfl (by kernel_rfl) ?_
  refine fl_ld 8 rfl (v_load rfl (ha.1.rd0 rfl hi2 (by decide) TF.t45 (v' := .agg (awC A[i].1 A[i].2.1 A[i].2.2).toArray) (getV_all (by exact length_awC ha1)) st.im)) (by kernel_rfl) ?_
  refine fl_effs [9, 13] (by kernel_rfl) ⟨obl_ld rfl rfl rfl (v_load rfl (ha.1.rd0 rfl hi2 (by decide) TF.t45 (v' := .agg (awC A[i].1 A[i].2.1 A[i].2.2).toArray) (getV_all (by exact length_awC ha1)) st.im)), obl_ld rfl rfl rfl (v_load rfl (hl.1.rd0 rfl hi1 (by decide) TF.t71 (v' := .agg (sgC L[i].1.root L[i].2).toArray) (getV_all (by exact length_sgC hs1.1)) st.im)), obl_ld rfl rfl rfl (v_load rfl (by first | exact st.rdp 1 rfl (by exact rfl) TF.t69 (by exact getV_all (by exact Wt.len hw)) | exact st.rdp 2 rfl (by exact rfl) TF.t69 (by exact getV_all (by exact Wt.len hw)))), trivial⟩ (all2 ?_ ?_)
  ·refine stepE 9 (pure' := [7, 6, 5, 3, 2, 1]) (lds' := []) rfl (by kernel_rfl) (by kernel_rfl) ?_
   refine wl_call rfl (c_step st.im ⟨_, _, rfl, hw⟩ ⟨_, rfl, (hl.2 _ (List.getElem_mem hi1)).2, hs1.1⟩ ⟨_, _, rfl, ha.2 _ (List.getElem_mem hi2)⟩ (by omega) hk1) rfl ?_
   rintro v32 w ⟨t32, m3, gr32, im32, v2, rfl, hz⟩
   have st := st.grown gr32 t32 im32
   have hw := hw.mono gr32.le
   have hl := hl.mono gr32.le
   have ha := ha.mono gr32.le
   refine wl_nil ⟨rfl, ?_⟩
   refine fl_val 10 rfl (fun _ => (v_move' (by conv => (lhs; whnf)))) rfl (by kernel_rfl) ?_
   refine fl_val 11 rfl (fun _ => (v_extract rfl rfl)) rfl (by kernel_rfl) ?_
   refine fl_val 12 rfl (fun _ => (v_extract rfl rfl)) rfl (by kernel_rfl) ?_
   refine fl_eff1 13 [12, 11, 10, 7, 6, 5, 3, 2, 1] [] (by kernel_rfl) trivial rfl ?_
   refine wl_alloc TF.z69 st rfl ?_
   intro b11 w st
   refine wl_nil ⟨rfl, ?_⟩
   refine FL.permB [13, 12, 11, 10, 9, 8, 7, 6, 5, 4, 3, 2, 1, 0] [12, 11, 10, 7, 6, 5, 3, 2, 1] [] (by kernel_rfl) ?_
   exact fin _ _ _ _ _ rfl rfl rfl rfl rfl rfl rfl rfl rfl rfl rfl rfl hz hw hl ha st
  ·refine stepE 13 (pure' := [7, 6, 5, 3, 2, 1]) (lds' := [8, 4, 0]) rfl (by kernel_rfl) (by kernel_rfl) ?_
   refine wl_alloc TF.z69 st rfl ?_
   intro b11 w st
   refine wl_nil ⟨rfl, ?_⟩
   refine fl_eff1 9 [7, 6, 5, 3, 2, 1] [] (by kernel_rfl) ⟨obl_ld rfl rfl rfl (v_load rfl (ha.1.rd0 rfl hi2 (by decide) TF.t45 (v' := .agg (awC A[i].1 A[i].2.1 A[i].2.2).toArray) (getV_all (by exact length_awC ha1)) st.im)), obl_ld rfl rfl rfl (v_load rfl (hl.1.rd0 rfl hi1 (by decide) TF.t71 (v' := .agg (sgC L[i].1.root L[i].2).toArray) (getV_all (by exact length_sgC hs1.1)) st.im)), obl_ld rfl rfl rfl (v_load rfl (by first | exact st.rdp 1 rfl (by exact rfl) TF.t69 (by exact getV_all (by exact Wt.len hw)) | exact st.rdp 2 rfl (by exact rfl) TF.t69 (by exact getV_all (by exact Wt.len hw)))), trivial⟩ rfl ?_
   refine wl_call rfl (c_step st.im ⟨_, _, rfl, hw⟩ ⟨_, rfl, (hl.2 _ (List.getElem_mem hi1)).2, hs1.1⟩ ⟨_, _, rfl, ha.2 _ (List.getElem_mem hi2)⟩ (by omega) hk1) rfl ?_
   rintro v32 w ⟨t32, m3, gr32, im32, v2, rfl, hz⟩
   have st := st.grown gr32 t32 im32
   have hw := hw.mono gr32.le
   have hl := hl.mono gr32.le
   have ha := ha.mono gr32.le
   refine wl_nil ⟨rfl, ?_⟩
   refine fl_val 10 rfl (fun _ => (v_move' (by conv => (lhs; whnf)))) rfl (by kernel_rfl) ?_
   refine fl_val 11 rfl (fun _ => (v_extract rfl rfl)) rfl (by kernel_rfl) ?_
   refine fl_val 12 rfl (fun _ => (v_extract rfl rfl)) rfl (by kernel_rfl) ?_
   refine FL.permB [13, 12, 11, 10, 9, 8, 7, 6, 5, 4, 3, 2, 1, 0] [12, 11, 10, 7, 6, 5, 3, 2, 1] [] (by kernel_rfl) ?_
   exact fin _ _ _ _ _ rfl rfl rfl rfl rfl rfl rfl rfl rfl rfl rfl rfl hz hw hl ha st
 ·refine wc_exit (then_exit (then_exit (block_hit ?_)))
  refine then_go ?_
  refine wc_seq ?_
  refine wc_region ?_
  refine wl_val (v_load rfl (by first | exact st.rdp 1 rfl (by exact rfl) TF.t69 (by exact (getV_all (by exact Wt.len (by assumption)))))) rfl ?_
  refine wl_val (v_move' (by conv => (lhs; whnf))) rfl ?_
  refine wl_storeW 0 st rfl TF.t69 rfl rfl (by first | (rw [List.size_toArray]; exact Wt.len (by assumption)) | rfl) (by first | rfl | exact Wt.len (by assumption)) (by first | exact (Wt.one (by assumption)) | exact (Wt.one (Wt.zok (m := fun _ => none)))) ?_
  intro w st
  refine wl_val (v_assign' (by conv => (lhs; whnf))) rfl ?_
  refine wl_val (v_assign' (by conv => (lhs; whnf))) rfl ?_
  refine wl_nil ?_
  refine then_go ?_
  refine wc_ret ?_
  have e : R = (y, i, 0) := by
   rw [hRx]
   rcases Nat.lt_or_ge i L.length with h | h
   ·rw [List.drop_eq_nil_of_le (show A.length ≤ i by omega), List.map_nil]
    cases (L.drop i).map (·.1) <;> rfl
   ·rw [List.drop_eq_nil_of_le h, List.map_nil]
    cases (A.drop i).map (·.1) <;> rfl
  rw [e, show min L.length A.length = i by omega]
  exact ret3c rfl (st.reads 0 rfl TF.t69 (getV_all (by first | exact Wt.len (by assumption) | rfl))) rfl rfl ((st.keepOnly (l := []) (List.nil_sublist _)).out ⟨_, rfl, _, _, rfl, hw⟩)
end
end Go.Proofs.Ytjjpakjgppmmdaa

namespace Go.Proofs.Ytjjpakjgppmmdaa
open Go Go.RowKit K SH PT
section
variable {m : Mem} {wI : World}
theorem c_rrun {wv lv av : Value} {x : Wt} {L : List (Sg × Value)} {A : List AwT} (him : Im m wI) (hw : WtM m wv x) (hl : SgsM m lv L) (ha : AwsM m av A) (hL : x.view.roots.length + L.length ≤ 999999) :
  Ret Try.prog 39 #[wv, lv, av] wI fun v' w' => Out m wI w' fun m' => ∃ v2, v' = .tuple #[v2, .int .i64 (runGo x 0 (L.map (·.1)) (A.map (·.1))).2.1, .int .i64 (runGo x 0 (L.map (·.1)) (A.map (·.1))).2.2] ∧ WtM m' v2 (runGo x 0 (L.map (·.1)) (A.map (·.1))).1 := by
 have st := St.start him
 obtain ⟨rv, kw, rfl, hw⟩ := hw
 obtain ⟨la, lc, rfl⟩ := hl.1.sl
 obtain ⟨aa, ac, rfl⟩ := ha.1.sl
 obtain ⟨R, hR⟩ : ∃ R, R = runGo x 0 (L.map (·.1)) (A.map (·.1)) := ⟨_, rfl⟩
 rw [← hR]
 refine ret_of Try.call39 Try.func39 rfl Try.ntmps39 Try.results39 rfl ?_
 refine wc_seq ?_
 refine wc_region ?_
 refine wl_box (v := .agg (wtC x rv kw).toArray) rfl st rfl ?_
 intro b3 w st
 refine wl_alloc TF.z69 st rfl ?_
 intro b6 w st
 refine wl_val (v_assign' (by conv => (lhs; whnf))) rfl ?_
 refine wl_val (v_assign' (by conv => (lhs; whnf))) rfl ?_
 refine wl_nil ?_
 refine then_go ?_
 refine wc_seq ?_
 refine wc_region ?_
 refine wl_val (v_assign' (by conv => (lhs; whnf))) rfl ?_
 refine wl_nil ?_
 refine then_go ?_
 refine wc_seq ?_
 refine wc_block ?_
 refine wc_loop (S := Nat) (fun q r w' => ∃ (i : Nat) (y : Wt) (rv kw : Value) (m2 : Mem), q + i = min L.length A.length ∧ r 1 = .slice la L.length lc ∧ r 2 = .slice aa A.length ac ∧ r 3 = .pointer (some ⟨b3, 0, none⟩) ∧ r 6 = .pointer (some ⟨b6, 0, none⟩) ∧ r 9 = .int .i64 i ∧ y.view.roots.length ≤ x.view.roots.length + i ∧ R = runGo y i ((L.drop i).map (·.1)) ((A.drop i).map (·.1)) ∧ WtOk m2 y rv kw ∧ SgsM m2 (.slice la L.length lc) L ∧ AwsM m2 (.slice aa A.length ac) A ∧
  St m m2 [] wI w' [K.blk b6 (wtC Wt.zero (.slice none 0 0) (.slice none 0 0)).toArray 69, K.blk b3 (wtC y rv kw).toArray 69]) id (min L.length A.length) ⟨0, x, rv, kw, m, by omega, rfl, rfl, rfl, rfl, rfl, by omega, hR, hw, hl, ha, st⟩ ?_
 clear hl ha hw st
 rintro q r w2 ⟨i, y, rv, kw, m2, hqi, g1, g2, g3, g6, g9, hyl, hRx, hw, hl, ha, st⟩
 refine wc_o 1 g1 (wc_o 2 g2 (wc_o 3 g3 (wc_o 6 g6 (wc_o 9 g9 ?_))))
 refine wc_seq ?_
 refine wc_seq ?_
 refine wc_region ?_
 refine wl_val (v_move' (by conv => (lhs; whnf))) rfl ?_
 refine wl_val (v_move' (by conv => (lhs; whnf))) rfl ?_
 refine wl_val (v_len_s Try.underlying30 rfl) rfl ?_
 refine wl_val (v_lss rfl rfl) rfl ?_
 refine wl_val (v_move' (by conv => (lhs; whnf))) rfl ?_
 refine wl_valg rfl rfl (fun e => (v_move' (by conv => (lhs; whnf)))) rfl ?_
 refine wl_valg rfl rfl (fun e => (v_move' (by conv => (lhs; whnf)))) rfl ?_
 refine wl_valg rfl rfl (fun e => (v_len_s Try.underlying61 (by first | rfl | exact gx e rfl))) rfl ?_
 refine wl_valg rfl rfl (fun e => (v_lss (by first | rfl | exact gx e rfl) (by first | rfl | exact gx e rfl))) rfl ?_
 refine wl_val (v_pickA rfl rfl rfl) rfl ?_
 refine wl_nil ?_
 refine then_go ?_
 refine wc_cond rfl (fun h21 => ?_) (fun h21 => ?_)
 ·refine wc_skip ?_
  refine then_go ?_
  refine wc_block ?_
  refine wc_seq ?_
  have hi1 : i < L.length := by simp at h21; omega
  have hi2 : i < A.length := by simp at h21; omega
  obtain ⟨lb, lo, hla⟩ := hl.1.ptr (by omega) (by decide)
  subst hla
  obtain ⟨ab, ao, haa⟩ := ha.1.ptr (by omega) (by decide)
  subst haa
  have hs1 := hl.2 _ (List.getElem_mem hi1)
  have ha1 := ha.2 _ (List.getElem_mem hi2)
  rw [List.drop_eq_getElem_cons hi1, List.drop_eq_getElem_cons hi2, List.map_cons, List.map_cons] at hRx
  refine wc_draw TF.mixed ?_
  have st := st.pure (touch_drew _)
  show FL _ _ ?ops3 ?post3 [] [] [] _ _
  have fin : ∀ (r : Fr) (w : World) (m3 : Mem) (b11 : Nat) (v2 : Value), r 1 = .slice (some ⟨lb, lo, none⟩) L.length lc → r 2 = .slice (some ⟨ab, ao, none⟩) A.length ac → r 3 = .pointer (some ⟨b3, 0, none⟩) → r 6 = .pointer (some ⟨b6, 0, none⟩) → r 9 = .int .i64 i → r 10 = .pointer (some ⟨b11, 0, none⟩) → r 22 = .tuple #[v2, .int .i64 (stpE y L[i].1 A[i].1)] → r 33 = v2 → r 34 = .int .i64 (stpE y L[i].1 A[i].1) → WtM m3 v2 (stepW y L[i].1 A[i].1) → WtOk m3 y rv kw → SgsM m3 (.slice (some ⟨lb, lo, none⟩) L.length lc) L → AwsM m3 (.slice (some ⟨ab, ao, none⟩) A.length ac) A →
   St m m3 [] wI w [K.blk b11 (wtC Wt.zero (.slice none 0 0) (.slice none 0 0)).toArray 69, K.blk b6 (wtC Wt.zero (.slice none 0 0) (.slice none 0 0)).toArray 69, K.blk b3 (wtC y rv kw).toArray 69] → FL Try.prog 45 ?ops3 ?post3 [13, 12, 11, 10, 9, 8, 7, 6, 5, 4, 3, 2, 1, 0] [12, 11, 10, 7, 6, 5, 3, 2, 1] [] r w := by
   clear st hw hl ha
   rintro r w m3 b11 v2 g1 g2 g3 g6 g9 g10 g22 g33 g34 hz hw hl ha st
   obtain ⟨rz, kz, rfl, hz⟩ := hz
   refine fl_o 1 g1 (fl_o 2 g2 (fl_o 3 g3 (fl_o 6 g6 (fl_o 9 g9 (fl_o 10 g10 (fl_o 22 g22 (fl_o 33 g33 (fl_o 34 g34 ?_))))))))
   refine fl_eff1 14 [12] [] (by kernel_rfl) trivial rfl ?_
   refine wl_storeW 0 st rfl TF.t69 rfl rfl (by first | (rw [List.size_toArray]; exact Wt.len (by assumption)) | rfl) (by first | rfl | exact Wt.len (by assumption)) (by first | exact (Wt.one (by assumption)) | exact (Wt.one (Wt.zok (m := fun _ => none)))) ?_
   intro w st
   refine wl_nil ⟨rfl, ?_⟩
   refine fl_eff1 15 [] [] (by kernel_rfl) trivial rfl ?_
   refine wl_val (v_assign' (by conv => (lhs; whnf))) rfl ?_
   refine wl_nil ⟨rfl, ?_⟩
   refine fl_nil (by kernel_rfl) trivial ?_
   refine then_go ?_
   refine wc_seq ?_
   refine wc_seq ?_
   refine wc_region ?_
   refine wl_val (v_move' (by conv => (lhs; whnf))) rfl ?_
   refine wl_val (v_neq rfl rfl) rfl ?_
   refine wl_nil ?_
   refine then_go ?_
   refine wc_if rfl (fun h36 => ?_) (fun h36 => ?_)
   ·refine wc_seq ?_
    refine wc_region ?_
    refine wl_val (v_build (c' := (wtC Wt.zero (.slice none 0 0) (.slice none 0 0)).toArray) [] TF.z69 TF.p69 rfl rfl) rfl ?_
    refine wl_val (v_move' (by conv => (lhs; whnf))) rfl ?_
    refine wl_val (v_move' (by conv => (lhs; whnf))) rfl ?_
    refine wl_storeW 1 st rfl TF.t69 rfl rfl (by first | (rw [List.size_toArray]; exact Wt.len (by assumption)) | rfl) (by first | rfl | exact Wt.len (by assumption)) (by first | exact (Wt.one (by assumption)) | exact (Wt.one (Wt.zok (m := fun _ => none)))) ?_
    intro w st
    refine wl_val (v_assign' (by conv => (lhs; whnf))) rfl ?_
    refine wl_val (v_assign' (by conv => (lhs; whnf))) rfl ?_
    refine wl_nil ?_
    refine then_go ?_
    refine wc_ret (then_ret (block_ret (then_ret (block_ret (then_ret ?_)))))
    rw [runGo, if_neg h36] at hRx
    rw [hRx]
    exact ret3c rfl (st.reads 1 rfl TF.t69 (getV_all (by first | rfl))) rfl rfl ((st.keepOnly (l := []) (List.nil_sublist _)).out ⟨_, rfl, wt0_M⟩)
   ·refine wc_skip ?_
    refine then_go ?_
    refine wc_seq ?_
    refine wc_region ?_
    refine wl_val (v_load rfl (by first | exact st.rdp 0 rfl (by exact rfl) TF.t69 (by exact (getV_all (by exact Wt.len (by assumption)))))) rfl ?_
    refine wl_storeW 2 st rfl TF.t69 rfl rfl (by first | (rw [List.size_toArray]; exact Wt.len (by assumption)) | rfl) (by first | rfl | exact Wt.len (by assumption)) (by first | exact (Wt.one (by assumption)) | exact (Wt.one (Wt.zok (m := fun _ => none)))) ?_
    intro w st
    refine wl_nil ?_
    refine then_go ?_
    refine wc_region ?_
    refine wl_val (v_move' (by conv => (lhs; whnf))) rfl ?_
    refine wl_val (v_add' rfl rfl rfl (by first | omega | (dsimp only at *; omega)) (by first | omega | (dsimp only at *; omega))) rfl ?_
    refine wl_val (v_assign' (by conv => (lhs; whnf))) rfl ?_
    refine wl_nil ?_
    refine block_go (then_go ?_)
    have hE : stpE y L[i].1 A[i].1 = 0 := Decidable.not_not.1 h36
    rw [runGo, if_pos hE] at hRx
    exact ⟨q - 1, by simp; omega, i + 1, _, rz, kz, m3, by omega, rfl, rfl, rfl, rfl, rfl, by have := stepW_len (w := y) (a := A[i].1) hs1.1; omega, hRx, hz, hl, ha, st.drop 0⟩
  refine fl_ld 0 rfl (v_load rfl (by first | exact st.rdp 1 rfl (by exact rfl) TF.t69 (by exact getV_all (by exact Wt.len hw)) | exact st.rdp 2 rfl (by exact rfl) TF.t69 (by exact getV_all (by exact Wt.len hw)))) (by kernel_rfl) ?_
  refine fl_val 1 rfl (fun _ => (v_move' (by conv => (lhs; whnf)))) rfl (by kernel_rfl) ?_
  refine fl_val 2 rfl (fun _ => (v_move' (by conv => (lhs; whnf)))) rfl (by kernel_rfl) ?_
  refine fl_val 3 rfl (fun _ => (v_ias i Try.underlying30 TF.t71 rfl rfl (by first | rfl | omega) (by first | omega | (dsimp only at *; omega)))) rfl (by kernel_rfl) ?_
  refine fl_ld 4 rfl (v_load rfl (hl.1.rd0 rfl hi1 (by decide) TF.t71 (v' := .agg (sgC L[i].1.root L[i].2).toArray) (getV_all (by exact length_sgC hs1.1)) st.im)) (by kernel_rfl) ?_
  refine fl_val 5 rfl (fun _ => (v_move' (by conv => (lhs; whnf)))) rfl (by kernel_rfl) ?_
  refine fl_val 6 rfl (fun _ => (v_move' (by conv => (lhs; whnf)))) rfl (by kernel_rfl) ?_
  refine fl_val 7 rfl (fun _ => (v_ias i Try.underlying61 TF.t45 rfl rfl (by first | rfl | omega) (by first | omega | (dsimp only at *; omega)))) rfl (by kernel_rfl) ?_
  refine fl_ld 8 rfl (v_load rfl (ha.1.rd0 rfl hi2 (by decide) TF.t45 (v' := .agg (awC A[i].1 A[i].2.1 A[i].2.2).toArray) (getV_all (by exact length_awC ha1)) st.im)) (by kernel_rfl) ?_
  refine fl_effs [9, 13] (by kernel_rfl) ⟨obl_ld rfl rfl rfl (v_load rfl (ha.1.rd0 rfl hi2 (by decide) TF.t45 (v' := .agg (awC A[i].1 A[i].2.1 A[i].2.2).toArray) (getV_all (by exact length_awC ha1)) st.im)), obl_ld rfl rfl rfl (v_load rfl (hl.1.rd0 rfl hi1 (by decide) TF.t71 (v' := .agg (sgC L[i].1.root L[i].2).toArray) (getV_all (by exact length_sgC hs1.1)) st.im)), obl_ld rfl rfl rfl (v_load rfl (by first | exact st.rdp 1 rfl (by exact rfl) TF.t69 (by exact getV_all (by exact Wt.len hw)) | exact st.rdp 2 rfl (by exact rfl) TF.t69 (by exact getV_all (by exact Wt.len hw)))), trivial⟩ (all2 ?_ ?_)
  ·refine stepE 9 (pure' := [7, 6, 5, 3, 2, 1]) (lds' := []) rfl (by kernel_rfl) (by kernel_rfl) ?_
   refine wl_call rfl (c_rstep st.im ⟨_, _, rfl, hw⟩ ⟨_, rfl, (hl.2 _ (List.getElem_mem hi1)).2, hs1.1⟩ ⟨_, _, rfl, ha.2 _ (List.getElem_mem hi2)⟩ (by omega)) rfl ?_
   rintro v32 w ⟨t32, m3, gr32, im32, v2, rfl, hz⟩
   have st := st.grown gr32 t32 im32
   have hw := hw.mono gr32.le
   have hl := hl.mono gr32.le
   have ha := ha.mono gr32.le
   refine wl_nil ⟨rfl, ?_⟩
   refine fl_val 10 rfl (fun _ => (v_move' (by conv => (lhs; whnf)))) rfl (by kernel_rfl) ?_
   refine fl_val 11 rfl (fun _ => (v_extract rfl rfl)) rfl (by kernel_rfl) ?_
   refine fl_val 12 rfl (fun _ => (v_extract rfl rfl)) rfl (by kernel_rfl) ?_
   refine fl_eff1 13 [12, 11, 10, 7, 6, 5, 3, 2, 1] [] (by kernel_rfl) trivial rfl ?_
   refine wl_alloc TF.z69 st rfl ?_
   intro b10 w st
   refine wl_nil ⟨rfl, ?_⟩
   refine FL.permB [13, 12, 11, 10, 9, 8, 7, 6, 5, 4, 3, 2, 1, 0] [12, 11, 10, 7, 6, 5, 3, 2, 1] [] (by kernel_rfl) ?_
   exact fin _ _ _ _ _ rfl rfl rfl rfl rfl rfl rfl rfl rfl hz hw hl ha st
  ·refine stepE 13 (pure' := [7, 6, 5, 3, 2, 1]) (lds' := [8, 4, 0]) rfl (by kernel_rfl) (by kernel_rfl) ?_
   refine wl_alloc TF.z69 st rfl ?_
   intro b10 w st
   refine wl_nil ⟨rfl, ?_⟩
   refine fl_eff1 9 [7, 6, 5, 3, 2, 1] [] (by kernel_rfl) ⟨obl_ld rfl rfl rfl (v_load rfl (ha.1.rd0 rfl hi2 (by decide) TF.t45 (v' := .agg (awC A[i].1 A[i].2.1 A[i].2.2).toArray) (getV_all (by exact length_awC ha1)) st.im)), obl_ld rfl rfl rfl (v_load rfl (hl.1.rd0 rfl hi1 (by decide) TF.t71 (v' := .agg (sgC L[i].1.root L[i].2).toArray) (getV_all (by exact length_sgC hs1.1)) st.im)), obl_ld rfl rfl rfl (v_load rfl (by first | exact st.rdp 1 rfl (by exact rfl) TF.t69 (by exact getV_all (by exact Wt.len hw)) | exact st.rdp 2 rfl (by exact rfl) TF.t69 (by exact getV_all (by exact Wt.len hw)))), trivial⟩ rfl ?_
   refine wl_call rfl (c_rstep st.im ⟨_, _, rfl, hw⟩ ⟨_, rfl, (hl.2 _ (List.getElem_mem hi1)).2, hs1.1⟩ ⟨_, _, rfl, ha.2 _ (List.getElem_mem hi2)⟩ (by omega)) rfl ?_
   rintro v32 w ⟨t32, m3, gr32, im32, v2, rfl, hz⟩
   have st := st.grown gr32 t32 im32
   have hw := hw.mono gr32.le
   have hl := hl.mono gr32.le
   have ha := ha.mono gr32.le
   refine wl_nil ⟨rfl, ?_⟩
   refine fl_val 10 rfl (fun _ => (v_move' (by conv => (lhs; whnf)))) rfl (by kernel_rfl) ?_
   refine fl_val 11 rfl (fun _ => (v_extract rfl rfl)) rfl (by kernel_rfl) ?_
   refine fl_val 12 rfl (fun _ => (v_extract rfl rfl)) rfl (by kernel_rfl) ?_
   refine FL.permB [13, 12, 11, 10, 9, 8, 7, 6, 5, 4, 3, 2, 1, 0] [12, 11, 10, 7, 6, 5, 3, 2, 1] [] (by kernel_rfl) ?_
   exact fin _ _ _ _ _ rfl rfl rfl rfl rfl rfl rfl rfl rfl hz hw hl ha st
 ·refine wc_exit (then_exit (then_exit (block_hit ?_)))
  refine then_go ?_
  refine wc_seq ?_
  refine wc_region ?_
  refine wl_val (v_load rfl (by first | exact st.rdp 1 rfl (by exact rfl) TF.t69 (by exact (getV_all (by exact Wt.len (by assumption)))))) rfl ?_
  refine wl_val (v_move' (by conv => (lhs; whnf))) rfl ?_
  refine wl_storeW 0 st rfl TF.t69 rfl rfl (by first | (rw [List.size_toArray]; exact Wt.len (by assumption)) | rfl) (by first | rfl | exact Wt.len (by assumption)) (by first | exact (Wt.one (by assumption)) | exact (Wt.one (Wt.zok (m := fun _ => none)))) ?_
  intro w st
  refine wl_val (v_assign' (by conv => (lhs; whnf))) rfl ?_
  refine wl_val (v_assign' (by conv => (lhs; whnf))) rfl ?_
  refine wl_nil ?_
  refine then_go ?_
  refine wc_ret ?_
  have hdn : ¬ (i < L.length ∧ i < A.length) := by simp at h21; omega
  have e : R = (y, i, 0) := by
   rw [hRx]
   rcases Nat.lt_or_ge i L.length with h | h
   ·rw [List.drop_eq_nil_of_le (show A.length ≤ i by omega), List.map_nil]
    cases (L.drop i).map (·.1) <;> rfl
   ·rw [List.drop_eq_nil_of_le h, List.map_nil]
    cases (A.drop i).map (·.1) <;> rfl
  rw [e]
  exact ret3c rfl (st.reads 0 rfl TF.t69 (getV_all (by first | exact Wt.len (by assumption) | rfl))) rfl rfl ((st.keepOnly (l := []) (List.nil_sublist _)).out ⟨_, rfl, _, _, rfl, hw⟩)
def lightP (a : Aw) : Prop := a.proof.S.length ≤ 300 ∧ a.bind.key.length ≤ 2000 ∧ a.bind.name.length ≤ 2000
theorem c_mfew {vv lv av : Value} {x : Vw} {L : List (Sg × Value)} {A : List AwT} (him : Im m wI) (hv : VwM m vv x) (hl : SgsM m lv L) (ha : AwsM m av A) :
  Ret Try.prog 31 #[vv, lv, av] wI fun v' w' => Tch wI w' [] [] ∧ ∃ b : Bool, v' = .bool b ∧ (b = true → L.length ≤ 20 ∧ A.length ≤ 20 ∧ x.roots.length ≤ 200 ∧ ∀ p ∈ A, lightP p.1) := by
 have st := St.start him
 obtain ⟨rv, rfl, hv⟩ := hv
 have hv : VwOk m x rv := hv
 obtain ⟨la, lc, rfl⟩ := hl.1.sl
 obtain ⟨aa, ac, rfl⟩ := ha.1.sl
 obtain ⟨ra, rc, hra⟩ := hv.1.sl
 subst hra
 refine ret_of Try.call31 Try.func31 rfl Try.ntmps31 Try.results31 rfl ?_
 refine wc_seq ?_
 refine wc_region ?_
 refine wl_box (v := .agg (vwC x.pin x.head (.slice ra x.roots.length rc)).toArray) rfl st rfl ?_
 intro b3 w st
 refine wl_val (v_assign' (by conv => (lhs; whnf))) rfl ?_
 refine wl_nil ?_
 refine then_go ?_
 refine wc_seq ?_
 refine wc_seq ?_
 refine wc_region ?_
 refine wl_val (v_move' (by conv => (lhs; whnf))) rfl ?_
 refine wl_val (v_len_s Try.underlying30 rfl) rfl ?_
 refine wl_val (v_gtr rfl rfl) rfl ?_
 refine wl_val (v_move' (by conv => (lhs; whnf))) rfl ?_
 refine wl_valg rfl rfl (fun e => (v_move' (by conv => (lhs; whnf)))) rfl ?_
 refine wl_valg rfl rfl (fun e => (v_len_s Try.underlying61 (by first | rfl | exact gx e rfl))) rfl ?_
 refine wl_valg rfl rfl (fun e => (v_gtr (by first | rfl | exact gx e rfl) (by first | rfl | exact gx e rfl))) rfl ?_
 refine wl_val (v_pickO rfl rfl rfl) rfl ?_
 refine wl_val (v_move' (by conv => (lhs; whnf))) rfl ?_
 refine wl_valg rfl rfl (fun e => (v_fa TF.f29_2 (by first | rfl | exact gx e rfl))) rfl ?_
 refine wl_valg rfl rfl (fun e => (v_load (by first | rfl | exact gx e rfl) (by first | exact st.rdp 0 rfl (by exact rfl) TF.t27 (by exact (vwR (by assumption)))))) rfl ?_
 refine wl_valg rfl rfl (fun e => (v_len_s Try.underlying27 (by first | rfl | exact gx e rfl))) rfl ?_
 refine wl_valg rfl rfl (fun e => (v_gtr (by first | rfl | exact gx e rfl) (by first | rfl | exact gx e rfl))) rfl ?_
 refine wl_val (v_pickO rfl rfl rfl) rfl ?_
 refine wl_nil ?_
 refine then_go ?_
 refine wc_cond rfl (fun h23 => ?_) (fun h23 => ?_)
 ·refine wc_seq ?_
  refine wc_region ?_
  refine wl_val (v_assign' (by conv => (lhs; whnf))) rfl ?_
  refine wl_nil ?_
  refine then_go ?_
  refine wc_ret (then_ret ?_)
  exact ret1 rfl ⟨(st.keepOnly (l := []) (List.nil_sublist _)).touch, _, rfl, fun h => by cases h⟩
 ·refine wc_skip ?_
  refine then_go ?_
  refine wc_seq ?_
  simp at h23
  refine wc_region ?_
  refine wl_val (v_assign' (by conv => (lhs; whnf))) rfl ?_
  refine wl_nil ?_
  refine then_go ?_
  refine wc_seq ?_
  refine wc_seq ?_
  refine wc_region ?_
  refine wl_val (v_assign' (by conv => (lhs; whnf))) rfl ?_
  refine wl_nil ?_
  refine then_go ?_
  refine wc_block ?_
  refine wc_loop (S := Nat) (fun q r w' => ∃ (i : Nat) (z : Int), q + i = L.length ∧ r 1 = .slice la L.length lc ∧ r 2 = .slice aa A.length ac ∧ r 7 = .int .i64 z ∧ r 8 = .int .i64 i ∧ St m m [] wI w' [K.blk b3 (vwC x.pin x.head (.slice ra x.roots.length rc)).toArray 29]) id L.length ⟨0, 0, by omega, rfl, rfl, rfl, rfl, st⟩ ?_
  rintro q r w2 ⟨i, z, hqi, g1, g2, g7, g8, st⟩
  refine wc_o 1 g1 (wc_o 2 g2 (wc_o 7 g7 (wc_o 8 g8 ?_)))
  refine wc_seq ?_
  refine wc_seq ?_
  refine wc_region ?_
  refine wl_val (v_move' (by conv => (lhs; whnf))) rfl ?_
  refine wl_val (v_move' (by conv => (lhs; whnf))) rfl ?_
  refine wl_val (v_len_s Try.underlying30 rfl) rfl ?_
  refine wl_val (v_lss rfl rfl) rfl ?_
  refine wl_val (v_move' (by conv => (lhs; whnf))) rfl ?_
  refine wl_valg rfl rfl (fun e => (v_move' (by conv => (lhs; whnf)))) rfl ?_
  refine wl_valg rfl rfl (fun e => (v_leq (by first | rfl | exact gx e rfl) (by first | rfl | exact gx e rfl))) rfl ?_
  refine wl_val (v_pickA rfl rfl rfl) rfl ?_
  refine wl_nil ?_
  refine then_go ?_
  refine wc_cond rfl (fun h31 => ?_) (fun h31 => ?_)
  ·refine wc_skip ?_
   refine then_go ?_
   refine wc_seq ?_
   refine wc_block ?_
   have hi : i < L.length := by simp at h31; omega
   obtain ⟨ba, oa, hba⟩ := hl.1.ptr (by omega) (by decide)
   subst hba
   obtain ⟨hr0, hs0⟩ := hl.2 _ (List.getElem_mem hi)
   obtain ⟨_, sa, sc, hsv, _⟩ := hs0
   refine wc_region ?_
   refine wl_val (v_move' (by conv => (lhs; whnf))) rfl ?_
   refine wl_val (v_move' (by conv => (lhs; whnf))) rfl ?_
   refine wl_val (v_move' (by conv => (lhs; whnf))) rfl ?_
   refine wl_val (v_ias i Try.underlying30 TF.t71 rfl rfl (by first | rfl | omega) (by first | omega | (dsimp only at *; omega))) rfl ?_
   refine wl_val (v_fa TF.f71_1 rfl) rfl ?_
   refine wl_val (v_load rfl (hl.1.rd rfl hi (by decide) TF.t41 (v' := .slice sa L[i].1.sig.length sc) (by rw [← hsv]; exact sg_s hr0) st.im)) rfl ?_
   refine wl_val (v_len_s Try.underlying41 rfl) rfl ?_
   refine wl_val (v_add rfl rfl) rfl ?_
   refine wl_val (v_assign' (by conv => (lhs; whnf))) rfl ?_
   refine wl_nil ?_
   refine block_go (then_go ?_)
   refine wc_region ?_
   refine wl_val (v_move' (by conv => (lhs; whnf))) rfl ?_
   refine wl_val (v_add' rfl rfl rfl (by first | omega | (dsimp only at *; omega)) (by first | omega | (dsimp only at *; omega))) rfl ?_
   refine wl_val (v_assign' (by conv => (lhs; whnf))) rfl ?_
   refine wl_nil ?_
   refine then_go ?_
   exact ⟨q - 1, by simp; omega, i + 1, _, by omega, rfl, rfl, rfl, rfl, st⟩
  ·refine wc_exit (then_exit (then_exit (block_hit ?_)))
   refine then_go ?_
   refine wc_seq ?_
   refine wc_seq ?_
   refine wc_region ?_
   refine wl_val (v_assign' (by conv => (lhs; whnf))) rfl ?_
   refine wl_nil ?_
   refine then_go ?_
   refine wc_block ?_
   refine wc_loop (S := Nat) (fun q r w' => ∃ (i : Nat) (z : Int), q + i = A.length ∧ r 2 = .slice aa A.length ac ∧ r 7 = .int .i64 z ∧ r 9 = .int .i64 i ∧ (∀ p ∈ A.take i, lightP p.1) ∧ St m m [] wI w' [K.blk b3 (vwC x.pin x.head (.slice ra x.roots.length rc)).toArray 29]) id A.length ⟨0, z, by omega, rfl, rfl, rfl, by simp, st⟩ ?_
   clear st
   rintro q r w2 ⟨i, z, hqi, g2, g7, g9, hlt, st⟩
   refine wc_o 2 g2 (wc_o 7 g7 (wc_o 9 g9 ?_))
   refine wc_seq ?_
   refine wc_seq ?_
   refine wc_region ?_
   refine wl_val (v_move' (by conv => (lhs; whnf))) rfl ?_
   refine wl_val (v_move' (by conv => (lhs; whnf))) rfl ?_
   refine wl_val (v_len_s Try.underlying61 rfl) rfl ?_
   refine wl_val (v_lss rfl rfl) rfl ?_
   refine wl_nil ?_
   refine then_go ?_
   refine wc_if rfl (fun h45 => ?_) (fun h45 => ?_)
   ·refine wc_skip ?_
    refine then_go ?_
    refine wc_seq ?_
    refine wc_block ?_
    refine wc_seq ?_
    have hi : i < A.length := by omega
    obtain ⟨ab, ao, haa⟩ := ha.1.ptr (by omega) (by decide)
    subst haa
    have ha1 := ha.2 _ (List.getElem_mem hi)
    obtain ⟨sa, sc, hsv⟩ := ha1.sibs.sl
    obtain ⟨_, ka, kc, hkv, _⟩ := id ha1.key
    refine wc_region ?_
    refine wl_val (v_move' (by conv => (lhs; whnf))) rfl ?_
    refine wl_val (v_move' (by conv => (lhs; whnf))) rfl ?_
    refine wl_val (v_ias i Try.underlying61 TF.t45 rfl rfl (by first | rfl | omega) (by first | omega | (dsimp only at *; omega))) rfl ?_
    refine wl_val (v_fa TF.f45_2 rfl) rfl ?_
    refine wl_val (v_fa TF.f40_0 rfl) rfl ?_
    refine wl_val (v_load rfl (ha.1.rd rfl hi (by decide) TF.t38 (v' := .slice sa A[i].1.proof.S.length sc) (by rw [← hsv]; exact aw_ps ha1) st.im)) rfl ?_
    refine wl_val (v_len_s Try.underlying38 rfl) rfl ?_
    refine wl_val (v_gtr rfl rfl) rfl ?_
    refine wl_val (v_move' (by conv => (lhs; whnf))) rfl ?_
    refine wl_valg rfl rfl (fun e => (v_move' (by conv => (lhs; whnf)))) rfl ?_
    refine wl_valg rfl rfl (fun e => (v_move' (by conv => (lhs; whnf)))) rfl ?_
    refine wl_valg rfl rfl (fun e => (v_ias i Try.underlying61 TF.t45 (by first | rfl | exact gx e rfl) (by first | rfl | exact gx e rfl) (by first | rfl | omega) (by first | omega | (dsimp only at *; omega)))) rfl ?_
    refine wl_valg rfl rfl (fun e => (v_fa TF.f45_5 (by first | rfl | exact gx e rfl))) rfl ?_
    refine wl_valg rfl rfl (fun e => (v_fa TF.f43_1 (by first | rfl | exact gx e rfl))) rfl ?_
    refine wl_valg rfl rfl (fun e => (v_load (by first | rfl | exact gx e rfl) (ha.1.rd (by first | rfl | exact gx e rfl) hi (by decide) TF.t41 (v' := .slice ka A[i].1.bind.key.length kc) (by rw [← hkv]; exact aw_bk ha1) st.im))) rfl ?_
    refine wl_valg rfl rfl (fun e => (v_len_s Try.underlying41 (by first | rfl | exact gx e rfl))) rfl ?_
    refine wl_valg rfl rfl (fun e => (v_gtr (by first | rfl | exact gx e rfl) (by first | rfl | exact gx e rfl))) rfl ?_
    refine wl_val (v_pickO rfl rfl rfl) rfl ?_
    refine wl_val (v_move' (by conv => (lhs; whnf))) rfl ?_
    refine wl_valg rfl rfl (fun e => (v_move' (by conv => (lhs; whnf)))) rfl ?_
    refine wl_valg rfl rfl (fun e => (v_move' (by conv => (lhs; whnf)))) rfl ?_
    refine wl_valg rfl rfl (fun e => (v_ias i Try.underlying61 TF.t45 (by first | rfl | exact gx e rfl) (by first | rfl | exact gx e rfl) (by first | rfl | omega) (by first | omega | (dsimp only at *; omega)))) rfl ?_
    refine wl_valg rfl rfl (fun e => (v_fa TF.f45_5 (by first | rfl | exact gx e rfl))) rfl ?_
    refine wl_valg rfl rfl (fun e => (v_fa TF.f43_0 (by first | rfl | exact gx e rfl))) rfl ?_
    refine wl_valg rfl rfl (fun e => (v_load (by first | rfl | exact gx e rfl) (ha.1.rd (by first | rfl | exact gx e rfl) hi (by decide) TF.t9 (v' := .string (strB A[i].1.bind.name)) (aw_bn ha1) st.im))) rfl ?_
    refine wl_valg rfl rfl (fun e => (v_len_str Try.underlying9 (by first | rfl | exact gx e rfl))) rfl ?_
    refine wl_valg rfl rfl (fun e => (v_gtr (by first | rfl | exact gx e rfl) (by first | rfl | exact gx e rfl))) rfl ?_
    refine wl_val (v_pickO rfl rfl rfl) rfl ?_
    refine wl_nil ?_
    refine then_go ?_
    refine wc_cond rfl (fun h75 => ?_) (fun h75 => ?_)
    ·refine wc_seq ?_
     refine wc_region ?_
     refine wl_val (v_assign' (by conv => (lhs; whnf))) rfl ?_
     refine wl_nil ?_
     refine then_go ?_
     refine wc_ret (block_ret (then_ret (then_ret (block_ret (then_ret ?_)))))
     exact ret1 rfl ⟨(st.keepOnly (l := []) (List.nil_sublist _)).touch, _, rfl, fun h => by cases h⟩
    ·refine wc_skip ?_
     refine block_go (then_go ?_)
     refine wc_region ?_
     refine wl_val (v_move' (by conv => (lhs; whnf))) rfl ?_
     refine wl_val (v_add' rfl rfl rfl (by first | omega | (dsimp only at *; omega)) (by first | omega | (dsimp only at *; omega))) rfl ?_
     refine wl_val (v_assign' (by conv => (lhs; whnf))) rfl ?_
     refine wl_nil ?_
     refine then_go ?_
     refine ⟨q - 1, by simp; omega, i + 1, z, by omega, rfl, rfl, rfl, fun p hp => ?_, st⟩
     rw [List.take_succ_eq_append_getElem hi] at hp
     rcases List.mem_append.1 hp with h | h
     ·exact hlt p h
     ·rw [List.mem_singleton.1 h]
      simp only [Bool.or_eq_false_iff, decide_eq_false_iff_not, strB_size] at h75
      have h76 := of_decide_eq_false h75.2
      exact ⟨by omega, by omega, by omega⟩
   ·refine wc_exit (then_exit (then_exit (block_hit ?_)))
    refine then_go ?_
    refine wc_seq ?_
    refine wc_region ?_
    refine wl_val (v_move' (by conv => (lhs; whnf))) rfl ?_
    refine wl_val (v_leq rfl rfl) rfl ?_
    refine wl_val (v_assign' (by conv => (lhs; whnf))) rfl ?_
    refine wl_nil ?_
    refine then_go ?_
    refine wc_ret ?_
    exact ret1 rfl ⟨(st.keepOnly (l := []) (List.nil_sublist _)).touch, _, rfl, fun _ => ⟨by omega, by omega, by omega, fun p hp => hlt p (by rw [List.take_of_length_le (by omega)]; exact hp)⟩⟩
def Ann : By := [65, 110, 110]
def rt3 : Rt := ⟨2, z32, z32, z32⟩
theorem rt3_ok : rt3.ok := ⟨rfl, rfl, rfl⟩
theorem fill_rt3 : FillR (#[(0, 1), (1, 32), (33, 32), (65, 32)][·]?) (Value.agg ([Value.int .u64 0] ++ List.replicate 32 (Value.int .u8 0) ++ List.replicate 32 (Value.int .u8 0) ++ List.replicate 32 (Value.int .u8 0)).toArray).cells [(0, u64 2)] (rtC rt3).toArray := by
 refine fill_one [] [u64 0] (bs z32 ++ (bs z32 ++ bs z32)) rfl rfl rfl ?_
 rfl
theorem fill_sg3 : FillR (#[(0, 97), (97, 1)][·]?) (Value.agg ([Value.int .u64 0] ++ List.replicate 32 (Value.int .u8 0) ++ List.replicate 32 (Value.int .u8 0) ++ List.replicate 32 (Value.int .u8 0) ++ [Value.slice none 0 0]).toArray).cells [(0, rtV rt3)] (sgC rt3 (.slice none 0 0)).toArray := by
 refine fill_one [] ([Value.int .u64 0] ++ List.replicate 32 (Value.int .u8 0) ++ List.replicate 32 (Value.int .u8 0) ++ List.replicate 32 (Value.int .u8 0)) [.slice none 0 0] rfl rfl rfl ?_
 rfl
theorem newW_ann : newW pin1 ann = (⟨newV pin1, ann, z32, fd0⟩, 0) := by rw [newW, if_pos okName_ann]
theorem newW_Ann : newW pin1 Ann = (Wt.zero, 4) := by rw [newW, if_neg (by decide)]
theorem step_ann {a : Aw} : stpE ⟨newV pin1, ann, z32, fd0⟩ ⟨rt3, []⟩ a = 10 := step_10 (by decide)
theorem exp_ann : expE ⟨newV pin1, ann, z32, fd0⟩ [] = 7 := by unfold expE; exact if_pos rfl
theorem c_mworks (him : Im m wI) : Ret Try.prog 32 #[] wI fun v' w' => Tch wI w' [] [] ∧ v' = .bool true := by
 have st := St.start him
 have q1 := newW_ann
 have q2 := newW_Ann
 have q3 := step_ann (a := aw0)
 have q4 := exp_ann
 have hpl : pin1.length = 32 := rfl
 refine ret_of Try.call32 Try.func32 rfl Try.ntmps32 Try.results32 rfl ?_
 refine wc_seq ?_
 refine wc_region ?_
 refine wl_val (v_assign' (by conv => (lhs; whnf))) rfl ?_
 refine wl_nil ?_
 refine then_go ?_
 refine wc_seq ?_
 refine wc_region ?_
 refine wl_val (v_pin1 rfl) rfl ?_
 refine wl_call rfl (c_mnew (name := ann) st.im hpl (by decide)) rfl ?_
 rintro v9 w ⟨t9, mm9, gr9, im9, v1, rfl, hz1⟩
 have st := st.grown gr9 t9 im9
 rw [q1] at hz1 ⊢
 obtain ⟨rv1, kw1, rfl, hz1⟩ := hz1
 refine wl_val (v_move' (by conv => (lhs; whnf))) rfl ?_
 refine wl_val (v_extract rfl rfl) rfl ?_
 refine wl_val (v_extract rfl rfl) rfl ?_
 refine wl_alloc TF.z69 st rfl ?_
 intro b1 w st
 refine wl_storeW 0 st rfl TF.t69 rfl rfl (by first | (rw [List.size_toArray]; exact Wt.len (by assumption)) | rfl) (by first | rfl | exact Wt.len (by assumption)) (by first | exact (Wt.one (by assumption)) | exact (Wt.one (Wt.zok (m := fun _ => none)))) ?_
 intro w st
 refine wl_val (v_assign' (by conv => (lhs; whnf))) rfl ?_
 refine wl_nil ?_
 refine then_go ?_
 refine wc_seq ?_
 refine wc_region ?_
 refine wl_val (v_pin1 rfl) rfl ?_
 refine wl_call rfl (c_mnew (name := Ann) st.im hpl (by decide)) rfl ?_
 rintro v14 w ⟨t14, mm14, gr14, im14, v2, rfl, hz2⟩
 have st := st.grown gr14 t14 im14
 have hz1 := hz1.mono gr14.le
 rw [q2] at hz2 ⊢
 obtain ⟨rv2, kw2, rfl, hz2⟩ := hz2
 refine wl_val (v_move' (by conv => (lhs; whnf))) rfl ?_
 refine wl_val (v_extract rfl rfl) rfl ?_
 refine wl_val (v_extract rfl rfl) rfl ?_
 refine wl_alloc TF.z69 st rfl ?_
 intro b3 w st
 refine wl_storeW 0 st rfl TF.t69 rfl rfl (by first | (rw [List.size_toArray]; exact Wt.len (by assumption)) | rfl) (by first | rfl | exact Wt.len (by assumption)) (by first | exact (Wt.one (by assumption)) | exact (Wt.one (Wt.zok (m := fun _ => none)))) ?_
 intro w st
 refine wl_val (v_assign' (by conv => (lhs; whnf))) rfl ?_
 refine wl_nil ?_
 refine then_go ?_
 refine wc_seq ?_
 refine wc_region ?_
 refine wl_val (v_load rfl (by first | exact st.rdp 1 rfl (by exact rfl) TF.t69 (by exact (getV_all (by exact Wt.len (by assumption)))))) rfl ?_
 refine wl_val (v_build (c' := (rtC rt3).toArray) [(0, u64 2)] TF.z55 TF.p55 rfl fill_rt3) rfl ?_
 refine wl_val (v_build (c' := (sgC rt3 (.slice none 0 0)).toArray) [(0, rtV rt3)] TF.z71 TF.p71 rfl fill_sg3) rfl ?_
 refine wl_val (v_build (c' := (awC aw0 (.slice none 0 0) (.slice none 0 0)).toArray) [] TF.z45 TF.p45 rfl rfl) rfl ?_
 refine wl_call rfl (c_step (s := ⟨rt3, []⟩) (a := aw0) st.im ⟨_, _, rfl, hz1⟩ ⟨_, rfl, SlM.nil, rt3_ok⟩ ⟨_, _, rfl, aw0_ok⟩ (by decide) (by decide)) rfl ?_
 rintro v22 w ⟨t22, mm22, gr22, im22, v3, rfl, hz3⟩
 have st := st.grown gr22 t22 im22
 have hz1 := hz1.mono gr22.le
 have hz2 := hz2.mono gr22.le
 obtain ⟨rv3, kw3, rfl, hz3⟩ := hz3
 refine wl_val (v_move' (by conv => (lhs; whnf))) rfl ?_
 refine wl_val (v_extract rfl rfl) rfl ?_
 refine wl_val (v_extract rfl rfl) rfl ?_
 refine wl_alloc TF.z69 st rfl ?_
 intro b5 w st
 refine wl_storeW 0 st rfl TF.t69 rfl rfl (by first | (rw [List.size_toArray]; exact Wt.len (by assumption)) | rfl) (by first | rfl | exact Wt.len (by assumption)) (by first | exact (Wt.one (by assumption)) | exact (Wt.one (Wt.zok (m := fun _ => none)))) ?_
 intro w st
 refine wl_val (v_assign' (by conv => (lhs; whnf))) rfl ?_
 refine wl_nil ?_
 refine then_go ?_
 refine wc_seq ?_
 refine wc_region ?_
 refine wl_val (v_move' (by conv => (lhs; whnf))) rfl ?_
 refine wl_val (v_eqlT (a := 0) (b := 0) rfl rfl rfl) rfl ?_
 refine wl_val (v_move' (by conv => (lhs; whnf))) rfl ?_
 refine wl_on rfl rfl ?_
 refine wl_val (v_fa TF.f69_1 rfl) rfl ?_
 refine wl_on rfl rfl ?_
 refine wl_val (v_load rfl (by first | exact st.rdp 2 rfl (by exact rfl) TF.t9 (by exact (Wt.g98_1 (by assumption))))) rfl ?_
 refine wl_on rfl rfl ?_
 refine wl_val (v_to (v' := .bool true) (v_eqs (a := ann) (b := ann) rfl rfl) (congrArg Value.bool (decide_eq_true rfl))) rfl ?_
 refine wl_val (v_pick rfl) rfl ?_
 refine wl_val (v_move' (by conv => (lhs; whnf))) rfl ?_
 refine wl_on rfl rfl ?_
 refine wl_val (v_fa TF.f69_0 rfl) rfl ?_
 refine wl_on rfl rfl ?_
 refine wl_val (v_fa TF.f29_0 rfl) rfl ?_
 refine wl_on rfl rfl ?_
 refine wl_val (v_load rfl (by first | exact st.rdp 2 rfl (by exact rfl) TF.t23 (by exact (Wt.g0_32 (by assumption))))) rfl ?_
 refine wl_on rfl rfl ?_
 refine wl_val (v_pin1 rfl) rfl ?_
 refine wl_on rfl rfl ?_
 refine wl_val (v_eqDT rfl rfl hpl) rfl ?_
 refine wl_val (v_pick rfl) rfl ?_
 refine wl_val (v_move' (by conv => (lhs; whnf))) rfl ?_
 refine wl_on rfl rfl ?_
 refine wl_val (v_move' (by conv => (lhs; whnf))) rfl ?_
 refine wl_on rfl rfl ?_
 refine wl_val (v_eqlT (a := 4) (b := 4) rfl rfl rfl) rfl ?_
 refine wl_val (v_pick rfl) rfl ?_
 refine wl_val (v_move' (by conv => (lhs; whnf))) rfl ?_
 refine wl_on rfl rfl ?_
 refine wl_val (v_move' (by conv => (lhs; whnf))) rfl ?_
 refine wl_on rfl rfl ?_
 refine wl_val (v_eqlT q3 rfl rfl) rfl ?_
 refine wl_val (v_pick rfl) rfl ?_
 refine wl_val (v_move' (by conv => (lhs; whnf))) rfl ?_
 refine wl_on rfl rfl ?_
 refine wl_val (v_load rfl (by first | exact st.rdp 2 rfl (by exact rfl) TF.t69 (by exact (getV_all (by exact Wt.len (by assumption)))))) rfl ?_
 refine wl_on rfl rfl ?_
 refine wl_call rfl (c_expect (key := []) st.im ⟨_, _, rfl, hz1⟩ SlM.nil) rfl ?_
 rintro v49 w ⟨t49, rfl⟩
 have st := st.pure t49
 refine wl_on rfl rfl ?_
 refine wl_val (v_eqlT q4 rfl rfl) rfl ?_
 refine wl_val (v_pick rfl) rfl ?_
 refine wl_val (v_assign' (by conv => (lhs; whnf))) rfl ?_
 refine wl_nil ?_
 refine then_go ?_
 refine wc_ret ?_
 exact ret1 rfl ⟨(st.keepOnly (l := []) (List.nil_sublist _)).touch, rfl⟩
end
end Go.Proofs.Ytjjpakjgppmmdaa
