/-
  Several texts as one: Qk Ca Vo Cd Cb Cc Cf Cg.
-/
import Derived.OpenShut
import Derived.WideShapes
import Derived.ChangeShapes
import Derived.Test.YtjjpakjgppmmdaaMk5

/-
  The reference's Ask.
-/
namespace Go.Proofs.Ytjjpakjgppmmdaa
open Go Go.RowKit K SH PT

theorem bd0_of {b : Bd} (h1 : b.name = []) (h2 : b.key.length = 0) (h3 : b.serial = 0) : b = bd0 := by
  obtain ⟨n, k, s⟩ := b
  simp at h1 h2 h3
  subst h1; subst h2; subst h3
  rfl

section
variable {m : Mem} {wI : World}

theorem c_rask {vv av : Value} {x : Vw} {name : By} {e : UInt64} {a : Aw} (him : Im m wI) (hv : VwM m vv x) (hn : name.length ≤ 9223372036854775807) (ha : AwM m av a) (hL : x.roots.length ≤ 1099511627776) :
    Ret Try.prog 21 #[vv, .string (strB name), u64 e, av] wI fun v' w' => Out m wI w' fun m' => ∃ fv, v' = .tuple #[fv, .int .i64 (askE x name e a)] ∧ FdM m' fv (askF x name e a) := by
  have st := St.start him
  have ha0 := ha
  obtain ⟨rv, rfl, hrt, hp, hh, hokx⟩ := hv
  obtain ⟨sv, kv, rfl, hok⟩ := ha
  obtain ⟨ra, rc, rfl⟩ := hrt.sl
  obtain ⟨_, ka, kc, hkv, _⟩ := id hok.key
  subst hkv
  have elt := e.toNat_lt
  refine ret_of Try.call21 Try.func21 rfl Try.ntmps21 Try.results21 rfl ?_
  refine wc_seq ?_
  refine wc_region ?_
  refine wl_box (v := .agg (vwC x.pin x.head (.slice ra x.roots.length rc)).toArray) rfl st rfl ?_
  intro b4 w st
  refine wl_box (v := .agg (awC a sv (.slice ka a.bind.key.length kc)).toArray) rfl st rfl ?_
  intro b7 w st
  refine wl_alloc TF.z48 st rfl ?_
  intro b8 w st
  have st : St m m [] wI w [K.blk b8 (fdC fd0 (.slice none 0 0)).toArray 48, K.blk b7 (awC a sv (.slice ka a.bind.key.length kc)).toArray 45, K.blk b4 (vwC x.pin x.head (.slice ra x.roots.length rc)).toArray 29] := st
  refine wl_val (v_assign' (by conv => (lhs; whnf))) rfl ?_
  refine wl_nil ?_
  refine then_go ?_
  refine wc_seq ?_
  refine wc_seq ?_
  refine wc_region ?_
  refine wl_val (v_move' (by conv => (lhs; whnf))) rfl ?_
  refine wl_call rfl (c_r5name st.im hn) rfl ?_
  rintro v15 w ⟨t15, rfl⟩
  have st := st.pure t15
  refine wl_val (v_not rfl) rfl ?_
  refine wl_nil ?_
  refine then_go ?_
  refine wc_cond rfl (fun h16 => ?_) (fun h16 => ?_)
  · refine wc_seq ?_
    refine wc_region ?_
    refine wl_val (v_build (c' := (fdC fd0 (.slice none 0 0)).toArray) [] TF.z48 TF.p48 rfl rfl) rfl ?_
    refine wl_storeW (cs := (fdC fd0 (.slice none 0 0)).toArray) 0 st rfl TF.t48 rfl rfl rfl rfl (one_fdC rfl) ?_
    intro w st
    refine wl_val (v_assign' (by conv => (lhs; whnf))) rfl ?_
    refine wl_nil ?_
    refine then_go ?_
    refine wc_ret (then_ret ?_)
    have hno : ¬ okName name := by simpa using h16
    obtain ⟨q1, q2⟩ := ask_4 (x := x) (e := e) (a := a) hno
    exact ret2c rfl (st.reads 0 rfl TF.t48 (getV_all rfl)) rfl ((st.keepOnly (l := []) (List.nil_sublist _)).out ⟨_, by rw [q1]; rfl, by rw [q2]; exact fd0_M⟩)
  · refine wc_skip ?_
    refine then_go ?_
    refine wc_seq ?_
    refine wc_seq ?_
    have hyes : okName name := by simpa using h16
    refine wc_region ?_
    refine wl_val (v_move' (by conv => (lhs; whnf))) rfl ?_
    refine wl_val (v_lss rfl rfl) rfl ?_
    refine wl_val (v_move' (by conv => (lhs; whnf))) rfl ?_
    by_cases hg2 : (e.toNat : Int) < 1
    · rw [show decide ((e.toNat : Int) < 1) = true from decide_eq_true hg2]
      refine wl_off rfl rfl rfl rfl ?_
      refine wl_off rfl rfl rfl rfl ?_
      refine wl_off rfl rfl rfl rfl ?_
      refine wl_off rfl rfl rfl rfl ?_
      refine wl_off rfl rfl rfl rfl ?_
      refine wl_off rfl rfl rfl rfl ?_
      refine wl_val (v_pick rfl) rfl ?_
      refine wl_nil ?_
      refine then_go ?_
      refine wc_true rfl ?_
      refine wc_seq ?_
      refine wc_region ?_
      refine wl_val (v_build (c' := (fdC fd0 (.slice none 0 0)).toArray) [] TF.z48 TF.p48 rfl rfl) rfl ?_
      refine wl_storeW (cs := (fdC fd0 (.slice none 0 0)).toArray) 0 st rfl TF.t48 rfl rfl rfl rfl (one_fdC rfl) ?_
      intro w st
      refine wl_val (v_assign' (by conv => (lhs; whnf))) rfl ?_
      refine wl_nil ?_
      refine then_go ?_
      refine wc_ret (then_ret ?_)
      obtain ⟨q1, q2⟩ := ask_10 (x := x) (e := e) (a := a) hyes (fun hc => by have := hc.1; omega)
      exact ret2c rfl (st.reads 0 rfl TF.t48 (getV_all rfl)) rfl ((st.keepOnly (l := []) (List.nil_sublist _)).out ⟨_, by rw [q1]; rfl, by rw [q2]; exact fd0_M⟩)
    · rw [show decide ((e.toNat : Int) < 1) = false from decide_eq_false hg2]
      refine wl_on rfl rfl ?_
      refine wl_val (v_move' (by conv => (lhs; whnf))) rfl ?_
      refine wl_on rfl rfl ?_
      refine wl_val (v_fa TF.f29_2 rfl) rfl ?_
      refine wl_on rfl rfl ?_
      refine wl_val (v_load rfl (st.reads (v := .slice ra x.roots.length rc) 2 rfl TF.t27 (vw_r hp hh))) rfl ?_
      refine wl_on rfl rfl ?_
      refine wl_val (v_len_s Try.underlying27 rfl) rfl ?_
      refine wl_on rfl rfl ?_
      refine wl_val (v_to (v' := .int .u64 (x.roots.length : Nat)) (v_conv Try.underlying3 Try.underlying24 rfl) (by rw [wrap_u64_small (by omega)])) rfl ?_
      refine wl_on rfl rfl ?_
      refine wl_val (v_gtr rfl rfl) rfl ?_
      refine wl_val (v_pick rfl) rfl ?_
      refine wl_nil ?_
      refine then_go ?_
      refine wc_if rfl (fun h27 => ?_) (fun h27 => ?_)
      · refine wc_seq ?_
        refine wc_region ?_
        refine wl_val (v_build (c' := (fdC fd0 (.slice none 0 0)).toArray) [] TF.z48 TF.p48 rfl rfl) rfl ?_
        refine wl_storeW (cs := (fdC fd0 (.slice none 0 0)).toArray) 0 st rfl TF.t48 rfl rfl rfl rfl (one_fdC rfl) ?_
        intro w st
        refine wl_val (v_assign' (by conv => (lhs; whnf))) rfl ?_
        refine wl_nil ?_
        refine then_go ?_
        refine wc_ret (then_ret ?_)
        obtain ⟨q1, q2⟩ := ask_10 (x := x) (e := e) (a := a) hyes (fun hc => by have := hc.2; omega)
        exact ret2c rfl (st.reads 0 rfl TF.t48 (getV_all rfl)) rfl ((st.keepOnly (l := []) (List.nil_sublist _)).out ⟨_, by rw [q1]; rfl, by rw [q2]; exact fd0_M⟩)
      · refine wc_skip ?_
        refine then_go ?_
        refine wc_seq ?_
        have hep : epochP x e := ⟨by omega, by omega⟩
        have hj : e.toNat - 1 < x.roots.length := by have := hep.1; have := hep.2; omega
        obtain ⟨rb, ro, hra⟩ := hrt.ptr (by omega) (by decide)
        subst hra
        have hok1 := hokx _ (List.getElem_mem hj)
        have hroot : rootAt x e = x.roots[e.toNat - 1].tree := by rw [rootAt, List.getElem?_eq_getElem hj]
        have hrl : (rootAt x e).length = 32 := by rw [hroot]; exact hok1.2.1
        refine wc_draw TF.mixed ?_
        have st := st.pure (touch_drew _)
        show FL _ _ ?ops5 ?post5 [] [] [] _ _
        have fin : ∀ (r : Fr) (w : World) (m2 : Mem) (b10 : Nat), r 1 = .string (strB name) → r 2 = u64 e → r 4 = .pointer (some ⟨b4, 0, none⟩) → r 7 = .pointer (some ⟨b7, 0, none⟩) → r 8 = .pointer (some ⟨b8, 0, none⟩) → r 10 = .pointer (some ⟨b10, 0, none⟩) → r 30 = .pointer (some ⟨b4, 0 + 97, none⟩) → r 31 = .slice (some ⟨rb, ro, none⟩) x.roots.length rc → r 42 = arr (chkV (rootAt x e) a.index a.proof) → r 43 = .bool (decide (chkT (rootAt x e) a.index a.proof)) → r 44 = .int .i64 (chkE (rootAt x e) a.index a.proof) → AwOk m2 a sv (.slice ka a.bind.key.length kc) →
          St m m2 [] wI w [K.blk b10 (bs z32).toArray 23, K.blk b8 (fdC fd0 (.slice none 0 0)).toArray 48, K.blk b7 (awC a sv (.slice ka a.bind.key.length kc)).toArray 45, K.blk b4 (vwC x.pin x.head (.slice (some ⟨rb, ro, none⟩) x.roots.length rc)).toArray 29] → FL Try.prog 105 ?ops5 ?post5 [16, 15, 14, 13, 12, 11, 10, 9, 8, 7, 6, 5, 4, 3, 2, 1, 0] [15, 14, 13, 12, 9, 7, 5, 4, 3, 2, 0] [1] r w := by
          clear st
          rintro r w m2 b10 g1 g2 g4 g7 g8 g10 g34 g35 g46 g47 g48 hok st
          have hbd : BdM m2 (.agg (bdC a.bind (.slice ka a.bind.key.length kc)).toArray) a.bind := ⟨_, rfl, hok.key, hok.name⟩
          refine fl_o 1 g1 (fl_o 2 g2 (fl_o 4 g4 (fl_o 7 g7 (fl_o 8 g8 (fl_o 10 g10 (fl_o 30 g34 (fl_o 31 g35 (fl_o 42 g46 (fl_o 43 g47 (fl_o 44 g48 ?_))))))))))
          refine fl_eff1 17 [15, 14] [] (by kernel_rfl) ⟨obl_ld rfl rfl rfl (v_load rfl (by first | exact st.reads (v := .slice (some ⟨rb, ro, none⟩) x.roots.length rc) (b := b4) (c := (vwC x.pin x.head (.slice (some ⟨rb, ro, none⟩) x.roots.length rc)).toArray) 2 rfl TF.t27 (vw_r hp hh) | exact st.reads (v := .slice (some ⟨rb, ro, none⟩) x.roots.length rc) (b := b4) (c := (vwC x.pin x.head (.slice (some ⟨rb, ro, none⟩) x.roots.length rc)).toArray) 3 rfl TF.t27 (vw_r hp hh))), trivial⟩ rfl ?_
          refine wl_storeW (cs := (bs (chkV (rootAt x e) a.index a.proof)).toArray) 0 st rfl TF.t23 rfl rfl (by rw [List.size_toArray, length_bs, chkV_len hok.pV]) rfl (fun u hu => one_bs _ u (by simpa using hu)) ?_
          intro w st
          refine wl_nil ⟨rfl, ?_⟩
          refine fl_eff1 18 [15] [] (by kernel_rfl) trivial rfl ?_
          refine wl_val (v_assign' (by conv => (lhs; whnf))) rfl ?_
          refine wl_nil ⟨rfl, ?_⟩
          refine fl_eff1 19 [] [] (by kernel_rfl) trivial rfl ?_
          refine wl_val (v_assign' (by conv => (lhs; whnf))) rfl ?_
          refine wl_nil ⟨rfl, ?_⟩
          refine fl_nil (by kernel_rfl) trivial ?_
          refine then_go ?_
          refine wc_seq ?_
          refine wc_seq ?_
          by_cases hT : chkT (rootAt x e) a.index a.proof
          · rw [show decide (chkT (rootAt x e) a.index a.proof) = true from decide_eq_true hT]
            refine wc_region ?_
            refine wl_val (v_move' (by conv => (lhs; whnf))) rfl ?_
            refine wl_val (v_neq rfl rfl) rfl ?_
            refine wl_val (v_move' (by conv => (lhs; whnf))) rfl ?_
            by_cases hg2 : ¬ chkE (rootAt x e) a.index a.proof = 0
            · rw [show decide (¬ chkE (rootAt x e) a.index a.proof = 0) = true from decide_eq_true hg2]
              refine wl_off rfl rfl rfl rfl ?_
              refine wl_off rfl rfl rfl rfl ?_
              refine wl_off rfl rfl rfl rfl ?_
              refine wl_off rfl rfl rfl rfl ?_
              refine wl_val (v_pick rfl) rfl ?_
              refine wl_val (v_move' (by conv => (lhs; whnf))) rfl ?_
              refine wl_off rfl rfl rfl rfl ?_
              refine wl_off rfl rfl rfl rfl ?_
              refine wl_off rfl rfl rfl rfl ?_
              refine wl_off rfl rfl rfl rfl ?_
              refine wl_val (v_pick rfl) rfl ?_
              refine wl_nil ?_
              refine then_go ?_
              refine wc_true rfl ?_
              refine wc_seq ?_
              refine wc_region ?_
              refine wl_val (v_build (c' := (fdC fd0 (.slice none 0 0)).toArray) [] TF.z48 TF.p48 rfl rfl) rfl ?_
              refine wl_storeW (cs := (fdC fd0 (.slice none 0 0)).toArray) 1 st rfl TF.t48 rfl rfl rfl rfl (one_fdC rfl) ?_
              intro w st
              refine wl_val (v_assign' (by conv => (lhs; whnf))) rfl ?_
              refine wl_nil ?_
              refine then_go ?_
              refine wc_ret (then_ret ?_)
              first
                | (obtain ⟨q1, q2⟩ := ask_0 hyes hep hallT
                   exact ret2c rfl (st.reads (v := .agg (fdC ⟨e, true, a.bind⟩ (.slice ka a.bind.key.length kc)).toArray) 2 rfl TF.t48 (getV_all rfl)) rfl ((st.keepOnly (l := []) (List.nil_sublist _)).out ⟨_, by rw [q1]; rfl, by rw [q2, decide_eq_true hT]; exact ⟨_, rfl, hok.key, hok.name⟩⟩))
                | (obtain ⟨q1, q2⟩ := ask_0 hyes hep hallF
                   exact ret2c rfl (st.reads (v := .agg (fdC ⟨e, false, bd0⟩ (.slice none 0 0)).toArray) 2 rfl TF.t48 (getV_all rfl)) rfl ((st.keepOnly (l := []) (List.nil_sublist _)).out ⟨_, by rw [q1]; rfl, by rw [q2, decide_eq_false hT, hb0]; exact ⟨_, rfl, SlM.nil, Nat.zero_le _⟩⟩))
                | (have hno : ¬ askOk x name e a := by
                     intro hc
                     first
                       | exact hg2 (show chkE (rootAt x e) a.index a.proof = 0 by rw [chkE, if_pos hc.2.1])
                       | exact hg8 (show (a.epoch.toNat : Int) = (e.toNat : Int) by rw [hc.1])
                       | (have h5 := hc.2.2; rw [decide_eq_true hT, shownP, if_pos rfl] at h5; have h6 := h5.1; rw [h6] at h58; simp at h58; done)
                       | (have h5 := hc.2.2; rw [decide_eq_false hT, shownP, if_neg (by decide)] at h5; have h6 := h5.1; rw [h6] at h58; simp at h58; done)
                       | (have h5 := hc.2.2; rw [decide_eq_true hT, shownP, if_pos rfl] at h5; first | exact hN h5.2.1 | exact hS h5.2.2.1 | exact hC h5.2.2.2.1 | exact h100 h5.2.2.2.2)
                       | (have h5 := hc.2.2; rw [decide_eq_false hT, shownP, if_neg (by decide)] at h5; first | exact h72 h5.2.1 | (have h6 := h5.2.2; rw [decide_eq_true h6] at hg3; simp at hg3; done))
                   obtain ⟨q1, q2⟩ := ask_15 hyes hep hno
                   exact ret2c rfl (by first | exact st.reads 1 rfl TF.t48 (getV_all rfl) | exact st.reads 2 rfl TF.t48 (getV_all rfl)) rfl ((st.keepOnly (l := []) (List.nil_sublist _)).out ⟨_, by rw [q1]; rfl, by rw [q2]; exact fd0_M⟩))
            · rw [show decide (¬ chkE (rootAt x e) a.index a.proof = 0) = false from decide_eq_false hg2]
              refine wl_on rfl rfl ?_
              refine wl_val (v_fa TF.f45_0 rfl) rfl ?_
              refine wl_on rfl rfl ?_
              refine wl_val (v_load rfl (st.reads (v := u64 a.epoch) 2 rfl TF.t24 aw_e)) rfl ?_
              refine wl_on rfl rfl ?_
              refine wl_val (v_move' (by conv => (lhs; whnf))) rfl ?_
              refine wl_on rfl rfl ?_
              refine wl_val (v_neq rfl rfl) rfl ?_
              refine wl_val (v_pick rfl) rfl ?_
              refine wl_val (v_move' (by conv => (lhs; whnf))) rfl ?_
              by_cases hg8 : ¬ (a.epoch.toNat : Int) = (e.toNat : Int)
              · rw [show decide (¬ (a.epoch.toNat : Int) = (e.toNat : Int)) = true from decide_eq_true hg8]
                refine wl_off rfl rfl rfl rfl ?_
                refine wl_off rfl rfl rfl rfl ?_
                refine wl_off rfl rfl rfl rfl ?_
                refine wl_off rfl rfl rfl rfl ?_
                refine wl_val (v_pick rfl) rfl ?_
                refine wl_nil ?_
                refine then_go ?_
                refine wc_true rfl ?_
                refine wc_seq ?_
                refine wc_region ?_
                refine wl_val (v_build (c' := (fdC fd0 (.slice none 0 0)).toArray) [] TF.z48 TF.p48 rfl rfl) rfl ?_
                refine wl_storeW (cs := (fdC fd0 (.slice none 0 0)).toArray) 1 st rfl TF.t48 rfl rfl rfl rfl (one_fdC rfl) ?_
                intro w st
                refine wl_val (v_assign' (by conv => (lhs; whnf))) rfl ?_
                refine wl_nil ?_
                refine then_go ?_
                refine wc_ret (then_ret ?_)
                first
                  | (obtain ⟨q1, q2⟩ := ask_0 hyes hep hallT
                     exact ret2c rfl (st.reads (v := .agg (fdC ⟨e, true, a.bind⟩ (.slice ka a.bind.key.length kc)).toArray) 2 rfl TF.t48 (getV_all rfl)) rfl ((st.keepOnly (l := []) (List.nil_sublist _)).out ⟨_, by rw [q1]; rfl, by rw [q2, decide_eq_true hT]; exact ⟨_, rfl, hok.key, hok.name⟩⟩))
                  | (obtain ⟨q1, q2⟩ := ask_0 hyes hep hallF
                     exact ret2c rfl (st.reads (v := .agg (fdC ⟨e, false, bd0⟩ (.slice none 0 0)).toArray) 2 rfl TF.t48 (getV_all rfl)) rfl ((st.keepOnly (l := []) (List.nil_sublist _)).out ⟨_, by rw [q1]; rfl, by rw [q2, decide_eq_false hT, hb0]; exact ⟨_, rfl, SlM.nil, Nat.zero_le _⟩⟩))
                  | (have hno : ¬ askOk x name e a := by
                       intro hc
                       first
                         | exact hg2 (show chkE (rootAt x e) a.index a.proof = 0 by rw [chkE, if_pos hc.2.1])
                         | exact hg8 (show (a.epoch.toNat : Int) = (e.toNat : Int) by rw [hc.1])
                         | (have h5 := hc.2.2; rw [decide_eq_true hT, shownP, if_pos rfl] at h5; have h6 := h5.1; rw [h6] at h58; simp at h58; done)
                         | (have h5 := hc.2.2; rw [decide_eq_false hT, shownP, if_neg (by decide)] at h5; have h6 := h5.1; rw [h6] at h58; simp at h58; done)
                         | (have h5 := hc.2.2; rw [decide_eq_true hT, shownP, if_pos rfl] at h5; first | exact hN h5.2.1 | exact hS h5.2.2.1 | exact hC h5.2.2.2.1 | exact h100 h5.2.2.2.2)
                         | (have h5 := hc.2.2; rw [decide_eq_false hT, shownP, if_neg (by decide)] at h5; first | exact h72 h5.2.1 | (have h6 := h5.2.2; rw [decide_eq_true h6] at hg3; simp at hg3; done))
                     obtain ⟨q1, q2⟩ := ask_15 hyes hep hno
                     exact ret2c rfl (by first | exact st.reads 1 rfl TF.t48 (getV_all rfl) | exact st.reads 2 rfl TF.t48 (getV_all rfl)) rfl ((st.keepOnly (l := []) (List.nil_sublist _)).out ⟨_, by rw [q1]; rfl, by rw [q2]; exact fd0_M⟩))
              · rw [show decide (¬ (a.epoch.toNat : Int) = (e.toNat : Int)) = false from decide_eq_false hg8]
                refine wl_on rfl rfl ?_
                refine wl_val (v_fa TF.f45_3 rfl) rfl ?_
                refine wl_on rfl rfl ?_
                refine wl_val (v_load rfl (st.reads (v := .bool a.there) 2 rfl TF.t4 (aw_t hok))) rfl ?_
                refine wl_on rfl rfl ?_
                refine wl_val (v_move' (by conv => (lhs; whnf))) rfl ?_
                refine wl_on rfl rfl ?_
                refine wl_val (v_to (v' := .bool (!a.there)) (v_neb Try.underlying4 rfl rfl) (by cases a.there <;> rfl)) rfl ?_
                refine wl_val (v_pick rfl) rfl ?_
                refine wl_nil ?_
                refine then_go ?_
                refine wc_cond rfl (fun h58 => ?_) (fun h58 => ?_)
                · refine wc_seq ?_
                  refine wc_region ?_
                  refine wl_val (v_build (c' := (fdC fd0 (.slice none 0 0)).toArray) [] TF.z48 TF.p48 rfl rfl) rfl ?_
                  refine wl_storeW (cs := (fdC fd0 (.slice none 0 0)).toArray) 1 st rfl TF.t48 rfl rfl rfl rfl (one_fdC rfl) ?_
                  intro w st
                  refine wl_val (v_assign' (by conv => (lhs; whnf))) rfl ?_
                  refine wl_nil ?_
                  refine then_go ?_
                  refine wc_ret (then_ret ?_)
                  first
                    | (obtain ⟨q1, q2⟩ := ask_0 hyes hep hallT
                       exact ret2c rfl (st.reads (v := .agg (fdC ⟨e, true, a.bind⟩ (.slice ka a.bind.key.length kc)).toArray) 2 rfl TF.t48 (getV_all rfl)) rfl ((st.keepOnly (l := []) (List.nil_sublist _)).out ⟨_, by rw [q1]; rfl, by rw [q2, decide_eq_true hT]; exact ⟨_, rfl, hok.key, hok.name⟩⟩))
                    | (obtain ⟨q1, q2⟩ := ask_0 hyes hep hallF
                       exact ret2c rfl (st.reads (v := .agg (fdC ⟨e, false, bd0⟩ (.slice none 0 0)).toArray) 2 rfl TF.t48 (getV_all rfl)) rfl ((st.keepOnly (l := []) (List.nil_sublist _)).out ⟨_, by rw [q1]; rfl, by rw [q2, decide_eq_false hT, hb0]; exact ⟨_, rfl, SlM.nil, Nat.zero_le _⟩⟩))
                    | (have hno : ¬ askOk x name e a := by
                         intro hc
                         first
                           | exact hg2 (show chkE (rootAt x e) a.index a.proof = 0 by rw [chkE, if_pos hc.2.1])
                           | exact hg8 (show (a.epoch.toNat : Int) = (e.toNat : Int) by rw [hc.1])
                           | (have h5 := hc.2.2; rw [decide_eq_true hT, shownP, if_pos rfl] at h5; have h6 := h5.1; rw [h6] at h58; simp at h58; done)
                           | (have h5 := hc.2.2; rw [decide_eq_false hT, shownP, if_neg (by decide)] at h5; have h6 := h5.1; rw [h6] at h58; simp at h58; done)
                           | (have h5 := hc.2.2; rw [decide_eq_true hT, shownP, if_pos rfl] at h5; first | exact hN h5.2.1 | exact hS h5.2.2.1 | exact hC h5.2.2.2.1 | exact h100 h5.2.2.2.2)
                           | (have h5 := hc.2.2; rw [decide_eq_false hT, shownP, if_neg (by decide)] at h5; first | exact h72 h5.2.1 | (have h6 := h5.2.2; rw [decide_eq_true h6] at hg3; simp at hg3; done))
                       obtain ⟨q1, q2⟩ := ask_15 hyes hep hno
                       exact ret2c rfl (by first | exact st.reads 1 rfl TF.t48 (getV_all rfl) | exact st.reads 2 rfl TF.t48 (getV_all rfl)) rfl ((st.keepOnly (l := []) (List.nil_sublist _)).out ⟨_, by rw [q1]; rfl, by rw [q2]; exact fd0_M⟩))
                · refine wc_skip ?_
                  refine then_go ?_
                  refine wc_seq ?_
                  have hpr : provesP (rootAt x e) a.index a.proof := by
                    refine Decidable.byContradiction fun hc => hg2 ?_
                    rw [chkE, if_neg hc]
                    decide
                  have hae : a.epoch = e := UInt64.toNat_inj.1 (by omega)
                  refine wc_region ?_
                  refine wl_val (v_fa TF.f45_5 rfl) rfl ?_
                  refine wl_val (v_load rfl (st.reads (v := .agg (bdC a.bind (.slice ka a.bind.key.length kc)).toArray) 2 rfl TF.t43 (aw_b hok))) rfl ?_
                  refine wl_alloc TF.z43 st rfl ?_
                  intro b13 w st
                  refine wl_storeW (cs := (bdC a.bind (.slice ka a.bind.key.length kc)).toArray) 0 st rfl TF.t43 rfl rfl rfl rfl (fun u hu => by simp [bdC] at hu; rcases hu with rfl | rfl | rfl <;> rfl) ?_
                  intro w st
                  refine wl_nil ?_
                  refine then_go ?_
                  refine wc_seq ?_
                  refine wc_seq ?_
                  refine wc_region ?_
                  refine wl_val (v_move' (by conv => (lhs; whnf))) rfl ?_
                  refine wl_val (v_not rfl) rfl ?_
                  refine wl_nil ?_
                  refine then_go ?_
                  refine wc_false rfl ?_
                  refine wc_skip ?_
                  refine then_go ?_
                  refine wc_seq ?_
                  refine wc_seq ?_
                  by_cases hN : a.bind.name = name
                  · by_cases hS : 0 < a.bind.serial.toNat
                    · by_cases hC : checkE a.bind.name a.bind.key = 0
                      · refine wc_draw TF.mixed ?_
                        have st := st.pure (touch_drew _)
                        refine fl_val 0 rfl (fun _ => (v_fa TF.f43_0 rfl)) rfl (by kernel_rfl) ?_
                        refine fl_ld 1 rfl (v_load rfl (st.reads (v := .string (strB a.bind.name)) 0 rfl TF.t9 rfl)) (by kernel_rfl) ?_
                        refine fl_val 2 rfl (fun _ => (v_move' (by conv => (lhs; whnf)))) rfl (by kernel_rfl) ?_
                        refine fl_val 3 rfl (fun _ => (v_to (v' := .bool false) (v_nes rfl rfl) (by rw [decide_eq_false (not_not_intro hN)]))) rfl (by kernel_rfl) ?_
                        refine fl_val 4 rfl (fun _ => (v_move' (by conv => (lhs; whnf)))) rfl (by kernel_rfl) ?_
                        refine fl_on 5 rfl rfl rfl rfl (fun _ => (v_fa TF.f43_2 rfl)) rfl (by kernel_rfl) ?_
                        refine fl_ond 6 rfl rfl rfl rfl (v_load rfl (st.reads (v := u64 a.bind.serial) 0 rfl TF.t24 rfl)) rfl (by kernel_rfl) ?_
                        refine fl_on 7 rfl rfl rfl rfl (fun _ => (v_to (v' := .bool false) (v_eql rfl rfl) (by rw [decide_eq_false (by omega)]))) rfl (by kernel_rfl) ?_
                        refine fl_val 8 rfl (fun _ => (v_pick rfl)) rfl (by kernel_rfl) ?_
                        refine fl_val 9 rfl (fun _ => (v_move' (by conv => (lhs; whnf)))) rfl (by kernel_rfl) ?_
                        refine fl_on 10 rfl rfl rfl rfl (fun _ => (v_fa TF.f43_0 rfl)) rfl (by kernel_rfl) ?_
                        refine fl_ond 11 rfl rfl rfl rfl (v_load rfl (st.reads (v := .string (strB a.bind.name)) 0 rfl TF.t9 rfl)) rfl (by kernel_rfl) ?_
                        refine fl_on 12 rfl rfl rfl rfl (fun _ => (v_fa TF.f43_1 rfl)) rfl (by kernel_rfl) ?_
                        refine fl_ond 13 rfl rfl rfl rfl (v_load rfl (st.reads (v := .slice ka a.bind.key.length kc) 0 rfl TF.t41 rfl)) rfl (by kernel_rfl) ?_
                        refine fl_eff1 14 [12, 10, 8, 7, 5, 4, 3, 2, 0] [6, 1] (by kernel_rfl) ⟨obl_on rfl rfl rfl rfl rfl (v_load rfl (st.reads (v := .slice ka a.bind.key.length kc) 0 rfl TF.t41 rfl)), obl_on rfl rfl rfl rfl rfl (v_load rfl (st.reads (v := .string (strB a.bind.name)) 0 rfl TF.t9 rfl)), obl_on rfl rfl rfl rfl rfl (v_load rfl (st.reads (v := u64 a.bind.serial) 0 rfl TF.t24 rfl)), obl_ld rfl rfl rfl (v_load rfl (st.reads (v := .string (strB a.bind.name)) 0 rfl TF.t9 rfl)), trivial⟩ rfl ?_
                        refine wl_on rfl rfl ?_
                        refine wl_call rfl (c_r5check st.im hok.key hok.name) rfl ?_
                        rintro v90 w ⟨t90, rfl⟩
                        have st := st.pure t90
                        refine wl_nil ⟨rfl, ?_⟩
                        refine fl_on 15 rfl rfl rfl rfl (fun _ => (v_to (v' := .bool false) (v_neq rfl rfl) (by rw [decide_eq_false (not_not_intro hC)]))) rfl (by kernel_rfl) ?_
                        refine fl_val 16 rfl (fun _ => (v_pick rfl)) rfl (by kernel_rfl) ?_
                        refine fl_val 17 rfl (fun _ => (v_move' (by conv => (lhs; whnf)))) rfl (by kernel_rfl) ?_
                        refine fl_on 18 rfl rfl rfl rfl (fun _ => (v_fa TF.f45_4 rfl)) rfl (by kernel_rfl) ?_
                        refine fl_ond 19 rfl rfl rfl rfl (v_load rfl (st.reads (v := arr a.salt) 3 rfl TF.t23 (aw_s hok))) rfl (by kernel_rfl) ?_
                        refine fl_ond 20 rfl rfl rfl rfl (v_load rfl (st.reads (v := .agg (bdC a.bind (.slice ka a.bind.key.length kc)).toArray) 0 rfl TF.t43 (getV_all rfl))) rfl (by kernel_rfl) ?_
                        refine fl_ond 22 rfl rfl rfl rfl (v_load rfl (st.reads (v := arr (chkV (rootAt x e) a.index a.proof)) 1 rfl TF.t23 (getV_all (by rw [List.size_toArray, length_bs, chkV_len hok.pV])))) rfl (by kernel_rfl) ?_
                        refine fl_eff1 21 [18, 16, 15, 12, 10, 8, 7, 5, 4, 3, 2, 0] [22, 6, 1] (by kernel_rfl) ⟨obl_on rfl rfl rfl rfl rfl (v_load rfl (st.reads (v := arr (chkV (rootAt x e) a.index a.proof)) 1 rfl TF.t23 (getV_all (by rw [List.size_toArray, length_bs, chkV_len hok.pV])))), obl_on rfl rfl rfl rfl rfl (v_load rfl (st.reads (v := .agg (bdC a.bind (.slice ka a.bind.key.length kc)).toArray) 0 rfl TF.t43 (getV_all rfl))), obl_on rfl rfl rfl rfl rfl (v_load rfl (st.reads (v := arr a.salt) 3 rfl TF.t23 (aw_s hok))), obl_on rfl rfl rfl rfl rfl (v_load rfl (st.reads (v := u64 a.bind.serial) 0 rfl TF.t24 rfl)), obl_ld rfl rfl rfl (v_load rfl (st.reads (v := .string (strB a.bind.name)) 0 rfl TF.t9 rfl)), trivial⟩ rfl ?_
                        refine wl_on rfl rfl ?_
                        refine wl_call rfl (c_rvalue st.im hok.salt hbd (by have := (checkE_len hC).1; omega) (by have := (checkE_len hC).2; omega)) rfl ?_
                        rintro v97 w ⟨t97, rfl⟩
                        have st := st.pure t97
                        refine wl_nil ⟨rfl, ?_⟩
                        refine fl_on 23 rfl rfl rfl rfl (fun _ => (v_neD rfl rfl (length_sum _) (chkV_len hok.pV))) rfl (by kernel_rfl) ?_
                        refine fl_val 24 rfl (fun _ => (v_pick rfl)) rfl (by kernel_rfl) ?_
                        refine fl_nil (by kernel_rfl) ⟨obl_on rfl rfl rfl rfl rfl (v_load rfl (st.reads (v := arr (chkV (rootAt x e) a.index a.proof)) 1 rfl TF.t23 (getV_all (by rw [List.size_toArray, length_bs, chkV_len hok.pV])))), obl_on rfl rfl rfl rfl rfl (v_load rfl (st.reads (v := u64 a.bind.serial) 0 rfl TF.t24 rfl)), obl_ld rfl rfl rfl (v_load rfl (st.reads (v := .string (strB a.bind.name)) 0 rfl TF.t9 rfl)), trivial⟩ ?_
                        refine then_go ?_
                        refine wc_if rfl (fun h100 => ?_) (fun h100 => ?_)
                        · refine wc_seq ?_
                          refine wc_region ?_
                          refine wl_val (v_build (c' := (fdC fd0 (.slice none 0 0)).toArray) [] TF.z48 TF.p48 rfl rfl) rfl ?_
                          refine wl_storeW (cs := (fdC fd0 (.slice none 0 0)).toArray) 2 st rfl TF.t48 rfl rfl rfl rfl (one_fdC rfl) ?_
                          intro w st
                          refine wl_val (v_assign' (by conv => (lhs; whnf))) rfl ?_
                          refine wl_nil ?_
                          refine then_go ?_
                          refine wc_ret (then_ret ?_)
                          first
                            | (obtain ⟨q1, q2⟩ := ask_0 hyes hep hallT
                               exact ret2c rfl (st.reads (v := .agg (fdC ⟨e, true, a.bind⟩ (.slice ka a.bind.key.length kc)).toArray) 2 rfl TF.t48 (getV_all rfl)) rfl ((st.keepOnly (l := []) (List.nil_sublist _)).out ⟨_, by rw [q1]; rfl, by rw [q2, decide_eq_true hT]; exact ⟨_, rfl, hok.key, hok.name⟩⟩))
                            | (obtain ⟨q1, q2⟩ := ask_0 hyes hep hallF
                               exact ret2c rfl (st.reads (v := .agg (fdC ⟨e, false, bd0⟩ (.slice none 0 0)).toArray) 2 rfl TF.t48 (getV_all rfl)) rfl ((st.keepOnly (l := []) (List.nil_sublist _)).out ⟨_, by rw [q1]; rfl, by rw [q2, decide_eq_false hT, hb0]; exact ⟨_, rfl, SlM.nil, Nat.zero_le _⟩⟩))
                            | (have hno : ¬ askOk x name e a := by
                                 intro hc
                                 first
                                   | exact hg2 (show chkE (rootAt x e) a.index a.proof = 0 by rw [chkE, if_pos hc.2.1])
                                   | exact hg8 (show (a.epoch.toNat : Int) = (e.toNat : Int) by rw [hc.1])
                                   | (have h5 := hc.2.2; rw [decide_eq_true hT, shownP, if_pos rfl] at h5; have h6 := h5.1; rw [h6] at h58; simp at h58; done)
                                   | (have h5 := hc.2.2; rw [decide_eq_false hT, shownP, if_neg (by decide)] at h5; have h6 := h5.1; rw [h6] at h58; simp at h58; done)
                                   | (have h5 := hc.2.2; rw [decide_eq_true hT, shownP, if_pos rfl] at h5; first | exact hN h5.2.1 | exact hS h5.2.2.1 | exact hC h5.2.2.2.1 | exact h100 h5.2.2.2.2)
                                   | (have h5 := hc.2.2; rw [decide_eq_false hT, shownP, if_neg (by decide)] at h5; first | exact h72 h5.2.1 | (have h6 := h5.2.2; rw [decide_eq_true h6] at hg3; simp at hg3; done))
                               obtain ⟨q1, q2⟩ := ask_15 hyes hep hno
                               exact ret2c rfl (by first | exact st.reads 1 rfl TF.t48 (getV_all rfl) | exact st.reads 2 rfl TF.t48 (getV_all rfl)) rfl ((st.keepOnly (l := []) (List.nil_sublist _)).out ⟨_, by rw [q1]; rfl, by rw [q2]; exact fd0_M⟩))
                        · refine wc_skip ?_
                          refine then_go ?_
                          refine wc_seq ?_
                          have hallT : askOk x name e a := ⟨hae, hpr, by rw [decide_eq_true hT, shownP, if_pos rfl]; exact ⟨by simpa using h58, hN, hS, hC, Decidable.not_not.1 h100⟩⟩
                          refine wc_region ?_
                          refine wl_val (v_move' (by conv => (lhs; whnf))) rfl ?_
                          refine wl_val (v_load rfl (st.reads (v := .agg (bdC a.bind (.slice ka a.bind.key.length kc)).toArray) 0 rfl TF.t43 (getV_all rfl))) rfl ?_
                          refine wl_val (v_build (c' := (fdC ⟨e, true, a.bind⟩ (.slice ka a.bind.key.length kc)).toArray) [(0, u64 e), (1, .bool true), (2, .agg (bdC a.bind (.slice ka a.bind.key.length kc)).toArray)] TF.z48 TF.p48 rfl fill_fd) rfl ?_
                          refine wl_storeW (cs := (fdC ⟨e, true, a.bind⟩ (.slice ka a.bind.key.length kc)).toArray) 2 st rfl TF.t48 rfl rfl rfl rfl (one_fdC rfl) ?_
                          intro w st
                          refine wl_val (v_assign' (by conv => (lhs; whnf))) rfl ?_
                          refine wl_nil ?_
                          refine then_go ?_
                          refine wc_ret ?_
                          first
                            | (obtain ⟨q1, q2⟩ := ask_0 hyes hep hallT
                               exact ret2c rfl (st.reads (v := .agg (fdC ⟨e, true, a.bind⟩ (.slice ka a.bind.key.length kc)).toArray) 2 rfl TF.t48 (getV_all rfl)) rfl ((st.keepOnly (l := []) (List.nil_sublist _)).out ⟨_, by rw [q1]; rfl, by rw [q2, decide_eq_true hT]; exact ⟨_, rfl, hok.key, hok.name⟩⟩))
                            | (obtain ⟨q1, q2⟩ := ask_0 hyes hep hallF
                               exact ret2c rfl (st.reads (v := .agg (fdC ⟨e, false, bd0⟩ (.slice none 0 0)).toArray) 2 rfl TF.t48 (getV_all rfl)) rfl ((st.keepOnly (l := []) (List.nil_sublist _)).out ⟨_, by rw [q1]; rfl, by rw [q2, decide_eq_false hT, hb0]; exact ⟨_, rfl, SlM.nil, Nat.zero_le _⟩⟩))
                            | (have hno : ¬ askOk x name e a := by
                                 intro hc
                                 first
                                   | exact hg2 (show chkE (rootAt x e) a.index a.proof = 0 by rw [chkE, if_pos hc.2.1])
                                   | exact hg8 (show (a.epoch.toNat : Int) = (e.toNat : Int) by rw [hc.1])
                                   | (have h5 := hc.2.2; rw [decide_eq_true hT, shownP, if_pos rfl] at h5; have h6 := h5.1; rw [h6] at h58; simp at h58; done)
                                   | (have h5 := hc.2.2; rw [decide_eq_false hT, shownP, if_neg (by decide)] at h5; have h6 := h5.1; rw [h6] at h58; simp at h58; done)
                                   | (have h5 := hc.2.2; rw [decide_eq_true hT, shownP, if_pos rfl] at h5; first | exact hN h5.2.1 | exact hS h5.2.2.1 | exact hC h5.2.2.2.1 | exact h100 h5.2.2.2.2)
                                   | (have h5 := hc.2.2; rw [decide_eq_false hT, shownP, if_neg (by decide)] at h5; first | exact h72 h5.2.1 | (have h6 := h5.2.2; rw [decide_eq_true h6] at hg3; simp at hg3; done))
                               obtain ⟨q1, q2⟩ := ask_15 hyes hep hno
                               exact ret2c rfl (by first | exact st.reads 1 rfl TF.t48 (getV_all rfl) | exact st.reads 2 rfl TF.t48 (getV_all rfl)) rfl ((st.keepOnly (l := []) (List.nil_sublist _)).out ⟨_, by rw [q1]; rfl, by rw [q2]; exact fd0_M⟩))
                      · refine wc_draw TF.mixed ?_
                        have st := st.pure (touch_drew _)
                        refine fl_val 0 rfl (fun _ => (v_fa TF.f43_0 rfl)) rfl (by kernel_rfl) ?_
                        refine fl_ld 1 rfl (v_load rfl (st.reads (v := .string (strB a.bind.name)) 0 rfl TF.t9 rfl)) (by kernel_rfl) ?_
                        refine fl_val 2 rfl (fun _ => (v_move' (by conv => (lhs; whnf)))) rfl (by kernel_rfl) ?_
                        refine fl_val 3 rfl (fun _ => (v_to (v' := .bool false) (v_nes rfl rfl) (by rw [decide_eq_false (not_not_intro hN)]))) rfl (by kernel_rfl) ?_
                        refine fl_val 4 rfl (fun _ => (v_move' (by conv => (lhs; whnf)))) rfl (by kernel_rfl) ?_
                        refine fl_on 5 rfl rfl rfl rfl (fun _ => (v_fa TF.f43_2 rfl)) rfl (by kernel_rfl) ?_
                        refine fl_ond 6 rfl rfl rfl rfl (v_load rfl (st.reads (v := u64 a.bind.serial) 0 rfl TF.t24 rfl)) rfl (by kernel_rfl) ?_
                        refine fl_on 7 rfl rfl rfl rfl (fun _ => (v_to (v' := .bool false) (v_eql rfl rfl) (by rw [decide_eq_false (by omega)]))) rfl (by kernel_rfl) ?_
                        refine fl_val 8 rfl (fun _ => (v_pick rfl)) rfl (by kernel_rfl) ?_
                        refine fl_val 9 rfl (fun _ => (v_move' (by conv => (lhs; whnf)))) rfl (by kernel_rfl) ?_
                        refine fl_on 10 rfl rfl rfl rfl (fun _ => (v_fa TF.f43_0 rfl)) rfl (by kernel_rfl) ?_
                        refine fl_ond 11 rfl rfl rfl rfl (v_load rfl (st.reads (v := .string (strB a.bind.name)) 0 rfl TF.t9 rfl)) rfl (by kernel_rfl) ?_
                        refine fl_on 12 rfl rfl rfl rfl (fun _ => (v_fa TF.f43_1 rfl)) rfl (by kernel_rfl) ?_
                        refine fl_ond 13 rfl rfl rfl rfl (v_load rfl (st.reads (v := .slice ka a.bind.key.length kc) 0 rfl TF.t41 rfl)) rfl (by kernel_rfl) ?_
                        refine fl_eff1 14 [12, 10, 8, 7, 5, 4, 3, 2, 0] [6, 1] (by kernel_rfl) ⟨obl_on rfl rfl rfl rfl rfl (v_load rfl (st.reads (v := .slice ka a.bind.key.length kc) 0 rfl TF.t41 rfl)), obl_on rfl rfl rfl rfl rfl (v_load rfl (st.reads (v := .string (strB a.bind.name)) 0 rfl TF.t9 rfl)), obl_on rfl rfl rfl rfl rfl (v_load rfl (st.reads (v := u64 a.bind.serial) 0 rfl TF.t24 rfl)), obl_ld rfl rfl rfl (v_load rfl (st.reads (v := .string (strB a.bind.name)) 0 rfl TF.t9 rfl)), trivial⟩ rfl ?_
                        refine wl_on rfl rfl ?_
                        refine wl_call rfl (c_r5check st.im hok.key hok.name) rfl ?_
                        rintro v90 w ⟨t90, rfl⟩
                        have st := st.pure t90
                        refine wl_nil ⟨rfl, ?_⟩
                        refine fl_on 15 rfl rfl rfl rfl (fun _ => (v_to (v' := .bool true) (v_neq rfl rfl) (by rw [decide_eq_true hC]))) rfl (by kernel_rfl) ?_
                        refine fl_val 16 rfl (fun _ => (v_pick rfl)) rfl (by kernel_rfl) ?_
                        refine fl_val 17 rfl (fun _ => (v_move' (by conv => (lhs; whnf)))) rfl (by kernel_rfl) ?_
                        refine fl_off 18 rfl rfl rfl rfl rfl rfl (by kernel_rfl) ?_
                        refine fl_offd 19 rfl rfl rfl rfl rfl rfl (by kernel_rfl) ?_
                        refine fl_offd 20 rfl rfl rfl rfl rfl rfl (by kernel_rfl) ?_
                        refine fl_offd 22 rfl rfl rfl rfl rfl rfl (by kernel_rfl) ?_
                        refine fl_eff1 21 [18, 16, 15, 12, 10, 8, 7, 5, 4, 3, 2, 0] [22, 6, 1] (by kernel_rfl) ⟨obl_off rfl rfl rfl rfl rfl rfl, obl_off rfl rfl rfl rfl rfl rfl, obl_off rfl rfl rfl rfl rfl rfl, obl_on rfl rfl rfl rfl rfl (v_load rfl (st.reads (v := u64 a.bind.serial) 0 rfl TF.t24 rfl)), obl_ld rfl rfl rfl (v_load rfl (st.reads (v := .string (strB a.bind.name)) 0 rfl TF.t9 rfl)), trivial⟩ rfl ?_
                        refine wl_off rfl rfl rfl rfl ?_
                        refine wl_nil ⟨rfl, ?_⟩
                        refine fl_off 23 rfl rfl rfl rfl rfl rfl (by kernel_rfl) ?_
                        refine fl_val 24 rfl (fun _ => (v_pick rfl)) rfl (by kernel_rfl) ?_
                        refine fl_nil (by kernel_rfl) ⟨obl_off rfl rfl rfl rfl rfl rfl, obl_on rfl rfl rfl rfl rfl (v_load rfl (st.reads (v := u64 a.bind.serial) 0 rfl TF.t24 rfl)), obl_ld rfl rfl rfl (v_load rfl (st.reads (v := .string (strB a.bind.name)) 0 rfl TF.t9 rfl)), trivial⟩ ?_
                        refine then_go ?_
                        refine wc_true rfl ?_
                        refine wc_seq ?_
                        refine wc_region ?_
                        refine wl_val (v_build (c' := (fdC fd0 (.slice none 0 0)).toArray) [] TF.z48 TF.p48 rfl rfl) rfl ?_
                        refine wl_storeW (cs := (fdC fd0 (.slice none 0 0)).toArray) 2 st rfl TF.t48 rfl rfl rfl rfl (one_fdC rfl) ?_
                        intro w st
                        refine wl_val (v_assign' (by conv => (lhs; whnf))) rfl ?_
                        refine wl_nil ?_
                        refine then_go ?_
                        refine wc_ret (then_ret ?_)
                        first
                          | (obtain ⟨q1, q2⟩ := ask_0 hyes hep hallT
                             exact ret2c rfl (st.reads (v := .agg (fdC ⟨e, true, a.bind⟩ (.slice ka a.bind.key.length kc)).toArray) 2 rfl TF.t48 (getV_all rfl)) rfl ((st.keepOnly (l := []) (List.nil_sublist _)).out ⟨_, by rw [q1]; rfl, by rw [q2, decide_eq_true hT]; exact ⟨_, rfl, hok.key, hok.name⟩⟩))
                          | (obtain ⟨q1, q2⟩ := ask_0 hyes hep hallF
                             exact ret2c rfl (st.reads (v := .agg (fdC ⟨e, false, bd0⟩ (.slice none 0 0)).toArray) 2 rfl TF.t48 (getV_all rfl)) rfl ((st.keepOnly (l := []) (List.nil_sublist _)).out ⟨_, by rw [q1]; rfl, by rw [q2, decide_eq_false hT, hb0]; exact ⟨_, rfl, SlM.nil, Nat.zero_le _⟩⟩))
                          | (have hno : ¬ askOk x name e a := by
                               intro hc
                               first
                                 | exact hg2 (show chkE (rootAt x e) a.index a.proof = 0 by rw [chkE, if_pos hc.2.1])
                                 | exact hg8 (show (a.epoch.toNat : Int) = (e.toNat : Int) by rw [hc.1])
                                 | (have h5 := hc.2.2; rw [decide_eq_true hT, shownP, if_pos rfl] at h5; have h6 := h5.1; rw [h6] at h58; simp at h58; done)
                                 | (have h5 := hc.2.2; rw [decide_eq_false hT, shownP, if_neg (by decide)] at h5; have h6 := h5.1; rw [h6] at h58; simp at h58; done)
                                 | (have h5 := hc.2.2; rw [decide_eq_true hT, shownP, if_pos rfl] at h5; first | exact hN h5.2.1 | exact hS h5.2.2.1 | exact hC h5.2.2.2.1 | exact h100 h5.2.2.2.2)
                                 | (have h5 := hc.2.2; rw [decide_eq_false hT, shownP, if_neg (by decide)] at h5; first | exact h72 h5.2.1 | (have h6 := h5.2.2; rw [decide_eq_true h6] at hg3; simp at hg3; done))
                             obtain ⟨q1, q2⟩ := ask_15 hyes hep hno
                             exact ret2c rfl (by first | exact st.reads 1 rfl TF.t48 (getV_all rfl) | exact st.reads 2 rfl TF.t48 (getV_all rfl)) rfl ((st.keepOnly (l := []) (List.nil_sublist _)).out ⟨_, by rw [q1]; rfl, by rw [q2]; exact fd0_M⟩))
                    · refine wc_draw TF.mixed ?_
                      have st := st.pure (touch_drew _)
                      refine fl_val 0 rfl (fun _ => (v_fa TF.f43_0 rfl)) rfl (by kernel_rfl) ?_
                      refine fl_ld 1 rfl (v_load rfl (st.reads (v := .string (strB a.bind.name)) 0 rfl TF.t9 rfl)) (by kernel_rfl) ?_
                      refine fl_val 2 rfl (fun _ => (v_move' (by conv => (lhs; whnf)))) rfl (by kernel_rfl) ?_
                      refine fl_val 3 rfl (fun _ => (v_to (v' := .bool false) (v_nes rfl rfl) (by rw [decide_eq_false (not_not_intro hN)]))) rfl (by kernel_rfl) ?_
                      refine fl_val 4 rfl (fun _ => (v_move' (by conv => (lhs; whnf)))) rfl (by kernel_rfl) ?_
                      refine fl_on 5 rfl rfl rfl rfl (fun _ => (v_fa TF.f43_2 rfl)) rfl (by kernel_rfl) ?_
                      refine fl_ond 6 rfl rfl rfl rfl (v_load rfl (st.reads (v := u64 a.bind.serial) 0 rfl TF.t24 rfl)) rfl (by kernel_rfl) ?_
                      refine fl_on 7 rfl rfl rfl rfl (fun _ => (v_to (v' := .bool true) (v_eql rfl rfl) (by rw [decide_eq_true (by omega)]))) rfl (by kernel_rfl) ?_
                      refine fl_val 8 rfl (fun _ => (v_pick rfl)) rfl (by kernel_rfl) ?_
                      refine fl_val 9 rfl (fun _ => (v_move' (by conv => (lhs; whnf)))) rfl (by kernel_rfl) ?_
                      refine fl_off 10 rfl rfl rfl rfl rfl rfl (by kernel_rfl) ?_
                      refine fl_offd 11 rfl rfl rfl rfl rfl rfl (by kernel_rfl) ?_
                      refine fl_off 12 rfl rfl rfl rfl rfl rfl (by kernel_rfl) ?_
                      refine fl_offd 13 rfl rfl rfl rfl rfl rfl (by kernel_rfl) ?_
                      refine fl_eff1 14 [12, 10, 8, 7, 5, 4, 3, 2, 0] [6, 1] (by kernel_rfl) ⟨obl_off rfl rfl rfl rfl rfl rfl, obl_off rfl rfl rfl rfl rfl rfl, obl_on rfl rfl rfl rfl rfl (v_load rfl (st.reads (v := u64 a.bind.serial) 0 rfl TF.t24 rfl)), obl_ld rfl rfl rfl (v_load rfl (st.reads (v := .string (strB a.bind.name)) 0 rfl TF.t9 rfl)), trivial⟩ rfl ?_
                      refine wl_off rfl rfl rfl rfl ?_
                      refine wl_nil ⟨rfl, ?_⟩
                      refine fl_off 15 rfl rfl rfl rfl rfl rfl (by kernel_rfl) ?_
                      refine fl_val 16 rfl (fun _ => (v_pick rfl)) rfl (by kernel_rfl) ?_
                      refine fl_val 17 rfl (fun _ => (v_move' (by conv => (lhs; whnf)))) rfl (by kernel_rfl) ?_
                      refine fl_off 18 rfl rfl rfl rfl rfl rfl (by kernel_rfl) ?_
                      refine fl_offd 19 rfl rfl rfl rfl rfl rfl (by kernel_rfl) ?_
                      refine fl_offd 20 rfl rfl rfl rfl rfl rfl (by kernel_rfl) ?_
                      refine fl_offd 22 rfl rfl rfl rfl rfl rfl (by kernel_rfl) ?_
                      refine fl_eff1 21 [18, 16, 15, 12, 10, 8, 7, 5, 4, 3, 2, 0] [22, 6, 1] (by kernel_rfl) ⟨obl_off rfl rfl rfl rfl rfl rfl, obl_off rfl rfl rfl rfl rfl rfl, obl_off rfl rfl rfl rfl rfl rfl, obl_on rfl rfl rfl rfl rfl (v_load rfl (st.reads (v := u64 a.bind.serial) 0 rfl TF.t24 rfl)), obl_ld rfl rfl rfl (v_load rfl (st.reads (v := .string (strB a.bind.name)) 0 rfl TF.t9 rfl)), trivial⟩ rfl ?_
                      refine wl_off rfl rfl rfl rfl ?_
                      refine wl_nil ⟨rfl, ?_⟩
                      refine fl_off 23 rfl rfl rfl rfl rfl rfl (by kernel_rfl) ?_
                      refine fl_val 24 rfl (fun _ => (v_pick rfl)) rfl (by kernel_rfl) ?_
                      refine fl_nil (by kernel_rfl) ⟨obl_off rfl rfl rfl rfl rfl rfl, obl_on rfl rfl rfl rfl rfl (v_load rfl (st.reads (v := u64 a.bind.serial) 0 rfl TF.t24 rfl)), obl_ld rfl rfl rfl (v_load rfl (st.reads (v := .string (strB a.bind.name)) 0 rfl TF.t9 rfl)), trivial⟩ ?_
                      refine then_go ?_
                      refine wc_true rfl ?_
                      refine wc_seq ?_
                      refine wc_region ?_
                      refine wl_val (v_build (c' := (fdC fd0 (.slice none 0 0)).toArray) [] TF.z48 TF.p48 rfl rfl) rfl ?_
                      refine wl_storeW (cs := (fdC fd0 (.slice none 0 0)).toArray) 2 st rfl TF.t48 rfl rfl rfl rfl (one_fdC rfl) ?_
                      intro w st
                      refine wl_val (v_assign' (by conv => (lhs; whnf))) rfl ?_
                      refine wl_nil ?_
                      refine then_go ?_
                      refine wc_ret (then_ret ?_)
                      first
                        | (obtain ⟨q1, q2⟩ := ask_0 hyes hep hallT
                           exact ret2c rfl (st.reads (v := .agg (fdC ⟨e, true, a.bind⟩ (.slice ka a.bind.key.length kc)).toArray) 2 rfl TF.t48 (getV_all rfl)) rfl ((st.keepOnly (l := []) (List.nil_sublist _)).out ⟨_, by rw [q1]; rfl, by rw [q2, decide_eq_true hT]; exact ⟨_, rfl, hok.key, hok.name⟩⟩))
                        | (obtain ⟨q1, q2⟩ := ask_0 hyes hep hallF
                           exact ret2c rfl (st.reads (v := .agg (fdC ⟨e, false, bd0⟩ (.slice none 0 0)).toArray) 2 rfl TF.t48 (getV_all rfl)) rfl ((st.keepOnly (l := []) (List.nil_sublist _)).out ⟨_, by rw [q1]; rfl, by rw [q2, decide_eq_false hT, hb0]; exact ⟨_, rfl, SlM.nil, Nat.zero_le _⟩⟩))
                        | (have hno : ¬ askOk x name e a := by
                             intro hc
                             first
                               | exact hg2 (show chkE (rootAt x e) a.index a.proof = 0 by rw [chkE, if_pos hc.2.1])
                               | exact hg8 (show (a.epoch.toNat : Int) = (e.toNat : Int) by rw [hc.1])
                               | (have h5 := hc.2.2; rw [decide_eq_true hT, shownP, if_pos rfl] at h5; have h6 := h5.1; rw [h6] at h58; simp at h58; done)
                               | (have h5 := hc.2.2; rw [decide_eq_false hT, shownP, if_neg (by decide)] at h5; have h6 := h5.1; rw [h6] at h58; simp at h58; done)
                               | (have h5 := hc.2.2; rw [decide_eq_true hT, shownP, if_pos rfl] at h5; first | exact hN h5.2.1 | exact hS h5.2.2.1 | exact hC h5.2.2.2.1 | exact h100 h5.2.2.2.2)
                               | (have h5 := hc.2.2; rw [decide_eq_false hT, shownP, if_neg (by decide)] at h5; first | exact h72 h5.2.1 | (have h6 := h5.2.2; rw [decide_eq_true h6] at hg3; simp at hg3; done))
                           obtain ⟨q1, q2⟩ := ask_15 hyes hep hno
                           exact ret2c rfl (by first | exact st.reads 1 rfl TF.t48 (getV_all rfl) | exact st.reads 2 rfl TF.t48 (getV_all rfl)) rfl ((st.keepOnly (l := []) (List.nil_sublist _)).out ⟨_, by rw [q1]; rfl, by rw [q2]; exact fd0_M⟩))
                  · refine wc_draw TF.mixed ?_
                    have st := st.pure (touch_drew _)
                    refine fl_val 0 rfl (fun _ => (v_fa TF.f43_0 rfl)) rfl (by kernel_rfl) ?_
                    refine fl_ld 1 rfl (v_load rfl (st.reads (v := .string (strB a.bind.name)) 0 rfl TF.t9 rfl)) (by kernel_rfl) ?_
                    refine fl_val 2 rfl (fun _ => (v_move' (by conv => (lhs; whnf)))) rfl (by kernel_rfl) ?_
                    refine fl_val 3 rfl (fun _ => (v_to (v' := .bool true) (v_nes rfl rfl) (by rw [decide_eq_true hN]))) rfl (by kernel_rfl) ?_
                    refine fl_val 4 rfl (fun _ => (v_move' (by conv => (lhs; whnf)))) rfl (by kernel_rfl) ?_
                    refine fl_off 5 rfl rfl rfl rfl rfl rfl (by kernel_rfl) ?_
                    refine fl_offd 6 rfl rfl rfl rfl rfl rfl (by kernel_rfl) ?_
                    refine fl_off 7 rfl rfl rfl rfl rfl rfl (by kernel_rfl) ?_
                    refine fl_val 8 rfl (fun _ => (v_pick rfl)) rfl (by kernel_rfl) ?_
                    refine fl_val 9 rfl (fun _ => (v_move' (by conv => (lhs; whnf)))) rfl (by kernel_rfl) ?_
                    refine fl_off 10 rfl rfl rfl rfl rfl rfl (by kernel_rfl) ?_
                    refine fl_offd 11 rfl rfl rfl rfl rfl rfl (by kernel_rfl) ?_
                    refine fl_off 12 rfl rfl rfl rfl rfl rfl (by kernel_rfl) ?_
                    refine fl_offd 13 rfl rfl rfl rfl rfl rfl (by kernel_rfl) ?_
                    refine fl_eff1 14 [12, 10, 8, 7, 5, 4, 3, 2, 0] [6, 1] (by kernel_rfl) ⟨obl_off rfl rfl rfl rfl rfl rfl, obl_off rfl rfl rfl rfl rfl rfl, obl_off rfl rfl rfl rfl rfl rfl, obl_ld rfl rfl rfl (v_load rfl (st.reads (v := .string (strB a.bind.name)) 0 rfl TF.t9 rfl)), trivial⟩ rfl ?_
                    refine wl_off rfl rfl rfl rfl ?_
                    refine wl_nil ⟨rfl, ?_⟩
                    refine fl_off 15 rfl rfl rfl rfl rfl rfl (by kernel_rfl) ?_
                    refine fl_val 16 rfl (fun _ => (v_pick rfl)) rfl (by kernel_rfl) ?_
                    refine fl_val 17 rfl (fun _ => (v_move' (by conv => (lhs; whnf)))) rfl (by kernel_rfl) ?_
                    refine fl_off 18 rfl rfl rfl rfl rfl rfl (by kernel_rfl) ?_
                    refine fl_offd 19 rfl rfl rfl rfl rfl rfl (by kernel_rfl) ?_
                    refine fl_offd 20 rfl rfl rfl rfl rfl rfl (by kernel_rfl) ?_
                    refine fl_offd 22 rfl rfl rfl rfl rfl rfl (by kernel_rfl) ?_
                    refine fl_eff1 21 [18, 16, 15, 12, 10, 8, 7, 5, 4, 3, 2, 0] [22, 6, 1] (by kernel_rfl) ⟨obl_off rfl rfl rfl rfl rfl rfl, obl_off rfl rfl rfl rfl rfl rfl, obl_off rfl rfl rfl rfl rfl rfl, obl_off rfl rfl rfl rfl rfl rfl, obl_ld rfl rfl rfl (v_load rfl (st.reads (v := .string (strB a.bind.name)) 0 rfl TF.t9 rfl)), trivial⟩ rfl ?_
                    refine wl_off rfl rfl rfl rfl ?_
                    refine wl_nil ⟨rfl, ?_⟩
                    refine fl_off 23 rfl rfl rfl rfl rfl rfl (by kernel_rfl) ?_
                    refine fl_val 24 rfl (fun _ => (v_pick rfl)) rfl (by kernel_rfl) ?_
                    refine fl_nil (by kernel_rfl) ⟨obl_off rfl rfl rfl rfl rfl rfl, obl_off rfl rfl rfl rfl rfl rfl, obl_ld rfl rfl rfl (v_load rfl (st.reads (v := .string (strB a.bind.name)) 0 rfl TF.t9 rfl)), trivial⟩ ?_
                    refine then_go ?_
                    refine wc_true rfl ?_
                    refine wc_seq ?_
                    refine wc_region ?_
                    refine wl_val (v_build (c' := (fdC fd0 (.slice none 0 0)).toArray) [] TF.z48 TF.p48 rfl rfl) rfl ?_
                    refine wl_storeW (cs := (fdC fd0 (.slice none 0 0)).toArray) 2 st rfl TF.t48 rfl rfl rfl rfl (one_fdC rfl) ?_
                    intro w st
                    refine wl_val (v_assign' (by conv => (lhs; whnf))) rfl ?_
                    refine wl_nil ?_
                    refine then_go ?_
                    refine wc_ret (then_ret ?_)
                    first
                      | (obtain ⟨q1, q2⟩ := ask_0 hyes hep hallT
                         exact ret2c rfl (st.reads (v := .agg (fdC ⟨e, true, a.bind⟩ (.slice ka a.bind.key.length kc)).toArray) 2 rfl TF.t48 (getV_all rfl)) rfl ((st.keepOnly (l := []) (List.nil_sublist _)).out ⟨_, by rw [q1]; rfl, by rw [q2, decide_eq_true hT]; exact ⟨_, rfl, hok.key, hok.name⟩⟩))
                      | (obtain ⟨q1, q2⟩ := ask_0 hyes hep hallF
                         exact ret2c rfl (st.reads (v := .agg (fdC ⟨e, false, bd0⟩ (.slice none 0 0)).toArray) 2 rfl TF.t48 (getV_all rfl)) rfl ((st.keepOnly (l := []) (List.nil_sublist _)).out ⟨_, by rw [q1]; rfl, by rw [q2, decide_eq_false hT, hb0]; exact ⟨_, rfl, SlM.nil, Nat.zero_le _⟩⟩))
                      | (have hno : ¬ askOk x name e a := by
                           intro hc
                           first
                             | exact hg2 (show chkE (rootAt x e) a.index a.proof = 0 by rw [chkE, if_pos hc.2.1])
                             | exact hg8 (show (a.epoch.toNat : Int) = (e.toNat : Int) by rw [hc.1])
                             | (have h5 := hc.2.2; rw [decide_eq_true hT, shownP, if_pos rfl] at h5; have h6 := h5.1; rw [h6] at h58; simp at h58; done)
                             | (have h5 := hc.2.2; rw [decide_eq_false hT, shownP, if_neg (by decide)] at h5; have h6 := h5.1; rw [h6] at h58; simp at h58; done)
                             | (have h5 := hc.2.2; rw [decide_eq_true hT, shownP, if_pos rfl] at h5; first | exact hN h5.2.1 | exact hS h5.2.2.1 | exact hC h5.2.2.2.1 | exact h100 h5.2.2.2.2)
                             | (have h5 := hc.2.2; rw [decide_eq_false hT, shownP, if_neg (by decide)] at h5; first | exact h72 h5.2.1 | (have h6 := h5.2.2; rw [decide_eq_true h6] at hg3; simp at hg3; done))
                         obtain ⟨q1, q2⟩ := ask_15 hyes hep hno
                         exact ret2c rfl (by first | exact st.reads 1 rfl TF.t48 (getV_all rfl) | exact st.reads 2 rfl TF.t48 (getV_all rfl)) rfl ((st.keepOnly (l := []) (List.nil_sublist _)).out ⟨_, by rw [q1]; rfl, by rw [q2]; exact fd0_M⟩))
          · rw [show decide (chkT (rootAt x e) a.index a.proof) = false from decide_eq_false hT]
            refine wc_region ?_
            refine wl_val (v_move' (by conv => (lhs; whnf))) rfl ?_
            refine wl_val (v_neq rfl rfl) rfl ?_
            refine wl_val (v_move' (by conv => (lhs; whnf))) rfl ?_
            by_cases hg2 : ¬ chkE (rootAt x e) a.index a.proof = 0
            · rw [show decide (¬ chkE (rootAt x e) a.index a.proof = 0) = true from decide_eq_true hg2]
              refine wl_off rfl rfl rfl rfl ?_
              refine wl_off rfl rfl rfl rfl ?_
              refine wl_off rfl rfl rfl rfl ?_
              refine wl_off rfl rfl rfl rfl ?_
              refine wl_val (v_pick rfl) rfl ?_
              refine wl_val (v_move' (by conv => (lhs; whnf))) rfl ?_
              refine wl_off rfl rfl rfl rfl ?_
              refine wl_off rfl rfl rfl rfl ?_
              refine wl_off rfl rfl rfl rfl ?_
              refine wl_off rfl rfl rfl rfl ?_
              refine wl_val (v_pick rfl) rfl ?_
              refine wl_nil ?_
              refine then_go ?_
              refine wc_true rfl ?_
              refine wc_seq ?_
              refine wc_region ?_
              refine wl_val (v_build (c' := (fdC fd0 (.slice none 0 0)).toArray) [] TF.z48 TF.p48 rfl rfl) rfl ?_
              refine wl_storeW (cs := (fdC fd0 (.slice none 0 0)).toArray) 1 st rfl TF.t48 rfl rfl rfl rfl (one_fdC rfl) ?_
              intro w st
              refine wl_val (v_assign' (by conv => (lhs; whnf))) rfl ?_
              refine wl_nil ?_
              refine then_go ?_
              refine wc_ret (then_ret ?_)
              first
                | (obtain ⟨q1, q2⟩ := ask_0 hyes hep hallT
                   exact ret2c rfl (st.reads (v := .agg (fdC ⟨e, true, a.bind⟩ (.slice ka a.bind.key.length kc)).toArray) 2 rfl TF.t48 (getV_all rfl)) rfl ((st.keepOnly (l := []) (List.nil_sublist _)).out ⟨_, by rw [q1]; rfl, by rw [q2, decide_eq_true hT]; exact ⟨_, rfl, hok.key, hok.name⟩⟩))
                | (obtain ⟨q1, q2⟩ := ask_0 hyes hep hallF
                   exact ret2c rfl (st.reads (v := .agg (fdC ⟨e, false, bd0⟩ (.slice none 0 0)).toArray) 2 rfl TF.t48 (getV_all rfl)) rfl ((st.keepOnly (l := []) (List.nil_sublist _)).out ⟨_, by rw [q1]; rfl, by rw [q2, decide_eq_false hT, hb0]; exact ⟨_, rfl, SlM.nil, Nat.zero_le _⟩⟩))
                | (have hno : ¬ askOk x name e a := by
                     intro hc
                     first
                       | exact hg2 (show chkE (rootAt x e) a.index a.proof = 0 by rw [chkE, if_pos hc.2.1])
                       | exact hg8 (show (a.epoch.toNat : Int) = (e.toNat : Int) by rw [hc.1])
                       | (have h5 := hc.2.2; rw [decide_eq_true hT, shownP, if_pos rfl] at h5; have h6 := h5.1; rw [h6] at h58; simp at h58; done)
                       | (have h5 := hc.2.2; rw [decide_eq_false hT, shownP, if_neg (by decide)] at h5; have h6 := h5.1; rw [h6] at h58; simp at h58; done)
                       | (have h5 := hc.2.2; rw [decide_eq_true hT, shownP, if_pos rfl] at h5; first | exact hN h5.2.1 | exact hS h5.2.2.1 | exact hC h5.2.2.2.1 | exact h100 h5.2.2.2.2)
                       | (have h5 := hc.2.2; rw [decide_eq_false hT, shownP, if_neg (by decide)] at h5; first | exact h72 h5.2.1 | (have h6 := h5.2.2; rw [decide_eq_true h6] at hg3; simp at hg3; done))
                   obtain ⟨q1, q2⟩ := ask_15 hyes hep hno
                   exact ret2c rfl (by first | exact st.reads 1 rfl TF.t48 (getV_all rfl) | exact st.reads 2 rfl TF.t48 (getV_all rfl)) rfl ((st.keepOnly (l := []) (List.nil_sublist _)).out ⟨_, by rw [q1]; rfl, by rw [q2]; exact fd0_M⟩))
            · rw [show decide (¬ chkE (rootAt x e) a.index a.proof = 0) = false from decide_eq_false hg2]
              refine wl_on rfl rfl ?_
              refine wl_val (v_fa TF.f45_0 rfl) rfl ?_
              refine wl_on rfl rfl ?_
              refine wl_val (v_load rfl (st.reads (v := u64 a.epoch) 2 rfl TF.t24 aw_e)) rfl ?_
              refine wl_on rfl rfl ?_
              refine wl_val (v_move' (by conv => (lhs; whnf))) rfl ?_
              refine wl_on rfl rfl ?_
              refine wl_val (v_neq rfl rfl) rfl ?_
              refine wl_val (v_pick rfl) rfl ?_
              refine wl_val (v_move' (by conv => (lhs; whnf))) rfl ?_
              by_cases hg8 : ¬ (a.epoch.toNat : Int) = (e.toNat : Int)
              · rw [show decide (¬ (a.epoch.toNat : Int) = (e.toNat : Int)) = true from decide_eq_true hg8]
                refine wl_off rfl rfl rfl rfl ?_
                refine wl_off rfl rfl rfl rfl ?_
                refine wl_off rfl rfl rfl rfl ?_
                refine wl_off rfl rfl rfl rfl ?_
                refine wl_val (v_pick rfl) rfl ?_
                refine wl_nil ?_
                refine then_go ?_
                refine wc_true rfl ?_
                refine wc_seq ?_
                refine wc_region ?_
                refine wl_val (v_build (c' := (fdC fd0 (.slice none 0 0)).toArray) [] TF.z48 TF.p48 rfl rfl) rfl ?_
                refine wl_storeW (cs := (fdC fd0 (.slice none 0 0)).toArray) 1 st rfl TF.t48 rfl rfl rfl rfl (one_fdC rfl) ?_
                intro w st
                refine wl_val (v_assign' (by conv => (lhs; whnf))) rfl ?_
                refine wl_nil ?_
                refine then_go ?_
                refine wc_ret (then_ret ?_)
                first
                  | (obtain ⟨q1, q2⟩ := ask_0 hyes hep hallT
                     exact ret2c rfl (st.reads (v := .agg (fdC ⟨e, true, a.bind⟩ (.slice ka a.bind.key.length kc)).toArray) 2 rfl TF.t48 (getV_all rfl)) rfl ((st.keepOnly (l := []) (List.nil_sublist _)).out ⟨_, by rw [q1]; rfl, by rw [q2, decide_eq_true hT]; exact ⟨_, rfl, hok.key, hok.name⟩⟩))
                  | (obtain ⟨q1, q2⟩ := ask_0 hyes hep hallF
                     exact ret2c rfl (st.reads (v := .agg (fdC ⟨e, false, bd0⟩ (.slice none 0 0)).toArray) 2 rfl TF.t48 (getV_all rfl)) rfl ((st.keepOnly (l := []) (List.nil_sublist _)).out ⟨_, by rw [q1]; rfl, by rw [q2, decide_eq_false hT, hb0]; exact ⟨_, rfl, SlM.nil, Nat.zero_le _⟩⟩))
                  | (have hno : ¬ askOk x name e a := by
                       intro hc
                       first
                         | exact hg2 (show chkE (rootAt x e) a.index a.proof = 0 by rw [chkE, if_pos hc.2.1])
                         | exact hg8 (show (a.epoch.toNat : Int) = (e.toNat : Int) by rw [hc.1])
                         | (have h5 := hc.2.2; rw [decide_eq_true hT, shownP, if_pos rfl] at h5; have h6 := h5.1; rw [h6] at h58; simp at h58; done)
                         | (have h5 := hc.2.2; rw [decide_eq_false hT, shownP, if_neg (by decide)] at h5; have h6 := h5.1; rw [h6] at h58; simp at h58; done)
                         | (have h5 := hc.2.2; rw [decide_eq_true hT, shownP, if_pos rfl] at h5; first | exact hN h5.2.1 | exact hS h5.2.2.1 | exact hC h5.2.2.2.1 | exact h100 h5.2.2.2.2)
                         | (have h5 := hc.2.2; rw [decide_eq_false hT, shownP, if_neg (by decide)] at h5; first | exact h72 h5.2.1 | (have h6 := h5.2.2; rw [decide_eq_true h6] at hg3; simp at hg3; done))
                     obtain ⟨q1, q2⟩ := ask_15 hyes hep hno
                     exact ret2c rfl (by first | exact st.reads 1 rfl TF.t48 (getV_all rfl) | exact st.reads 2 rfl TF.t48 (getV_all rfl)) rfl ((st.keepOnly (l := []) (List.nil_sublist _)).out ⟨_, by rw [q1]; rfl, by rw [q2]; exact fd0_M⟩))
              · rw [show decide (¬ (a.epoch.toNat : Int) = (e.toNat : Int)) = false from decide_eq_false hg8]
                refine wl_on rfl rfl ?_
                refine wl_val (v_fa TF.f45_3 rfl) rfl ?_
                refine wl_on rfl rfl ?_
                refine wl_val (v_load rfl (st.reads (v := .bool a.there) 2 rfl TF.t4 (aw_t hok))) rfl ?_
                refine wl_on rfl rfl ?_
                refine wl_val (v_move' (by conv => (lhs; whnf))) rfl ?_
                refine wl_on rfl rfl ?_
                refine wl_val (v_to (v' := .bool a.there) (v_neb Try.underlying4 rfl rfl) (by cases a.there <;> rfl)) rfl ?_
                refine wl_val (v_pick rfl) rfl ?_
                refine wl_nil ?_
                refine then_go ?_
                refine wc_cond rfl (fun h58 => ?_) (fun h58 => ?_)
                · refine wc_seq ?_
                  refine wc_region ?_
                  refine wl_val (v_build (c' := (fdC fd0 (.slice none 0 0)).toArray) [] TF.z48 TF.p48 rfl rfl) rfl ?_
                  refine wl_storeW (cs := (fdC fd0 (.slice none 0 0)).toArray) 1 st rfl TF.t48 rfl rfl rfl rfl (one_fdC rfl) ?_
                  intro w st
                  refine wl_val (v_assign' (by conv => (lhs; whnf))) rfl ?_
                  refine wl_nil ?_
                  refine then_go ?_
                  refine wc_ret (then_ret ?_)
                  first
                    | (obtain ⟨q1, q2⟩ := ask_0 hyes hep hallT
                       exact ret2c rfl (st.reads (v := .agg (fdC ⟨e, true, a.bind⟩ (.slice ka a.bind.key.length kc)).toArray) 2 rfl TF.t48 (getV_all rfl)) rfl ((st.keepOnly (l := []) (List.nil_sublist _)).out ⟨_, by rw [q1]; rfl, by rw [q2, decide_eq_true hT]; exact ⟨_, rfl, hok.key, hok.name⟩⟩))
                    | (obtain ⟨q1, q2⟩ := ask_0 hyes hep hallF
                       exact ret2c rfl (st.reads (v := .agg (fdC ⟨e, false, bd0⟩ (.slice none 0 0)).toArray) 2 rfl TF.t48 (getV_all rfl)) rfl ((st.keepOnly (l := []) (List.nil_sublist _)).out ⟨_, by rw [q1]; rfl, by rw [q2, decide_eq_false hT, hb0]; exact ⟨_, rfl, SlM.nil, Nat.zero_le _⟩⟩))
                    | (have hno : ¬ askOk x name e a := by
                         intro hc
                         first
                           | exact hg2 (show chkE (rootAt x e) a.index a.proof = 0 by rw [chkE, if_pos hc.2.1])
                           | exact hg8 (show (a.epoch.toNat : Int) = (e.toNat : Int) by rw [hc.1])
                           | (have h5 := hc.2.2; rw [decide_eq_true hT, shownP, if_pos rfl] at h5; have h6 := h5.1; rw [h6] at h58; simp at h58; done)
                           | (have h5 := hc.2.2; rw [decide_eq_false hT, shownP, if_neg (by decide)] at h5; have h6 := h5.1; rw [h6] at h58; simp at h58; done)
                           | (have h5 := hc.2.2; rw [decide_eq_true hT, shownP, if_pos rfl] at h5; first | exact hN h5.2.1 | exact hS h5.2.2.1 | exact hC h5.2.2.2.1 | exact h100 h5.2.2.2.2)
                           | (have h5 := hc.2.2; rw [decide_eq_false hT, shownP, if_neg (by decide)] at h5; first | exact h72 h5.2.1 | (have h6 := h5.2.2; rw [decide_eq_true h6] at hg3; simp at hg3; done))
                       obtain ⟨q1, q2⟩ := ask_15 hyes hep hno
                       exact ret2c rfl (by first | exact st.reads 1 rfl TF.t48 (getV_all rfl) | exact st.reads 2 rfl TF.t48 (getV_all rfl)) rfl ((st.keepOnly (l := []) (List.nil_sublist _)).out ⟨_, by rw [q1]; rfl, by rw [q2]; exact fd0_M⟩))
                · refine wc_skip ?_
                  refine then_go ?_
                  refine wc_seq ?_
                  have hpr : provesP (rootAt x e) a.index a.proof := by
                    refine Decidable.byContradiction fun hc => hg2 ?_
                    rw [chkE, if_neg hc]
                    decide
                  have hae : a.epoch = e := UInt64.toNat_inj.1 (by omega)
                  refine wc_region ?_
                  refine wl_val (v_fa TF.f45_5 rfl) rfl ?_
                  refine wl_val (v_load rfl (st.reads (v := .agg (bdC a.bind (.slice ka a.bind.key.length kc)).toArray) 2 rfl TF.t43 (aw_b hok))) rfl ?_
                  refine wl_alloc TF.z43 st rfl ?_
                  intro b13 w st
                  refine wl_storeW (cs := (bdC a.bind (.slice ka a.bind.key.length kc)).toArray) 0 st rfl TF.t43 rfl rfl rfl rfl (fun u hu => by simp [bdC] at hu; rcases hu with rfl | rfl | rfl <;> rfl) ?_
                  intro w st
                  refine wl_nil ?_
                  refine then_go ?_
                  refine wc_seq ?_
                  refine wc_seq ?_
                  refine wc_region ?_
                  refine wl_val (v_move' (by conv => (lhs; whnf))) rfl ?_
                  refine wl_val (v_not rfl) rfl ?_
                  refine wl_nil ?_
                  refine then_go ?_
                  refine wc_true rfl ?_
                  refine wc_seq ?_
                  refine wc_seq ?_
                  refine wc_region ?_
                  refine wl_val (v_load rfl (st.reads (v := .agg (bdC a.bind (.slice ka a.bind.key.length kc)).toArray) 0 rfl TF.t43 (getV_all rfl))) rfl ?_
                  refine wl_call rfl (c_rzero st.im hbd) rfl ?_
                  rintro v65 w ⟨t65, rfl⟩
                  have st := st.pure t65
                  refine wl_val (v_not rfl) rfl ?_
                  refine wl_val (v_move' (by conv => (lhs; whnf))) rfl ?_
                  rcases Bool.eq_false_or_eq_true (!decide (a.bind.name = [] ∧ a.bind.key.length = 0 ∧ a.bind.serial = 0)) with hg3 | hg3
                  · rw [hg3]
                    refine wl_off rfl rfl rfl rfl ?_
                    refine wl_off rfl rfl rfl rfl ?_
                    refine wl_off rfl rfl rfl rfl ?_
                    refine wl_off rfl rfl rfl rfl ?_
                    refine wl_val (v_pick rfl) rfl ?_
                    refine wl_nil ?_
                    refine then_go ?_
                    refine wc_true rfl ?_
                    refine wc_seq ?_
                    refine wc_region ?_
                    refine wl_val (v_build (c' := (fdC fd0 (.slice none 0 0)).toArray) [] TF.z48 TF.p48 rfl rfl) rfl ?_
                    refine wl_storeW (cs := (fdC fd0 (.slice none 0 0)).toArray) 2 st rfl TF.t48 rfl rfl rfl rfl (one_fdC rfl) ?_
                    intro w st
                    refine wl_val (v_assign' (by conv => (lhs; whnf))) rfl ?_
                    refine wl_nil ?_
                    refine then_go ?_
                    refine wc_ret (then_ret (then_ret ?_))
                    first
                      | (obtain ⟨q1, q2⟩ := ask_0 hyes hep hallT
                         exact ret2c rfl (st.reads (v := .agg (fdC ⟨e, true, a.bind⟩ (.slice ka a.bind.key.length kc)).toArray) 2 rfl TF.t48 (getV_all rfl)) rfl ((st.keepOnly (l := []) (List.nil_sublist _)).out ⟨_, by rw [q1]; rfl, by rw [q2, decide_eq_true hT]; exact ⟨_, rfl, hok.key, hok.name⟩⟩))
                      | (obtain ⟨q1, q2⟩ := ask_0 hyes hep hallF
                         exact ret2c rfl (st.reads (v := .agg (fdC ⟨e, false, bd0⟩ (.slice none 0 0)).toArray) 2 rfl TF.t48 (getV_all rfl)) rfl ((st.keepOnly (l := []) (List.nil_sublist _)).out ⟨_, by rw [q1]; rfl, by rw [q2, decide_eq_false hT, hb0]; exact ⟨_, rfl, SlM.nil, Nat.zero_le _⟩⟩))
                      | (have hno : ¬ askOk x name e a := by
                           intro hc
                           first
                             | exact hg2 (show chkE (rootAt x e) a.index a.proof = 0 by rw [chkE, if_pos hc.2.1])
                             | exact hg8 (show (a.epoch.toNat : Int) = (e.toNat : Int) by rw [hc.1])
                             | (have h5 := hc.2.2; rw [decide_eq_true hT, shownP, if_pos rfl] at h5; have h6 := h5.1; rw [h6] at h58; simp at h58; done)
                             | (have h5 := hc.2.2; rw [decide_eq_false hT, shownP, if_neg (by decide)] at h5; have h6 := h5.1; rw [h6] at h58; simp at h58; done)
                             | (have h5 := hc.2.2; rw [decide_eq_true hT, shownP, if_pos rfl] at h5; first | exact hN h5.2.1 | exact hS h5.2.2.1 | exact hC h5.2.2.2.1 | exact h100 h5.2.2.2.2)
                             | (have h5 := hc.2.2; rw [decide_eq_false hT, shownP, if_neg (by decide)] at h5; first | exact h72 h5.2.1 | (have h6 := h5.2.2; rw [decide_eq_true h6] at hg3; simp at hg3; done))
                         obtain ⟨q1, q2⟩ := ask_15 hyes hep hno
                         exact ret2c rfl (by first | exact st.reads 1 rfl TF.t48 (getV_all rfl) | exact st.reads 2 rfl TF.t48 (getV_all rfl)) rfl ((st.keepOnly (l := []) (List.nil_sublist _)).out ⟨_, by rw [q1]; rfl, by rw [q2]; exact fd0_M⟩))
                  · rw [hg3]
                    refine wl_on rfl rfl ?_
                    refine wl_val (v_fa TF.f45_4 rfl) rfl ?_
                    refine wl_on rfl rfl ?_
                    refine wl_val (v_load rfl (st.reads (v := arr a.salt) 3 rfl TF.t23 (aw_s hok))) rfl ?_
                    refine wl_on rfl rfl ?_
                    refine wl_val v_z32 rfl ?_
                    refine wl_on rfl rfl ?_
                    refine wl_val (v_neD rfl rfl hok.salt rfl) rfl ?_
                    refine wl_val (v_pick rfl) rfl ?_
                    refine wl_nil ?_
                    refine then_go ?_
                    refine wc_if rfl (fun h72 => ?_) (fun h72 => ?_)
                    · refine wc_seq ?_
                      refine wc_region ?_
                      refine wl_val (v_build (c' := (fdC fd0 (.slice none 0 0)).toArray) [] TF.z48 TF.p48 rfl rfl) rfl ?_
                      refine wl_storeW (cs := (fdC fd0 (.slice none 0 0)).toArray) 2 st rfl TF.t48 rfl rfl rfl rfl (one_fdC rfl) ?_
                      intro w st
                      refine wl_val (v_assign' (by conv => (lhs; whnf))) rfl ?_
                      refine wl_nil ?_
                      refine then_go ?_
                      refine wc_ret (then_ret (then_ret ?_))
                      first
                        | (obtain ⟨q1, q2⟩ := ask_0 hyes hep hallT
                           exact ret2c rfl (st.reads (v := .agg (fdC ⟨e, true, a.bind⟩ (.slice ka a.bind.key.length kc)).toArray) 2 rfl TF.t48 (getV_all rfl)) rfl ((st.keepOnly (l := []) (List.nil_sublist _)).out ⟨_, by rw [q1]; rfl, by rw [q2, decide_eq_true hT]; exact ⟨_, rfl, hok.key, hok.name⟩⟩))
                        | (obtain ⟨q1, q2⟩ := ask_0 hyes hep hallF
                           exact ret2c rfl (st.reads (v := .agg (fdC ⟨e, false, bd0⟩ (.slice none 0 0)).toArray) 2 rfl TF.t48 (getV_all rfl)) rfl ((st.keepOnly (l := []) (List.nil_sublist _)).out ⟨_, by rw [q1]; rfl, by rw [q2, decide_eq_false hT, hb0]; exact ⟨_, rfl, SlM.nil, Nat.zero_le _⟩⟩))
                        | (have hno : ¬ askOk x name e a := by
                             intro hc
                             first
                               | exact hg2 (show chkE (rootAt x e) a.index a.proof = 0 by rw [chkE, if_pos hc.2.1])
                               | exact hg8 (show (a.epoch.toNat : Int) = (e.toNat : Int) by rw [hc.1])
                               | (have h5 := hc.2.2; rw [decide_eq_true hT, shownP, if_pos rfl] at h5; have h6 := h5.1; rw [h6] at h58; simp at h58; done)
                               | (have h5 := hc.2.2; rw [decide_eq_false hT, shownP, if_neg (by decide)] at h5; have h6 := h5.1; rw [h6] at h58; simp at h58; done)
                               | (have h5 := hc.2.2; rw [decide_eq_true hT, shownP, if_pos rfl] at h5; first | exact hN h5.2.1 | exact hS h5.2.2.1 | exact hC h5.2.2.2.1 | exact h100 h5.2.2.2.2)
                               | (have h5 := hc.2.2; rw [decide_eq_false hT, shownP, if_neg (by decide)] at h5; first | exact h72 h5.2.1 | (have h6 := h5.2.2; rw [decide_eq_true h6] at hg3; simp at hg3; done))
                           obtain ⟨q1, q2⟩ := ask_15 hyes hep hno
                           exact ret2c rfl (by first | exact st.reads 1 rfl TF.t48 (getV_all rfl) | exact st.reads 2 rfl TF.t48 (getV_all rfl)) rfl ((st.keepOnly (l := []) (List.nil_sublist _)).out ⟨_, by rw [q1]; rfl, by rw [q2]; exact fd0_M⟩))
                    · refine wc_skip ?_
                      refine then_go ?_
                      refine wc_seq ?_
                      have hz : a.bind.name = [] ∧ a.bind.key.length = 0 ∧ a.bind.serial = 0 := by simpa using hg3
                      have hb0 := bd0_of hz.1 hz.2.1 hz.2.2
                      have hallF : askOk x name e a := ⟨hae, hpr, by rw [decide_eq_false hT, shownP, if_neg (by decide)]; exact ⟨by simpa using h58, Decidable.not_not.1 h72, hz⟩⟩
                      refine wc_region ?_
                      refine wl_val (v_move' (by conv => (lhs; whnf))) rfl ?_
                      refine wl_val (v_build (c' := (fdC ⟨e, false, bd0⟩ (.slice none 0 0)).toArray) [(0, u64 e)] TF.z48 TF.p48 rfl fill_fd1) rfl ?_
                      refine wl_storeW (cs := (fdC ⟨e, false, bd0⟩ (.slice none 0 0)).toArray) 2 st rfl TF.t48 rfl rfl rfl rfl (one_fdC rfl) ?_
                      intro w st
                      refine wl_val (v_assign' (by conv => (lhs; whnf))) rfl ?_
                      refine wl_nil ?_
                      refine then_go ?_
                      refine wc_ret (then_ret ?_)
                      first
                        | (obtain ⟨q1, q2⟩ := ask_0 hyes hep hallT
                           exact ret2c rfl (st.reads (v := .agg (fdC ⟨e, true, a.bind⟩ (.slice ka a.bind.key.length kc)).toArray) 2 rfl TF.t48 (getV_all rfl)) rfl ((st.keepOnly (l := []) (List.nil_sublist _)).out ⟨_, by rw [q1]; rfl, by rw [q2, decide_eq_true hT]; exact ⟨_, rfl, hok.key, hok.name⟩⟩))
                        | (obtain ⟨q1, q2⟩ := ask_0 hyes hep hallF
                           exact ret2c rfl (st.reads (v := .agg (fdC ⟨e, false, bd0⟩ (.slice none 0 0)).toArray) 2 rfl TF.t48 (getV_all rfl)) rfl ((st.keepOnly (l := []) (List.nil_sublist _)).out ⟨_, by rw [q1]; rfl, by rw [q2, decide_eq_false hT, hb0]; exact ⟨_, rfl, SlM.nil, Nat.zero_le _⟩⟩))
                        | (have hno : ¬ askOk x name e a := by
                             intro hc
                             first
                               | exact hg2 (show chkE (rootAt x e) a.index a.proof = 0 by rw [chkE, if_pos hc.2.1])
                               | exact hg8 (show (a.epoch.toNat : Int) = (e.toNat : Int) by rw [hc.1])
                               | (have h5 := hc.2.2; rw [decide_eq_true hT, shownP, if_pos rfl] at h5; have h6 := h5.1; rw [h6] at h58; simp at h58; done)
                               | (have h5 := hc.2.2; rw [decide_eq_false hT, shownP, if_neg (by decide)] at h5; have h6 := h5.1; rw [h6] at h58; simp at h58; done)
                               | (have h5 := hc.2.2; rw [decide_eq_true hT, shownP, if_pos rfl] at h5; first | exact hN h5.2.1 | exact hS h5.2.2.1 | exact hC h5.2.2.2.1 | exact h100 h5.2.2.2.2)
                               | (have h5 := hc.2.2; rw [decide_eq_false hT, shownP, if_neg (by decide)] at h5; first | exact h72 h5.2.1 | (have h6 := h5.2.2; rw [decide_eq_true h6] at hg3; simp at hg3; done))
                           obtain ⟨q1, q2⟩ := ask_15 hyes hep hno
                           exact ret2c rfl (by first | exact st.reads 1 rfl TF.t48 (getV_all rfl) | exact st.reads 2 rfl TF.t48 (getV_all rfl)) rfl ((st.keepOnly (l := []) (List.nil_sublist _)).out ⟨_, by rw [q1]; rfl, by rw [q2]; exact fd0_M⟩))
        refine fl_val 0 rfl (fun _ => (v_fa TF.f29_2 rfl)) rfl (by kernel_rfl) ?_
        refine fl_ld 1 rfl (v_load rfl (by first | exact st.reads (v := .slice (some ⟨rb, ro, none⟩) x.roots.length rc) (b := b4) (c := (vwC x.pin x.head (.slice (some ⟨rb, ro, none⟩) x.roots.length rc)).toArray) 2 rfl TF.t27 (vw_r hp hh) | exact st.reads (v := .slice (some ⟨rb, ro, none⟩) x.roots.length rc) (b := b4) (c := (vwC x.pin x.head (.slice (some ⟨rb, ro, none⟩) x.roots.length rc)).toArray) 3 rfl TF.t27 (vw_r hp hh))) (by kernel_rfl) ?_
        refine fl_val 2 rfl (fun _ => (v_move' (by conv => (lhs; whnf)))) rfl (by kernel_rfl) ?_
        refine fl_val 3 rfl (fun _ => (v_to (v' := .int .u64 ((e.toNat - 1 : Nat) : Int)) (v_sub rfl rfl) (by rw [show ((e.toNat : Int) - 1) = ((e.toNat - 1 : Nat) : Int) by omega, wrap_u64_small (by omega)]))) rfl (by kernel_rfl) ?_
        refine fl_val 4 rfl (fun _ => (v_ias (e.toNat - 1) Try.underlying27 TF.t55 rfl rfl (by first | rfl | omega) (by first | omega | (dsimp only at *; omega)))) rfl (by kernel_rfl) ?_
        refine fl_val 5 rfl (fun _ => (v_fa TF.f55_2 rfl)) rfl (by kernel_rfl) ?_
        refine fl_ld 6 rfl (v_load rfl (hrt.rd (v' := arr (rootAt x e)) rfl hj (by decide) TF.t23 (by rw [hroot]; exact (getRt hok1).2.1) st.im)) (by kernel_rfl) ?_
        refine fl_val 7 rfl (fun _ => (v_fa TF.f45_1 rfl)) rfl (by kernel_rfl) ?_
        refine fl_ld 8 rfl (v_load rfl (by first | exact st.reads (v := arr a.index) (b := b7) (c := (awC a sv (.slice ka a.bind.key.length kc)).toArray) 1 rfl TF.t23 (aw_i hok) | exact st.reads (v := arr a.index) (b := b7) (c := (awC a sv (.slice ka a.bind.key.length kc)).toArray) 2 rfl TF.t23 (aw_i hok))) (by kernel_rfl) ?_
        refine fl_val 9 rfl (fun _ => (v_fa TF.f45_2 rfl)) rfl (by kernel_rfl) ?_
        refine fl_ld 10 rfl (v_load rfl (by first | exact st.reads (v := .agg (prC sv a.proof.E a.proof.I a.proof.V)) (b := b7) (c := (awC a sv (.slice ka a.bind.key.length kc)).toArray) 1 rfl TF.t40 (aw_p hok) | exact st.reads (v := .agg (prC sv a.proof.E a.proof.I a.proof.V)) (b := b7) (c := (awC a sv (.slice ka a.bind.key.length kc)).toArray) 2 rfl TF.t40 (aw_p hok))) (by kernel_rfl) ?_
        refine fl_effs [11, 16] (by kernel_rfl) ⟨obl_ld rfl rfl rfl (v_load rfl (by first | exact st.reads (v := .agg (prC sv a.proof.E a.proof.I a.proof.V)) (b := b7) (c := (awC a sv (.slice ka a.bind.key.length kc)).toArray) 1 rfl TF.t40 (aw_p hok) | exact st.reads (v := .agg (prC sv a.proof.E a.proof.I a.proof.V)) (b := b7) (c := (awC a sv (.slice ka a.bind.key.length kc)).toArray) 2 rfl TF.t40 (aw_p hok))), obl_ld rfl rfl rfl (v_load rfl (by first | exact st.reads (v := arr a.index) (b := b7) (c := (awC a sv (.slice ka a.bind.key.length kc)).toArray) 1 rfl TF.t23 (aw_i hok) | exact st.reads (v := arr a.index) (b := b7) (c := (awC a sv (.slice ka a.bind.key.length kc)).toArray) 2 rfl TF.t23 (aw_i hok))), obl_ld rfl rfl rfl (v_load rfl (hrt.rd (v' := arr (rootAt x e)) rfl hj (by decide) TF.t23 (by rw [hroot]; exact (getRt hok1).2.1) st.im)), obl_ld rfl rfl rfl (v_load rfl (by first | exact st.reads (v := .slice (some ⟨rb, ro, none⟩) x.roots.length rc) (b := b4) (c := (vwC x.pin x.head (.slice (some ⟨rb, ro, none⟩) x.roots.length rc)).toArray) 2 rfl TF.t27 (vw_r hp hh) | exact st.reads (v := .slice (some ⟨rb, ro, none⟩) x.roots.length rc) (b := b4) (c := (vwC x.pin x.head (.slice (some ⟨rb, ro, none⟩) x.roots.length rc)).toArray) 3 rfl TF.t27 (vw_r hp hh))), trivial⟩ (all2 ?_ ?_)
        · refine stepE 11 (pure' := [9, 7, 5, 4, 3, 2, 0]) (lds' := [1]) rfl (by kernel_rfl) (by kernel_rfl) ?_
          refine wl_call rfl (c_rpcheck st.im hrl hok.idx ⟨_, rfl, hok.sibs, hok.pI, hok.pV⟩) rfl ?_
          rintro v45 w ⟨t45, m2, hg2, hi2, rfl⟩
          have st := st.grown hg2 t45 hi2
          have hok := hok.mono hg2.le
          have hrt := hrt.mono hg2.le
          refine wl_nil ⟨rfl, ?_⟩
          refine fl_val 12 rfl (fun _ => (v_move' (by conv => (lhs; whnf)))) rfl (by kernel_rfl) ?_
          refine fl_val 13 rfl (fun _ => (v_extract rfl rfl)) rfl (by kernel_rfl) ?_
          refine fl_val 14 rfl (fun _ => (v_extract rfl rfl)) rfl (by kernel_rfl) ?_
          refine fl_val 15 rfl (fun _ => (v_extract rfl rfl)) rfl (by kernel_rfl) ?_
          refine fl_eff1 16 [15, 14, 13, 12, 9, 7, 5, 4, 3, 2, 0] [1] (by kernel_rfl) ⟨obl_ld rfl rfl rfl (v_load rfl (by first | exact st.reads (v := .slice (some ⟨rb, ro, none⟩) x.roots.length rc) (b := b4) (c := (vwC x.pin x.head (.slice (some ⟨rb, ro, none⟩) x.roots.length rc)).toArray) 2 rfl TF.t27 (vw_r hp hh) | exact st.reads (v := .slice (some ⟨rb, ro, none⟩) x.roots.length rc) (b := b4) (c := (vwC x.pin x.head (.slice (some ⟨rb, ro, none⟩) x.roots.length rc)).toArray) 3 rfl TF.t27 (vw_r hp hh))), trivial⟩ rfl ?_
          refine wl_alloc TF.z23 st rfl ?_
          intro b10 w st
          refine wl_nil ⟨rfl, ?_⟩
          refine FL.permB [16, 15, 14, 13, 12, 11, 10, 9, 8, 7, 6, 5, 4, 3, 2, 1, 0] [15, 14, 13, 12, 9, 7, 5, 4, 3, 2, 0] [1] (by kernel_rfl) ?_
          exact fin _ _ _ _ rfl rfl rfl rfl rfl rfl rfl rfl rfl rfl rfl hok st
        · refine stepE 16 (pure' := [9, 7, 5, 4, 3, 2, 0]) (lds' := [10, 8, 6, 1]) rfl (by kernel_rfl) (by kernel_rfl) ?_
          refine wl_alloc TF.z23 st rfl ?_
          intro b10 w st
          refine wl_nil ⟨rfl, ?_⟩
          refine fl_eff1 11 [9, 7, 5, 4, 3, 2, 0] [1] (by kernel_rfl) ⟨obl_ld rfl rfl rfl (v_load rfl (by first | exact st.reads (v := .agg (prC sv a.proof.E a.proof.I a.proof.V)) (b := b7) (c := (awC a sv (.slice ka a.bind.key.length kc)).toArray) 1 rfl TF.t40 (aw_p hok) | exact st.reads (v := .agg (prC sv a.proof.E a.proof.I a.proof.V)) (b := b7) (c := (awC a sv (.slice ka a.bind.key.length kc)).toArray) 2 rfl TF.t40 (aw_p hok))), obl_ld rfl rfl rfl (v_load rfl (by first | exact st.reads (v := arr a.index) (b := b7) (c := (awC a sv (.slice ka a.bind.key.length kc)).toArray) 1 rfl TF.t23 (aw_i hok) | exact st.reads (v := arr a.index) (b := b7) (c := (awC a sv (.slice ka a.bind.key.length kc)).toArray) 2 rfl TF.t23 (aw_i hok))), obl_ld rfl rfl rfl (v_load rfl (hrt.rd (v' := arr (rootAt x e)) rfl hj (by decide) TF.t23 (by rw [hroot]; exact (getRt hok1).2.1) st.im)), obl_ld rfl rfl rfl (v_load rfl (by first | exact st.reads (v := .slice (some ⟨rb, ro, none⟩) x.roots.length rc) (b := b4) (c := (vwC x.pin x.head (.slice (some ⟨rb, ro, none⟩) x.roots.length rc)).toArray) 2 rfl TF.t27 (vw_r hp hh) | exact st.reads (v := .slice (some ⟨rb, ro, none⟩) x.roots.length rc) (b := b4) (c := (vwC x.pin x.head (.slice (some ⟨rb, ro, none⟩) x.roots.length rc)).toArray) 3 rfl TF.t27 (vw_r hp hh))), trivial⟩ rfl ?_
          refine wl_call rfl (c_rpcheck st.im hrl hok.idx ⟨_, rfl, hok.sibs, hok.pI, hok.pV⟩) rfl ?_
          rintro v45 w ⟨t45, m2, hg2, hi2, rfl⟩
          have st := st.grown hg2 t45 hi2
          have hok := hok.mono hg2.le
          have hrt := hrt.mono hg2.le
          refine wl_nil ⟨rfl, ?_⟩
          refine fl_val 12 rfl (fun _ => (v_move' (by conv => (lhs; whnf)))) rfl (by kernel_rfl) ?_
          refine fl_val 13 rfl (fun _ => (v_extract rfl rfl)) rfl (by kernel_rfl) ?_
          refine fl_val 14 rfl (fun _ => (v_extract rfl rfl)) rfl (by kernel_rfl) ?_
          refine fl_val 15 rfl (fun _ => (v_extract rfl rfl)) rfl (by kernel_rfl) ?_
          refine FL.permB [16, 15, 14, 13, 12, 11, 10, 9, 8, 7, 6, 5, 4, 3, 2, 1, 0] [15, 14, 13, 12, 9, 7, 5, 4, 3, 2, 0] [1] (by kernel_rfl) ?_
          exact fin _ _ _ _ rfl rfl rfl rfl rfl rfl rfl rfl rfl rfl rfl hok st
end
end Go.Proofs.Ytjjpakjgppmmdaa

/-
  What is alike of bindings and of what is found; which answers are light; that the program works.
-/
namespace Go.Proofs.Ytjjpakjgppmmdaa
open Go Go.RowKit K SH PT

theorem learnG_len : ∀ {L : List Sg} {x : Vw}, (∀ s ∈ L, s.root.ok) → (learnG x L).1.roots.length ≤ x.roots.length + L.length
  | [], x, _ => by simp [learnG]
  | s :: L, x, h => by
    rw [learnG]
    split
    · have h1 : (lrnV x s).roots.length ≤ x.roots.length + 1 := by
        unfold lrnV
        split
        · omega
        · simp
      have h2 := learnG_len (L := L) (x := lrnV x s) fun y hy => h y (by simp [hy])
      rw [List.length_cons]
      omega
    · simp [vw0]

theorem str_inj {a b : By} : strB a = strB b ↔ a = b := by
  constructor
  · intro h
    have := congrArg ByteArray.toList h
    rwa [strB_toList, strB_toList] at this
  · intro h; rw [h]

theorem Bd.eq_of {a b : Bd} (h1 : a.name = b.name) (h2 : (a.serial.toNat : Int) = (b.serial.toNat : Int)) (h3 : a.key = b.key) : a = b := by
  obtain ⟨an, ak, az⟩ := a
  obtain ⟨bn, bk, bz⟩ := b
  have h4 : az = bz := UInt64.toNat_inj.1 (Int.ofNat_inj.1 h2)
  simp at h1 h3
  rw [h1, h3, h4]
theorem Fd.eq_of {a b : Fd} (h1 : (a.epoch.toNat : Int) = (b.epoch.toNat : Int)) (h2 : (a.there == b.there) = true) (h3 : a.bind = b.bind) : a = b := by
  obtain ⟨an, ak, az⟩ := a
  obtain ⟨bn, bk, bz⟩ := b
  have h4 : an = bn := UInt64.toNat_inj.1 (Int.ofNat_inj.1 h1)
  simp at h2 h3
  rw [h2, h3, h4]

section
variable {m : Mem} {wI : World}

theorem c_samebind {v1 v2 : Value} {a b : Bd} (him : Im m wI) (h1 : BdM m v1 a) (h2 : BdM m v2 b) :
    Ret Try.prog 57 #[v1, v2] wI fun v' w' => Tch wI w' [] [] ∧ v' = .bool (decide (a = b)) := by
  have st := St.start him
  obtain ⟨kv, rfl, hk, hn⟩ := h1
  obtain ⟨kw, rfl, hl, hm⟩ := h2
  refine ret_of Try.call57 Try.func57 rfl Try.ntmps57 Try.results57 rfl ?_
  refine wc_seq ?_
  refine wc_region ?_
  refine wl_box (v := .agg (bdC a kv).toArray) rfl st rfl ?_
  intro b2 w st
  refine wl_box (v := .agg (bdC b kw).toArray) rfl st rfl ?_
  intro b3 w st
  refine wl_val (v_assign' (by conv => (lhs; whnf))) rfl ?_
  refine wl_nil ?_
  refine then_go ?_
  refine wc_seq ?_
  refine wc_region ?_
  refine wl_val (v_fa TF.f43_0 rfl) rfl ?_
  refine wl_val (v_load rfl (st.reads (v := .string (strB a.name)) 1 rfl TF.t9 rfl)) rfl ?_
  refine wl_val (v_fa TF.f43_0 rfl) rfl ?_
  refine wl_val (v_load rfl (st.reads (v := .string (strB b.name)) 0 rfl TF.t9 rfl)) rfl ?_
  refine wl_val (v_eqs rfl rfl) rfl ?_
  refine wl_val (v_move' (by conv => (lhs; whnf))) rfl ?_
  by_cases hg5 : a.name = b.name
  · rw [show decide (a.name = b.name) = true from decide_eq_true hg5]
    refine wl_on rfl rfl ?_
    refine wl_val (v_fa TF.f43_2 rfl) rfl ?_
    refine wl_on rfl rfl ?_
    refine wl_val (v_load rfl (st.reads (v := u64 a.serial) 1 rfl TF.t24 rfl)) rfl ?_
    refine wl_on rfl rfl ?_
    refine wl_val (v_fa TF.f43_2 rfl) rfl ?_
    refine wl_on rfl rfl ?_
    refine wl_val (v_load rfl (st.reads (v := u64 b.serial) 0 rfl TF.t24 rfl)) rfl ?_
    refine wl_on rfl rfl ?_
    refine wl_val (v_eql rfl rfl) rfl ?_
    refine wl_val (v_pick rfl) rfl ?_
    refine wl_val (v_move' (by conv => (lhs; whnf))) rfl ?_
    by_cases hg12 : (a.serial.toNat : Int) = (b.serial.toNat : Int)
    · rw [show decide ((a.serial.toNat : Int) = (b.serial.toNat : Int)) = true from decide_eq_true hg12]
      refine wl_on rfl rfl ?_
      refine wl_val (v_fa TF.f43_1 rfl) rfl ?_
      refine wl_on rfl rfl ?_
      refine wl_val (v_load rfl (st.reads (v := kv) 1 rfl TF.t41 rfl)) rfl ?_
      refine wl_on rfl rfl ?_
      refine wl_val (v_b2s Try.underlying41 Try.underlying5 Try.underlying9 st.im hk rfl) rfl ?_
      refine wl_on rfl rfl ?_
      refine wl_val (v_fa TF.f43_1 rfl) rfl ?_
      refine wl_on rfl rfl ?_
      refine wl_val (v_load rfl (st.reads (v := kw) 0 rfl TF.t41 rfl)) rfl ?_
      refine wl_on rfl rfl ?_
      refine wl_val (v_b2s Try.underlying41 Try.underlying5 Try.underlying9 st.im hl rfl) rfl ?_
      refine wl_on rfl rfl ?_
      refine wl_val (v_eqs rfl rfl) rfl ?_
      refine wl_val (v_pick rfl) rfl ?_
      refine wl_val (v_assign' (by conv => (lhs; whnf))) rfl ?_
      refine wl_nil ?_
      refine then_go ?_
      refine wc_ret ?_
      refine ret1 rfl ⟨(st.keepOnly (l := []) (List.nil_sublist _)).touch, ?_⟩
      first
        | (have e : decide (a = b) = decide (a.key = b.key) := decide_eq_decide.2 ⟨fun h => by rw [h], fun h => Bd.eq_of hg5 hg12 h⟩
           rw [e]; rfl)
        | (rw [show decide (a = b) = false from decide_eq_false (fun hc => by first | exact hg5 (show a.name = b.name by rw [hc]) | exact hg12 (show (a.serial.toNat : Int) = (b.serial.toNat : Int) by rw [hc]))]; rfl)
    · rw [show decide ((a.serial.toNat : Int) = (b.serial.toNat : Int)) = false from decide_eq_false hg12]
      refine wl_off rfl rfl rfl rfl ?_
      refine wl_off rfl rfl rfl rfl ?_
      refine wl_off rfl rfl rfl rfl ?_
      refine wl_off rfl rfl rfl rfl ?_
      refine wl_off rfl rfl rfl rfl ?_
      refine wl_off rfl rfl rfl rfl ?_
      refine wl_off rfl rfl rfl rfl ?_
      refine wl_val (v_pick rfl) rfl ?_
      refine wl_val (v_assign' (by conv => (lhs; whnf))) rfl ?_
      refine wl_nil ?_
      refine then_go ?_
      refine wc_ret ?_
      refine ret1 rfl ⟨(st.keepOnly (l := []) (List.nil_sublist _)).touch, ?_⟩
      first
        | (have e : decide (a = b) = decide (a.key = b.key) := decide_eq_decide.2 ⟨fun h => by rw [h], fun h => Bd.eq_of hg5 hg12 h⟩
           rw [e]; rfl)
        | (rw [show decide (a = b) = false from decide_eq_false (fun hc => by first | exact hg5 (show a.name = b.name by rw [hc]) | exact hg12 (show (a.serial.toNat : Int) = (b.serial.toNat : Int) by rw [hc]))]; rfl)
  · rw [show decide (a.name = b.name) = false from decide_eq_false hg5]
    refine wl_off rfl rfl rfl rfl ?_
    refine wl_off rfl rfl rfl rfl ?_
    refine wl_off rfl rfl rfl rfl ?_
    refine wl_off rfl rfl rfl rfl ?_
    refine wl_off rfl rfl rfl rfl ?_
    refine wl_val (v_pick rfl) rfl ?_
    refine wl_val (v_move' (by conv => (lhs; whnf))) rfl ?_
    refine wl_off rfl rfl rfl rfl ?_
    refine wl_off rfl rfl rfl rfl ?_
    refine wl_off rfl rfl rfl rfl ?_
    refine wl_off rfl rfl rfl rfl ?_
    refine wl_off rfl rfl rfl rfl ?_
    refine wl_off rfl rfl rfl rfl ?_
    refine wl_off rfl rfl rfl rfl ?_
    refine wl_val (v_pick rfl) rfl ?_
    refine wl_val (v_assign' (by conv => (lhs; whnf))) rfl ?_
    refine wl_nil ?_
    refine then_go ?_
    refine wc_ret ?_
    refine ret1 rfl ⟨(st.keepOnly (l := []) (List.nil_sublist _)).touch, ?_⟩
    first
      | (have e : decide (a = b) = decide (a.key = b.key) := decide_eq_decide.2 ⟨fun h => by rw [h], fun h => Bd.eq_of hg5 hg12 h⟩
         rw [e]; rfl)
      | (rw [show decide (a = b) = false from decide_eq_false (fun hc => by first | exact hg5 (show a.name = b.name by rw [hc]) | exact hg12 (show (a.serial.toNat : Int) = (b.serial.toNat : Int) by rw [hc]))]; rfl)

theorem fdB {f : Fd} {kv : Value} : getV true 3 (fdC f kv).toArray 2 = some (.agg (bdC f.bind kv).toArray) := rfl

theorem c_samefound {v1 v2 : Value} {a b : Fd} (him : Im m wI) (h1 : FdM m v1 a) (h2 : FdM m v2 b) :
    Ret Try.prog 22 #[v1, v2] wI fun v' w' => Tch wI w' [] [] ∧ v' = .bool (decide (a = b)) := by
  have st := St.start him
  obtain ⟨kv, rfl, hk, hn⟩ := h1
  obtain ⟨kw, rfl, hl, hm⟩ := h2
  refine ret_of Try.call22 Try.func22 rfl Try.ntmps22 Try.results22 rfl ?_
  refine wc_seq ?_
  refine wc_region ?_
  refine wl_box (v := .agg (fdC a kv).toArray) rfl st rfl ?_
  intro b2 w st
  refine wl_box (v := .agg (fdC b kw).toArray) rfl st rfl ?_
  intro b3 w st
  refine wl_val (v_assign' (by conv => (lhs; whnf))) rfl ?_
  refine wl_nil ?_
  refine then_go ?_
  refine wc_seq ?_
  refine wc_region ?_
  refine wl_val (v_fa TF.f48_0 rfl) rfl ?_
  refine wl_val (v_load rfl (st.reads (v := u64 a.epoch) 1 rfl TF.t24 rfl)) rfl ?_
  refine wl_val (v_fa TF.f48_0 rfl) rfl ?_
  refine wl_val (v_load rfl (st.reads (v := u64 b.epoch) 0 rfl TF.t24 rfl)) rfl ?_
  refine wl_val (v_eql rfl rfl) rfl ?_
  refine wl_val (v_move' (by conv => (lhs; whnf))) rfl ?_
  by_cases hg5 : (a.epoch.toNat : Int) = (b.epoch.toNat : Int)
  · rw [show decide ((a.epoch.toNat : Int) = (b.epoch.toNat : Int)) = true from decide_eq_true hg5]
    refine wl_on rfl rfl ?_
    refine wl_val (v_fa TF.f48_1 rfl) rfl ?_
    refine wl_on rfl rfl ?_
    refine wl_val (v_load rfl (st.reads (v := .bool a.there) 1 rfl TF.t4 rfl)) rfl ?_
    refine wl_on rfl rfl ?_
    refine wl_val (v_fa TF.f48_1 rfl) rfl ?_
    refine wl_on rfl rfl ?_
    refine wl_val (v_load rfl (st.reads (v := .bool b.there) 0 rfl TF.t4 rfl)) rfl ?_
    refine wl_on rfl rfl ?_
    refine wl_val (v_eqb Try.underlying4 rfl rfl) rfl ?_
    refine wl_val (v_pick rfl) rfl ?_
    refine wl_val (v_move' (by conv => (lhs; whnf))) rfl ?_
    rcases Bool.eq_false_or_eq_true (a.there == b.there) with hg12 | hg12
    · rw [hg12]
      refine wl_on rfl rfl ?_
      refine wl_val (v_fa TF.f48_2 rfl) rfl ?_
      refine wl_on rfl rfl ?_
      refine wl_val (v_load rfl (st.reads (v := .agg (bdC a.bind kv).toArray) 1 rfl TF.t43 fdB)) rfl ?_
      refine wl_on rfl rfl ?_
      refine wl_val (v_fa TF.f48_2 rfl) rfl ?_
      refine wl_on rfl rfl ?_
      refine wl_val (v_load rfl (st.reads (v := .agg (bdC b.bind kw).toArray) 0 rfl TF.t43 fdB)) rfl ?_
      refine wl_on rfl rfl ?_
      refine wl_call rfl (c_samebind st.im ⟨_, rfl, hk, hn⟩ ⟨_, rfl, hl, hm⟩) rfl ?_
      rintro v22 w ⟨t22, rfl⟩
      have st := st.pure t22
      refine wl_val (v_pick rfl) rfl ?_
      refine wl_val (v_assign' (by conv => (lhs; whnf))) rfl ?_
      refine wl_nil ?_
      refine then_go ?_
      refine wc_ret ?_
      refine ret1 rfl ⟨(st.keepOnly (l := []) (List.nil_sublist _)).touch, ?_⟩
      first
        | (have e : decide (a = b) = decide (a.bind = b.bind) := decide_eq_decide.2 ⟨fun h => by rw [h], fun h => Fd.eq_of hg5 hg12 h⟩
           rw [e]; rfl)
        | (rw [show decide (a = b) = false from decide_eq_false (fun hc => by first | exact hg5 (show (a.epoch.toNat : Int) = (b.epoch.toNat : Int) by rw [hc]) | (rw [hc] at hg12; simp at hg12; done))]; rfl)
    · rw [hg12]
      refine wl_off rfl rfl rfl rfl ?_
      refine wl_off rfl rfl rfl rfl ?_
      refine wl_off rfl rfl rfl rfl ?_
      refine wl_off rfl rfl rfl rfl ?_
      refine wl_off rfl rfl rfl rfl ?_
      refine wl_val (v_pick rfl) rfl ?_
      refine wl_val (v_assign' (by conv => (lhs; whnf))) rfl ?_
      refine wl_nil ?_
      refine then_go ?_
      refine wc_ret ?_
      refine ret1 rfl ⟨(st.keepOnly (l := []) (List.nil_sublist _)).touch, ?_⟩
      first
        | (have e : decide (a = b) = decide (a.bind = b.bind) := decide_eq_decide.2 ⟨fun h => by rw [h], fun h => Fd.eq_of hg5 hg12 h⟩
           rw [e]; rfl)
        | (rw [show decide (a = b) = false from decide_eq_false (fun hc => by first | exact hg5 (show (a.epoch.toNat : Int) = (b.epoch.toNat : Int) by rw [hc]) | (rw [hc] at hg12; simp at hg12; done))]; rfl)
  · rw [show decide ((a.epoch.toNat : Int) = (b.epoch.toNat : Int)) = false from decide_eq_false hg5]
    refine wl_off rfl rfl rfl rfl ?_
    refine wl_off rfl rfl rfl rfl ?_
    refine wl_off rfl rfl rfl rfl ?_
    refine wl_off rfl rfl rfl rfl ?_
    refine wl_off rfl rfl rfl rfl ?_
    refine wl_val (v_pick rfl) rfl ?_
    refine wl_val (v_move' (by conv => (lhs; whnf))) rfl ?_
    refine wl_off rfl rfl rfl rfl ?_
    refine wl_off rfl rfl rfl rfl ?_
    refine wl_off rfl rfl rfl rfl ?_
    refine wl_off rfl rfl rfl rfl ?_
    refine wl_off rfl rfl rfl rfl ?_
    refine wl_val (v_pick rfl) rfl ?_
    refine wl_val (v_assign' (by conv => (lhs; whnf))) rfl ?_
    refine wl_nil ?_
    refine then_go ?_
    refine wc_ret ?_
    refine ret1 rfl ⟨(st.keepOnly (l := []) (List.nil_sublist _)).touch, ?_⟩
    first
      | (have e : decide (a = b) = decide (a.bind = b.bind) := decide_eq_decide.2 ⟨fun h => by rw [h], fun h => Fd.eq_of hg5 hg12 h⟩
         rw [e]; rfl)
      | (rw [show decide (a = b) = false from decide_eq_false (fun hc => by first | exact hg5 (show (a.epoch.toNat : Int) = (b.epoch.toNat : Int) by rw [hc]) | (rw [hc] at hg12; simp at hg12; done))]; rfl)

theorem c_light {v : Value} {a : Aw} (him : Im m wI) (ha : AwM m v a) :
    Ret Try.prog 19 #[v] wI fun v' w' => Tch wI w' [] [] ∧ ∃ b : Bool, v' = .bool b ∧ (b = true → a.proof.S.length ≤ 300 ∧ a.bind.key.length ≤ 2000 ∧ a.bind.name.length ≤ 2000) := by
  have st := St.start him
  obtain ⟨sv, kv, rfl, hok⟩ := ha
  obtain ⟨sa, sc, rfl⟩ := hok.sibs.sl
  obtain ⟨_, ka, kc, rfl, _⟩ := id hok.key
  refine ret_of Try.call19 Try.func19 rfl Try.ntmps19 Try.results19 rfl ?_
  refine wc_seq ?_
  refine wc_region ?_
  refine wl_box (v := .agg (awC a (.slice sa a.proof.S.length sc) (.slice ka a.bind.key.length kc)).toArray) rfl st rfl ?_
  intro b1 w st
  refine wl_val (v_assign' (by conv => (lhs; whnf))) rfl ?_
  refine wl_nil ?_
  refine then_go ?_
  refine wc_seq ?_
  refine wc_region ?_
  refine wl_val (v_fa TF.f45_2 rfl) rfl ?_
  refine wl_val (v_fa TF.f40_0 rfl) rfl ?_
  refine wl_val (v_load rfl (st.reads (v := .slice sa a.proof.S.length sc) 0 rfl TF.t38 (aw_ps hok))) rfl ?_
  refine wl_val (v_len_s Try.underlying38 rfl) rfl ?_
  refine wl_val (v_leq rfl rfl) rfl ?_
  refine wl_val (v_move' (by conv => (lhs; whnf))) rfl ?_
  by_cases hg5 : (a.proof.S.length : Int) ≤ 300
  · rw [show decide ((a.proof.S.length : Int) ≤ 300) = true from decide_eq_true hg5]
    refine wl_on rfl rfl ?_
    refine wl_val (v_fa TF.f45_5 rfl) rfl ?_
    refine wl_on rfl rfl ?_
    refine wl_val (v_fa TF.f43_1 rfl) rfl ?_
    refine wl_on rfl rfl ?_
    refine wl_val (v_load rfl (st.reads (v := .slice ka a.bind.key.length kc) 0 rfl TF.t41 (aw_bk hok))) rfl ?_
    refine wl_on rfl rfl ?_
    refine wl_val (v_len_s Try.underlying41 rfl) rfl ?_
    refine wl_on rfl rfl ?_
    refine wl_val (v_leq rfl rfl) rfl ?_
    refine wl_val (v_pick rfl) rfl ?_
    refine wl_val (v_move' (by conv => (lhs; whnf))) rfl ?_
    by_cases hg12 : (a.bind.key.length : Int) ≤ 2000
    · rw [show decide ((a.bind.key.length : Int) ≤ 2000) = true from decide_eq_true hg12]
      refine wl_on rfl rfl ?_
      refine wl_val (v_fa TF.f45_5 rfl) rfl ?_
      refine wl_on rfl rfl ?_
      refine wl_val (v_fa TF.f43_0 rfl) rfl ?_
      refine wl_on rfl rfl ?_
      refine wl_val (v_load rfl (st.reads (v := .string (strB a.bind.name)) 0 rfl TF.t9 (aw_bn hok))) rfl ?_
      refine wl_on rfl rfl ?_
      refine wl_val (v_len_str Try.underlying9 rfl) rfl ?_
      refine wl_on rfl rfl ?_
      refine wl_val (v_leq rfl rfl) rfl ?_
      refine wl_val (v_pick rfl) rfl ?_
      refine wl_val (v_assign' (by conv => (lhs; whnf))) rfl ?_
      refine wl_nil ?_
      refine then_go ?_
      refine wc_ret ?_
      refine ret1 rfl ⟨(st.keepOnly (l := []) (List.nil_sublist _)).touch, _, rfl, fun h => ?_⟩
      first
        | (have h2 : ((strB a.bind.name).size : Int) ≤ 2000 := of_decide_eq_true h
           rw [strB_size] at h2
           exact ⟨by omega, by omega, by omega⟩)
        | (cases h)
    · rw [show decide ((a.bind.key.length : Int) ≤ 2000) = false from decide_eq_false hg12]
      refine wl_off rfl rfl rfl rfl ?_
      refine wl_off rfl rfl rfl rfl ?_
      refine wl_off rfl rfl rfl rfl ?_
      refine wl_off rfl rfl rfl rfl ?_
      refine wl_off rfl rfl rfl rfl ?_
      refine wl_val (v_pick rfl) rfl ?_
      refine wl_val (v_assign' (by conv => (lhs; whnf))) rfl ?_
      refine wl_nil ?_
      refine then_go ?_
      refine wc_ret ?_
      refine ret1 rfl ⟨(st.keepOnly (l := []) (List.nil_sublist _)).touch, _, rfl, fun h => ?_⟩
      first
        | (have h2 : ((strB a.bind.name).size : Int) ≤ 2000 := of_decide_eq_true h
           rw [strB_size] at h2
           exact ⟨by omega, by omega, by omega⟩)
        | (cases h)
  · rw [show decide ((a.proof.S.length : Int) ≤ 300) = false from decide_eq_false hg5]
    refine wl_off rfl rfl rfl rfl ?_
    refine wl_off rfl rfl rfl rfl ?_
    refine wl_off rfl rfl rfl rfl ?_
    refine wl_off rfl rfl rfl rfl ?_
    refine wl_off rfl rfl rfl rfl ?_
    refine wl_val (v_pick rfl) rfl ?_
    refine wl_val (v_move' (by conv => (lhs; whnf))) rfl ?_
    refine wl_off rfl rfl rfl rfl ?_
    refine wl_off rfl rfl rfl rfl ?_
    refine wl_off rfl rfl rfl rfl ?_
    refine wl_off rfl rfl rfl rfl ?_
    refine wl_off rfl rfl rfl rfl ?_
    refine wl_val (v_pick rfl) rfl ?_
    refine wl_val (v_assign' (by conv => (lhs; whnf))) rfl ?_
    refine wl_nil ?_
    refine then_go ?_
    refine wc_ret ?_
    refine ret1 rfl ⟨(st.keepOnly (l := []) (List.nil_sublist _)).touch, _, rfl, fun h => ?_⟩
    first
      | (have h2 : ((strB a.bind.name).size : Int) ≤ 2000 := of_decide_eq_true h
         rw [strB_size] at h2
         exact ⟨by omega, by omega, by omega⟩)
      | (cases h)
end
end Go.Proofs.Ytjjpakjgppmmdaa

/-
  Arguments opened: digests, lists of them, fields, lists of parts.
-/
namespace Go.Proofs.Ytjjpakjgppmmdaa
open Go Go.RowKit Go.ChangeShapes Go.WideShapes K SH PT

theorem all_u8 : ∀ {cs : List Value}, (∀ i, i < cs.length → ∃ b : UInt8, cs[i]? = some (u8 b)) → ∃ l : List UInt8, cs = bs l
  | [], _ => ⟨[], rfl⟩
  | c :: cs, h => by
    obtain ⟨b, hb⟩ := h 0 (by simp)
    obtain ⟨l, hl⟩ := all_u8 (cs := cs) fun i hi => by
      have := h (i + 1) (by simp; exact hi)
      simpa using this
    refine ⟨b :: l, ?_⟩
    simp only [List.getElem?_cons_zero, Option.some.injEq] at hb
    rw [hb, hl]
    rfl

section
variable {H : Type} {enc : TypeId × Value → H} {w : World} {sp : Nat → Bool} {held : Bool} {fuel : Nat} {x : DataW H × List MemPlace} {v : Value}

theorem trod_dig {cs : List Value} (h : DataW.trod enc Try.prog w 0 sp held fuel 23 cs = some x) : ∃ l : List UInt8, cs = bs l ∧ l.length = 32 := by
  obtain ⟨xs, m, _, _, hl, hxl, hf⟩ := DataW.trod_array Try.underlying23 h
  rw [TF.t23.cells] at hl
  rw [TF.t5.cells] at hf
  obtain ⟨l, rfl⟩ := all_u8 (cs := cs) fun i hi => by
    have hi' : i < cs.length := hi
    have e := hf i (by omega)
    rw [List.getElem?_eq_getElem (by omega)] at e
    have ec : (cs.drop (i * 1)).take 1 = [cs[i]] := by rw [Nat.mul_one, List.drop_eq_getElem_cons hi]; rfl
    rw [ec] at e
    obtain ⟨a, q, _, wf⟩ := DataW.trod_int Try.underlying5 e
    rw [List.cons.injEq] at q
    simp only [Lit.wf, Bool.and_eq_true, decide_eq_true_eq] at wf
    have h1 : 0 ≤ a := wf.1
    have h2 : a ≤ 255 := wf.2
    refine ⟨UInt8.ofNat a.toNat, ?_⟩
    rw [List.getElem?_eq_getElem hi, q.1]
    simp only [u8, Option.some.injEq, Value.int.injEq, true_and]
    rw [UInt8.toNat_ofNat']
    omega
  exact ⟨l, rfl, by rw [length_bs] at hl; exact hl⟩

set_option maxRecDepth 100000 in
theorem open_dig {W : World} {r : Reach} {base : Nat} {d : DataW H} {p : List MemPlace} (hv : Value.okWide Try.prog W r base 23 v) (h : DataW.Trod enc Try.prog w 0 sp held 23 v d p) : ∃ l : List UInt8, v = arr l ∧ l.length = 32 := by
  simp only [Value.okWide, Try.underlying23] at hv
  obtain ⟨cs, rfl, _, _⟩ := hv
  obtain ⟨fu, hf⟩ := h
  obtain ⟨l, hl, h32⟩ := trod_dig hf
  refine ⟨l, ?_, h32⟩
  unfold arr
  rw [← hl]
  simp [Value.cells]

theorem open_digs (h : DataW.trod enc Try.prog w 0 sp held fuel 38 [v] = some x) : ∃ L : List (List UInt8), DigM (heapM w) v L ∧ L.length ≤ 9223372036854775807 := by
  obtain ⟨k, X, hS, hk, hX⟩ := trod_SlM Try.underlying38 (by rw [TF.t23.cells]; decide) h
  rw [TF.t23.cells] at hS hX
  have all : ∀ k', k' ≤ k → ∃ L : List (List UInt8), L.length = k' ∧ (List.range k').flatMap X = digs L ∧ D32 L := by
    intro k'
    induction k' with
    | zero => intro _; exact ⟨[], rfl, rfl, by simp [D32]⟩
    | succ k' ih =>
      intro hk'
      obtain ⟨L, h1, h2, h3⟩ := ih (by omega)
      obtain ⟨_, n, y, hy⟩ := hX k' (by omega)
      obtain ⟨l, hl, h32⟩ := trod_dig hy
      refine ⟨L ++ [l], by simp [h1], ?_, h3.app (D32.one h32)⟩
      rw [List.range_succ, List.flatMap_append, h2, digs_app, digs_one]
      simp [hl]
  obtain ⟨L, h1, h2, h3⟩ := all k (Nat.le_refl _)
  rw [h2] at hS
  subst h1
  exact ⟨L, ⟨h3, hS⟩, by omega⟩


/-- The cells of a field. -/
theorem trod_seg {S f off F size bytes : Nat} {agg : Bool} {cs : List Value} (hf : FdOff Try.prog S f off F) (tf : TyF Try.prog F agg size bytes) (h : DataW.trod enc Try.prog w 0 sp held fuel S cs = some x) :
    ∃ n y, DataW.trod enc Try.prog w 0 sp held n F ((cs.drop off).take size) = some y := by
  obtain ⟨fs, fl, hS, hfl, rfl, rfl, _⟩ := hf
  obtain ⟨xs, n, _, _, _, hxl, hh⟩ := DataW.trod_struct hS h
  have hlt : f < fs.size := by
    rcases Nat.lt_or_ge f fs.size with h' | h'
    · exact h'
    · rw [Array.getElem?_eq_none h'] at hfl; cases hfl
  have e := hh f fl hfl
  rw [tf.cells, List.getElem?_eq_getElem (by omega)] at e
  exact ⟨n, _, e⟩
theorem trod_len {S size bytes : Nat} {agg : Bool} {fs : Array Field} {cs : List Value} (hS : Try.prog.underlying S = some (.struct fs)) (tf : TyF Try.prog S agg size bytes) (h : DataW.trod enc Try.prog w 0 sp held fuel S cs = some x) : cs.length = size := by
  obtain ⟨xs, n, _, _, hl, _⟩ := DataW.trod_struct hS h
  rw [tf.cells] at hl
  exact hl
theorem trod_u64 {cs : List Value} (h : DataW.trod enc Try.prog w 0 sp held fuel 24 cs = some x) : ∃ n : UInt64, cs = [u64 n] := by
  obtain ⟨a, q, _, wf⟩ := DataW.trod_int Try.underlying24 h
  simp only [Lit.wf, Bool.and_eq_true, decide_eq_true_eq] at wf
  have h1 : 0 ≤ a := wf.1
  have h2 : a ≤ 18446744073709551615 := wf.2
  refine ⟨UInt64.ofNat a.toNat, ?_⟩
  rw [q]
  simp only [u64, List.cons.injEq, Value.int.injEq, true_and, and_true]
  rw [UInt64.toNat_ofNat']
  omega
theorem trod_bo {cs : List Value} (h : DataW.trod enc Try.prog w 0 sp held fuel 4 cs = some x) : ∃ b, cs = [.bool b] := by
  obtain ⟨b, q, _⟩ := DataW.trod_bool Try.underlying4 h
  exact ⟨b, q⟩
theorem trod_i64 {cs : List Value} (h : DataW.trod enc Try.prog w 0 sp held fuel 3 cs = some x) : ∃ a, cs = [.int .i64 a] := by
  obtain ⟨a, q, _, _⟩ := DataW.trod_int Try.underlying3 h
  exact ⟨a, q⟩
theorem trod_str {cs : List Value} (h : DataW.trod enc Try.prog w 0 sp held fuel 9 cs = some x) : ∃ s : By, cs = [.string (strB s)] ∧ s.length ≤ 9223372036854775807 := by
  obtain ⟨s, q, _, hs⟩ := DataW.trod_string Try.underlying9 h
  exact ⟨s.data.toList, by rw [q]; rfl, by unfold maxLen at hs; simpa using hs⟩

/-- A slice of parts. -/
theorem trod_list {α : Type} {c : α → List Value} {Q : α → Prop} {T E : TypeId} {agg : Bool} {size bytes : Nat} (hT : Try.prog.underlying T = some (.slice E)) (tf : TyF Try.prog E agg size bytes) (hs : 0 < size)
    (one : ∀ {n : Nat} {y : DataW H × List MemPlace} {cs : List Value}, DataW.trod enc Try.prog w 0 sp held n E cs = some y → ∃ a, cs = c a ∧ Q a)
    (h : DataW.trod enc Try.prog w 0 sp held fuel T [v] = some x) : ∃ L : List α, LsM (heapM w) v c size L ∧ (∀ a ∈ L, Q a) ∧ L.length ≤ 9223372036854775807 := by
  obtain ⟨k, X, hS, hk, hX⟩ := trod_SlM hT (by rw [tf.cells]; exact hs) h
  rw [tf.cells] at hS hX
  have all : ∀ k', k' ≤ k → ∃ L : List α, L.length = k' ∧ (List.range k').flatMap X = L.flatMap c ∧ ∀ a ∈ L, Q a ∧ (c a).length = size := by
    intro k'
    induction k' with
    | zero => intro _; exact ⟨[], rfl, rfl, by simp⟩
    | succ k' ih =>
      intro hk'
      obtain ⟨L, h1, h2, h3⟩ := ih (by omega)
      obtain ⟨hl, n, y, hy⟩ := hX k' (by omega)
      obtain ⟨a, ha, hq⟩ := one hy
      refine ⟨L ++ [a], by simp [h1], ?_, fun b hb => ?_⟩
      · rw [List.range_succ, List.flatMap_append, h2, List.flatMap_append]
        simp [ha]
      · rcases List.mem_append.1 hb with hb | hb
        · exact h3 b hb
        · rw [List.mem_singleton.1 hb]; exact ⟨hq, by rw [← ha]; exact hl⟩
  obtain ⟨L, h1, h2, h3⟩ := all k (Nat.le_refl _)
  rw [h2] at hS
  subst h1
  exact ⟨L, ⟨hS, fun a ha => (h3 a ha).2⟩, fun a ha => (h3 a ha).1, by omega⟩

set_option maxRecDepth 100000 in
/-- A struct's value, whole. -/
theorem open_struct {W : World} {r : Reach} {base : Nat} {d : DataW H} {p : List MemPlace} {T : TypeId} {fs : Array Field} (hT : Try.prog.underlying T = some (.struct fs)) (hv : Value.okWide Try.prog W r base T v) (h : DataW.Trod enc Try.prog w 0 sp held T v d p) :
    ∃ cs n y, v = .agg (List.toArray cs) ∧ DataW.trod enc Try.prog w 0 sp held n T cs = some y := by
  obtain ⟨cs, rfl, _⟩ := okWide_struct hT hv
  obtain ⟨fu, hf⟩ := h
  exact ⟨cs.toList, fu, _, by simp, hf⟩

theorem trodAll_five {P : Program} {base : Nat} {spare : Nat → Bool} {t t1 t2 t3 t4 : TypeId} {args : Array Value} {ds : List (DataW H)} {ps : List MemPlace} (h : DataW.TrodAll enc P w base spare held [t, t1, t2, t3, t4] args.toList ds ps) :
    ∃ v v1 v2 v3 v4 d d1 d2 d3 d4 p p1 p2 p3 p4, args = #[v, v1, v2, v3, v4] ∧ ds = [d, d1, d2, d3, d4] ∧ ps = p ++ p1 ++ p2 ++ p3 ++ p4 ∧ DataW.Trod enc P w base spare held t v d p ∧ DataW.Trod enc P w base spare held t1 v1 d1 p1 ∧ DataW.Trod enc P w base spare held t2 v2 d2 p2 ∧ DataW.Trod enc P w base spare held t3 v3 d3 p3 ∧ DataW.Trod enc P w base spare held t4 v4 d4 p4 := by
  obtain ⟨v, vs, d, ds0, p, q, hargs, rfl, rfl, hd, h⟩ := trodAll_cons h
  obtain ⟨v1, vs1, d1, ds1, p1, q1, rfl, rfl, rfl, hd1, h⟩ := trodAll_cons h
  obtain ⟨v2, vs2, d2, ds2, p2, q2, rfl, rfl, rfl, hd2, h⟩ := trodAll_cons h
  obtain ⟨v3, vs3, d3, ds3, p3, q3, rfl, rfl, rfl, hd3, h⟩ := trodAll_cons h
  obtain ⟨v4, vs4, d4, ds4, p4, q4, rfl, rfl, rfl, hd4, h⟩ := trodAll_cons h
  obtain ⟨rfl, rfl, rfl⟩ := trodAll_nil h
  exact ⟨v, v1, v2, v3, v4, d, d1, d2, d3, d4, p, p1, p2, p3, p4, by cases args; simp_all, rfl, by simp, hd, hd1, hd2, hd3, hd4⟩

theorem trodAll_four {P : Program} {base : Nat} {spare : Nat → Bool} {t t1 t2 t3 : TypeId} {args : Array Value} {ds : List (DataW H)} {ps : List MemPlace} (h : DataW.TrodAll enc P w base spare held [t, t1, t2, t3] args.toList ds ps) :
    ∃ v v1 v2 v3 d d1 d2 d3 p p1 p2 p3, args = #[v, v1, v2, v3] ∧ ds = [d, d1, d2, d3] ∧ ps = p ++ p1 ++ p2 ++ p3 ∧ DataW.Trod enc P w base spare held t v d p ∧ DataW.Trod enc P w base spare held t1 v1 d1 p1 ∧ DataW.Trod enc P w base spare held t2 v2 d2 p2 ∧ DataW.Trod enc P w base spare held t3 v3 d3 p3 := by
  obtain ⟨v, vs, d, ds0, p, q, hargs, rfl, rfl, hd, h⟩ := trodAll_cons h
  obtain ⟨v1, vs1, d1, ds1, p1, q1, rfl, rfl, rfl, hd1, h⟩ := trodAll_cons h
  obtain ⟨v2, vs2, d2, ds2, p2, q2, rfl, rfl, rfl, hd2, h⟩ := trodAll_cons h
  obtain ⟨v3, vs3, d3, ds3, p3, q3, rfl, rfl, rfl, hd3, h⟩ := trodAll_cons h
  obtain ⟨rfl, rfl, rfl⟩ := trodAll_nil h
  exact ⟨v, v1, v2, v3, d, d1, d2, d3, p, p1, p2, p3, by cases args; simp_all, rfl, by simp, hd, hd1, hd2, hd3⟩

theorem trodAll_six {P : Program} {base : Nat} {spare : Nat → Bool} {t t1 t2 t3 t4 t5 : TypeId} {args : Array Value} {ds : List (DataW H)} {ps : List MemPlace} (h : DataW.TrodAll enc P w base spare held [t, t1, t2, t3, t4, t5] args.toList ds ps) :
    ∃ v v1 v2 v3 v4 v5 d d1 d2 d3 d4 d5 p p1 p2 p3 p4 p5, args = #[v, v1, v2, v3, v4, v5] ∧ ds = [d, d1, d2, d3, d4, d5] ∧ ps = p ++ p1 ++ p2 ++ p3 ++ p4 ++ p5 ∧ DataW.Trod enc P w base spare held t v d p ∧ DataW.Trod enc P w base spare held t1 v1 d1 p1 ∧ DataW.Trod enc P w base spare held t2 v2 d2 p2 ∧ DataW.Trod enc P w base spare held t3 v3 d3 p3 ∧ DataW.Trod enc P w base spare held t4 v4 d4 p4 ∧ DataW.Trod enc P w base spare held t5 v5 d5 p5 := by
  obtain ⟨v, vs, d, ds0, p, q, hargs, rfl, rfl, hd, h⟩ := trodAll_cons h
  obtain ⟨v1, vs1, d1, ds1, p1, q1, rfl, rfl, rfl, hd1, h⟩ := trodAll_cons h
  obtain ⟨v2, vs2, d2, ds2, p2, q2, rfl, rfl, rfl, hd2, h⟩ := trodAll_cons h
  obtain ⟨v3, vs3, d3, ds3, p3, q3, rfl, rfl, rfl, hd3, h⟩ := trodAll_cons h
  obtain ⟨v4, vs4, d4, ds4, p4, q4, rfl, rfl, rfl, hd4, h⟩ := trodAll_cons h
  obtain ⟨v5, vs5, d5, ds5, p5, q5, rfl, rfl, rfl, hd5, h⟩ := trodAll_cons h
  obtain ⟨rfl, rfl, rfl⟩ := trodAll_nil h
  exact ⟨v, v1, v2, v3, v4, v5, d, d1, d2, d3, d4, d5, p, p1, p2, p3, p4, p5, by cases args; simp_all, rfl, by simp, hd, hd1, hd2, hd3, hd4, hd5⟩
end
end Go.Proofs.Ytjjpakjgppmmdaa

/-
  Views, roots, answers, found things: opened from what the row hands.
-/
namespace Go.Proofs.Ytjjpakjgppmmdaa
open Go Go.RowKit Go.ChangeShapes Go.WideShapes K SH PT

theorem seg_app {α : Type} {cs rest : List α} (o k o' : Nat) (h : o + k = o') (hr : rest = cs.drop o') : (cs.drop o).take k ++ rest = cs.drop o := by
  rw [hr, ← h, ← List.drop_drop, List.take_append_drop]
theorem seg_end {α : Type} {cs : List α} (o k : Nat) (h : cs.length = o + k) : (cs.drop o).take k = cs.drop o := List.take_of_length_le (by simp; omega)
theorem seg_one {α : Type} {cs : List α} (o : Nat) (h : o < cs.length) : ∃ v, (cs.drop o).take 1 = [v] := ⟨cs[o], by rw [List.drop_eq_getElem_cons h]; rfl⟩

section
variable {H : Type} {enc : TypeId × Value → H} {w : World} {sp : Nat → Bool} {held : Bool} {fuel : Nat} {x : DataW H × List MemPlace} {v : Value} {cs : List Value}

theorem trod_root (h : DataW.trod enc Try.prog w 0 sp held fuel 55 cs = some x) : ∃ t : Rt, cs = rtC t ∧ t.ok := by
  have hl := trod_len Try.underlying55 TF.t55 h
  obtain ⟨_, _, e0⟩ := trod_seg TF.f55_0 TF.t24 h
  obtain ⟨_, _, e1⟩ := trod_seg TF.f55_1 TF.t23 h
  obtain ⟨_, _, e2⟩ := trod_seg TF.f55_2 TF.t23 h
  obtain ⟨_, _, e3⟩ := trod_seg TF.f55_3 TF.t23 h
  obtain ⟨e, q0⟩ := trod_u64 e0
  obtain ⟨a, q1, ha⟩ := trod_dig e1
  obtain ⟨b, q2, hb⟩ := trod_dig e2
  obtain ⟨c, q3, hc⟩ := trod_dig e3
  have hcs := (seg_app (cs := cs) 0 1 1 rfl (seg_app 1 32 33 rfl (seg_app 33 32 65 rfl (seg_end 65 32 hl)))).symm
  rw [q0, q1, q2, q3] at hcs
  exact ⟨⟨e, a, b, c⟩, hcs, ha, hb, hc⟩

theorem trod_head (h : DataW.trod enc Try.prog w 0 sp held fuel 26 cs = some x) : ∃ t : Hd, cs = hdC t ∧ t.ok := by
  have hl := trod_len Try.underlying26 TF.t26 h
  obtain ⟨_, _, e0⟩ := trod_seg TF.f26_0 TF.t24 h
  obtain ⟨_, _, e1⟩ := trod_seg TF.f26_1 TF.t23 h
  obtain ⟨_, _, e2⟩ := trod_seg TF.f26_2 TF.t23 h
  obtain ⟨e, q0⟩ := trod_u64 e0
  obtain ⟨a, q1, ha⟩ := trod_dig e1
  obtain ⟨b, q2, hb⟩ := trod_dig e2
  have hcs := (seg_app (cs := cs) 0 1 1 rfl (seg_app 1 32 33 rfl (seg_end 33 32 hl))).symm
  rw [q0, q1, q2] at hcs
  exact ⟨⟨e, a, b⟩, hcs, ha, hb⟩

theorem open_roots (h : DataW.trod enc Try.prog w 0 sp held fuel 27 [v] = some x) : ∃ L : List Rt, RtsM (heapM w) v L ∧ (∀ t ∈ L, t.ok) ∧ L.length ≤ 9223372036854775807 :=
  trod_list (c := rtC) (Q := fun t => t.ok) Try.underlying27 TF.t55 (by decide) (fun h => trod_root h) h

theorem trod_view (h : DataW.trod enc Try.prog w 0 sp held fuel 29 cs = some x) : ∃ t : Vw, VwM (heapM w) (.agg (List.toArray cs)) t := by
  have hl := trod_len Try.underlying29 TF.t29 h
  obtain ⟨_, _, e0⟩ := trod_seg TF.f29_0 TF.t23 h
  obtain ⟨_, _, e1⟩ := trod_seg TF.f29_1 TF.t26 h
  obtain ⟨_, _, e2⟩ := trod_seg TF.f29_2 TF.t27 h
  obtain ⟨a, q0, ha⟩ := trod_dig e0
  obtain ⟨b, q1, hb⟩ := trod_head e1
  obtain ⟨v, hv⟩ := seg_one (cs := cs) 97 (by omega)
  rw [hv] at e2
  obtain ⟨L, hL, hok, _⟩ := open_roots e2
  have hcs := (seg_app (cs := cs) 0 32 32 rfl (seg_app 32 65 97 rfl (seg_end 97 1 hl))).symm
  rw [q0, q1, hv] at hcs
  refine ⟨⟨a, b, L⟩, v, ?_, hL, ha, hb, hok⟩
  rw [show cs = _ from hcs]
  rfl

theorem trod_signed (h : DataW.trod enc Try.prog w 0 sp held fuel 71 cs = some x) : ∃ p : Sg × Value, cs = sgP p ∧ p.1.root.ok ∧ SlM (heapM w) p.2 1 p.1.sig.length (bs p.1.sig) := by
  have hl := trod_len Try.underlying71 TF.t71 h
  obtain ⟨_, _, e0⟩ := trod_seg TF.f71_0 TF.t55 h
  obtain ⟨_, _, e1⟩ := trod_seg TF.f71_1 TF.t41 h
  obtain ⟨a, q0, ha⟩ := trod_root e0
  obtain ⟨v, hv⟩ := seg_one (cs := cs) 97 (by omega)
  rw [hv] at e1
  obtain ⟨l, hs, _⟩ := trod_bytes Try.underlying41 Try.underlying5 TF.t5.cells e1
  have hcs := (seg_app (cs := cs) 0 97 97 rfl (seg_end 97 1 hl)).symm
  rw [q0, hv] at hcs
  exact ⟨(⟨a, l⟩, v), hcs, ha, hs⟩

theorem open_signeds (h : DataW.trod enc Try.prog w 0 sp held fuel 30 [v] = some x) : ∃ L : List (Sg × Value), SgsM (heapM w) v L ∧ L.length ≤ 9223372036854775807 := by
  obtain ⟨L, h1, h2, h3⟩ := trod_list (c := sgP) (Q := fun p => p.1.root.ok ∧ SlM (heapM w) p.2 1 p.1.sig.length (bs p.1.sig)) Try.underlying30 TF.t71 (by decide) (fun h => trod_signed h) h
  exact ⟨L, ⟨h1, h2⟩, h3⟩

theorem trod_proof (h : DataW.trod enc Try.prog w 0 sp held fuel 40 cs = some x) : ∃ (p : Prf) (sv : Value), cs = prL sv p.E p.I p.V ∧ DigM (heapM w) sv p.S ∧ p.I.length = 32 ∧ p.V.length = 32 := by
  have hl := trod_len Try.underlying40 TF.t40 h
  obtain ⟨_, _, e0⟩ := trod_seg TF.f40_0 TF.t38 h
  obtain ⟨_, _, e1⟩ := trod_seg TF.f40_1 TF.t3 h
  obtain ⟨_, _, e2⟩ := trod_seg TF.f40_2 TF.t23 h
  obtain ⟨_, _, e3⟩ := trod_seg TF.f40_3 TF.t23 h
  obtain ⟨v, hv⟩ := seg_one (cs := cs) 0 (by omega)
  rw [hv] at e0
  obtain ⟨S, hS, _⟩ := open_digs e0
  obtain ⟨E, q1⟩ := trod_i64 e1
  obtain ⟨I, q2, hI⟩ := trod_dig e2
  obtain ⟨V, q3, hV⟩ := trod_dig e3
  have hcs := (seg_app (cs := cs) 0 1 1 rfl (seg_app 1 1 2 rfl (seg_app 2 32 34 rfl (seg_end 34 32 hl)))).symm
  rw [hv, q1, q2, q3] at hcs
  exact ⟨⟨S, E, I, V⟩, v, hcs, hS, hI, hV⟩

theorem trod_bind (h : DataW.trod enc Try.prog w 0 sp held fuel 43 cs = some x) : ∃ (b : Bd) (kv : Value), cs = bdC b kv ∧ SlM (heapM w) kv 1 b.key.length (bs b.key) ∧ b.name.length ≤ 9223372036854775807 := by
  have hl := trod_len Try.underlying43 TF.t43 h
  obtain ⟨_, _, e0⟩ := trod_seg TF.f43_0 TF.t9 h
  obtain ⟨_, _, e1⟩ := trod_seg TF.f43_1 TF.t41 h
  obtain ⟨_, _, e2⟩ := trod_seg TF.f43_2 TF.t24 h
  obtain ⟨s, q0, hs⟩ := trod_str e0
  obtain ⟨v, hv⟩ := seg_one (cs := cs) 1 (by omega)
  rw [hv] at e1
  obtain ⟨l, hk, _⟩ := trod_bytes Try.underlying41 Try.underlying5 TF.t5.cells e1
  obtain ⟨z, q2⟩ := trod_u64 e2
  have hcs := (seg_app (cs := cs) 0 1 1 rfl (seg_app 1 1 2 rfl (seg_end 2 1 hl))).symm
  rw [q0, hv, q2] at hcs
  exact ⟨⟨s, l, z⟩, v, hcs, hk, hs⟩

theorem trod_answer (h : DataW.trod enc Try.prog w 0 sp held fuel 45 cs = some x) : ∃ (a : Aw) (sv kv : Value), cs = awC a sv kv ∧ AwOk (heapM w) a sv kv := by
  have hl := trod_len Try.underlying45 TF.t45 h
  obtain ⟨_, _, e0⟩ := trod_seg TF.f45_0 TF.t24 h
  obtain ⟨_, _, e1⟩ := trod_seg TF.f45_1 TF.t23 h
  obtain ⟨_, _, e2⟩ := trod_seg TF.f45_2 TF.t40 h
  obtain ⟨_, _, e3⟩ := trod_seg TF.f45_3 TF.t4 h
  obtain ⟨_, _, e4⟩ := trod_seg TF.f45_4 TF.t23 h
  obtain ⟨_, _, e5⟩ := trod_seg TF.f45_5 TF.t43 h
  obtain ⟨e, q0⟩ := trod_u64 e0
  obtain ⟨i, q1, hi⟩ := trod_dig e1
  obtain ⟨p, sv, q2, hS, hI, hV⟩ := trod_proof e2
  obtain ⟨t, q3⟩ := trod_bo e3
  obtain ⟨s, q4, hs⟩ := trod_dig e4
  obtain ⟨b, kv, q5, hk, hn⟩ := trod_bind e5
  have hcs := (seg_app (cs := cs) 0 1 1 rfl (seg_app 1 32 33 rfl (seg_app 33 66 99 rfl (seg_app 99 1 100 rfl (seg_app 100 32 132 rfl (seg_end 132 3 hl)))))).symm
  rw [q0, q1, q2, q3, q4, q5] at hcs
  exact ⟨⟨e, i, p, t, s, b⟩, sv, kv, hcs, hS, hk, hi, hs, hI, hV, hn⟩

theorem trod_found (h : DataW.trod enc Try.prog w 0 sp held fuel 48 cs = some x) : ∃ (f : Fd) (kv : Value), cs = fdC f kv ∧ SlM (heapM w) kv 1 f.bind.key.length (bs f.bind.key) ∧ f.bind.name.length ≤ 9223372036854775807 := by
  have hl := trod_len Try.underlying48 TF.t48 h
  obtain ⟨_, _, e0⟩ := trod_seg TF.f48_0 TF.t24 h
  obtain ⟨_, _, e1⟩ := trod_seg TF.f48_1 TF.t4 h
  obtain ⟨_, _, e2⟩ := trod_seg TF.f48_2 TF.t43 h
  obtain ⟨e, q0⟩ := trod_u64 e0
  obtain ⟨t, q1⟩ := trod_bo e1
  obtain ⟨b, kv, q2, hk, hn⟩ := trod_bind e2
  have hcs := (seg_app (cs := cs) 0 1 1 rfl (seg_app 1 1 2 rfl (seg_end 2 3 hl))).symm
  rw [q0, q1, q2] at hcs
  exact ⟨⟨e, t, b⟩, kv, hcs, hk, hn⟩

section tops
variable {W : World} {r : Reach} {base : Nat} {d : DataW H} {p : List MemPlace}
set_option maxRecDepth 100000 in
theorem open_view (hv : Value.okWide Try.prog W r base 29 v) (h : DataW.Trod enc Try.prog w 0 sp held 29 v d p) : ∃ t : Vw, VwM (heapM w) v t := by
  obtain ⟨cs, n, y, rfl, hy⟩ := open_struct Try.underlying29 hv h
  exact trod_view hy
set_option maxRecDepth 100000 in
theorem open_answer (hv : Value.okWide Try.prog W r base 45 v) (h : DataW.Trod enc Try.prog w 0 sp held 45 v d p) : ∃ a : Aw, AwM (heapM w) v a := by
  obtain ⟨cs, n, y, rfl, hy⟩ := open_struct Try.underlying45 hv h
  obtain ⟨a, sv, kv, rfl, hok⟩ := trod_answer hy
  exact ⟨a, sv, kv, rfl, hok⟩
set_option maxRecDepth 100000 in
theorem open_found (hv : Value.okWide Try.prog W r base 48 v) (h : DataW.Trod enc Try.prog w 0 sp held 48 v d p) : ∃ f : Fd, FdM (heapM w) v f := by
  obtain ⟨cs, n, y, rfl, hy⟩ := open_struct Try.underlying48 hv h
  obtain ⟨a, kv, rfl, hok⟩ := trod_found hy
  exact ⟨a, kv, rfl, hok⟩
set_option maxRecDepth 100000 in
theorem open_root (hv : Value.okWide Try.prog W r base 55 v) (h : DataW.Trod enc Try.prog w 0 sp held 55 v d p) : ∃ t : Rt, v = rtV t ∧ t.ok := by
  obtain ⟨cs, n, y, rfl, hy⟩ := open_struct Try.underlying55 hv h
  obtain ⟨t, rfl, hok⟩ := trod_root hy
  exact ⟨t, rfl, hok⟩
set_option maxRecDepth 100000 in
theorem open_str (hv : Value.okWide Try.prog W r base 9 v) (h : DataW.Trod enc Try.prog w 0 sp held 9 v d p) : ∃ s : By, v = .string (strB s) ∧ s.length ≤ 9223372036854775807 := by
  obtain ⟨s, rfl⟩ := okWide_string Try.underlying9 hv
  obtain ⟨fu, hf⟩ := h
  obtain ⟨l, q, hl⟩ := trod_str hf
  exact ⟨l, by simpa [Value.cells] using q, hl⟩
set_option maxRecDepth 100000 in
theorem open_u64 (hv : Value.okWide Try.prog W r base 24 v) (h : DataW.Trod enc Try.prog w 0 sp held 24 v d p) : ∃ n : UInt64, v = u64 n := by
  obtain ⟨s, rfl⟩ := okWide_int Try.underlying24 hv
  obtain ⟨fu, hf⟩ := h
  obtain ⟨l, q⟩ := trod_u64 hf
  exact ⟨l, by simpa [Value.cells] using q⟩
end tops
end
end Go.Proofs.Ytjjpakjgppmmdaa

/-
  The program works: small answers, small roots. ClientLearns answers true.
-/
namespace Go.Proofs.Ytjjpakjgppmmdaa
open Go Go.RowKit K SH PT

def rt1 : Rt := ⟨1, z32, sum [69], z32⟩
def vw1 : Vw := ⟨z32, hd0, [rt1]⟩
def aw1 : Aw := ⟨1, z32, ⟨[], 0, z32, z32⟩, false, z32, bd0⟩
def ann : By := [97, 110, 110]
def pin1 : By := 1 :: List.replicate 31 0
def rt2 : Rt := ⟨1, z32, z32, z32⟩

theorem rt1_ok : rt1.ok := ⟨rfl, length_sum _, rfl⟩
theorem rt2_ok : rt2.ok := ⟨rfl, rfl, rfl⟩
theorem aw1_ok {m : Mem} : AwOk m aw1 (.slice none 0 0) (.slice none 0 0) := ⟨⟨by simp [aw1, D32], SlM.nil⟩, SlM.nil, rfl, rfl, rfl, rfl, by decide⟩
theorem okName_ann : okName ann := by decide
theorem ask1 : askE vw1 ann 1 aw1 = 0 ∧ askF vw1 ann 1 aw1 = ⟨1, false, bd0⟩ := by
  have hr : rootAt vw1 1 = sum [69] := rfl
  have ht : ¬ chkT (rootAt vw1 1) aw1.index aw1.proof := fun hc => by have := hc.2.1; cases this
  have hp : provesP (rootAt vw1 1) aw1.index aw1.proof := ⟨⟨by decide, .inr ⟨rfl, rfl, rfl⟩⟩, (fun h => by cases h), rfl⟩
  have hk : askOk vw1 ann 1 aw1 := ⟨rfl, hp, by rw [decide_eq_false ht, shownP, if_neg (by decide)]; exact ⟨rfl, rfl, rfl, rfl, rfl⟩⟩
  have h := ask_0 (x := vw1) (name := ann) (e := 1) okName_ann ⟨by decide, by decide⟩ hk
  rw [decide_eq_false ht] at h
  exact h
theorem ask2 : askE vw1 ann 2 aw1 = 10 := (ask_10 (x := vw1) (name := ann) (e := 2) okName_ann (fun hc => absurd hc.2 (by decide))).1
theorem learn1 : (learnG (newV pin1) [⟨rt2, []⟩]).2 = 15 := by
  have h1 : followE (newV pin1).head ⟨rt2, []⟩ = 15 := by
    unfold followE
    rw [if_neg (by decide), if_neg (by decide), if_neg (by decide), if_neg (fun hc => by have := hc.1; cases this)]
  have h2 : lrnE (newV pin1) ⟨rt2, []⟩ = 15 := by
    unfold lrnE
    rw [if_neg (fun hc => by have := hc.2; simp [newV, rt2] at this), h1]
  unfold learnG
  rw [h2, if_neg (by decide)]

theorem fill_rt1 : FillR (#[(0, 1), (1, 32), (33, 32), (65, 32)][·]?) (Value.agg ([Value.int .u64 0] ++ List.replicate 32 (Value.int .u8 0) ++ List.replicate 32 (Value.int .u8 0) ++ List.replicate 32 (Value.int .u8 0)).toArray).cells [(0, u64 1), (2, arr (sum [69]))] (rtC rt1).toArray := by
  refine fill_one [] [u64 0] (bs z32 ++ (bs z32 ++ bs z32)) rfl rfl rfl ?_
  refine fill_one (u64 1 :: bs z32) (bs z32) (bs z32) rfl rfl (by rw [size_arr, length_sum]; rfl) ?_
  simp [FillR, rtC, rt1, arr, Value.cells]
theorem fill_rt2 : FillR (#[(0, 1), (1, 32), (33, 32), (65, 32)][·]?) (Value.agg ([Value.int .u64 0] ++ List.replicate 32 (Value.int .u8 0) ++ List.replicate 32 (Value.int .u8 0) ++ List.replicate 32 (Value.int .u8 0)).toArray).cells [(0, u64 1)] (rtC rt2).toArray := by
  refine fill_one [] [u64 0] (bs z32 ++ (bs z32 ++ bs z32)) rfl rfl rfl ?_
  rfl
theorem fill_vw3 {rv : Value} (hr : rv.oneCell' = true) : FillR (#[(0, 32), (32, 65), (97, 1)][·]?) (Value.agg (List.replicate 32 (Value.int .u8 0) ++ ([Value.int .u64 0] ++ List.replicate 32 (Value.int .u8 0) ++ List.replicate 32 (Value.int .u8 0)) ++ [Value.slice none 0 0]).toArray).cells [(2, rv)] (vwC z32 hd0 rv).toArray := by
  refine fill_one (bs z32 ++ hdC hd0) [.slice none 0 0] [] rfl rfl (by rw [cells_one hr]; rfl) ?_
  rw [cells_one hr]
  simp [FillR, vwC]
theorem fill_aw1 : FillR (#[(0, 1), (1, 32), (33, 66), (99, 1), (100, 32), (132, 3)][·]?) (Value.agg ([Value.int .u64 0] ++ List.replicate 32 (Value.int .u8 0) ++ ([Value.slice none 0 0] ++ [Value.int .i64 0] ++ List.replicate 32 (Value.int .u8 0) ++ List.replicate 32 (Value.int .u8 0)) ++ [Value.bool false] ++ List.replicate 32 (Value.int .u8 0) ++ ([Value.string ⟨#[]⟩] ++ [Value.slice none 0 0] ++ [Value.int .u64 0])).toArray).cells [(0, u64 1)] (awC aw1 (.slice none 0 0) (.slice none 0 0)).toArray := by
  refine fill_one [] [u64 0] (bs z32 ++ ([Value.slice none 0 0] ++ [Value.int .i64 0] ++ bs z32 ++ bs z32) ++ [Value.bool false] ++ bs z32 ++ ([Value.string ⟨#[]⟩] ++ [Value.slice none 0 0] ++ [Value.int .u64 0])) rfl rfl rfl ?_
  rfl
theorem fill_sg2 : FillR (#[(0, 97), (97, 1)][·]?) (Value.agg ([Value.int .u64 0] ++ List.replicate 32 (Value.int .u8 0) ++ List.replicate 32 (Value.int .u8 0) ++ List.replicate 32 (Value.int .u8 0) ++ [Value.slice none 0 0]).toArray).cells [(0, rtV rt2)] (sgC rt2 (.slice none 0 0)).toArray := by
  refine fill_one [] ([Value.int .u64 0] ++ List.replicate 32 (Value.int .u8 0) ++ List.replicate 32 (Value.int .u8 0) ++ List.replicate 32 (Value.int .u8 0)) [.slice none 0 0] rfl rfl rfl ?_
  rfl
theorem fill_pin : FillR (fun i => some (i * 1, 1)) (Value.agg (List.replicate 32 (Value.int .u8 0)).toArray).cells [(0, u8 1)] (bs pin1).toArray := by
  refine fill_one [] [u8 0] (bs (List.replicate 31 0)) rfl rfl rfl ?_
  rfl
theorem v_pin1 {r : Fr} {w : World} {ty : TypeId} {x : Operand} (hx : ev r x = u8 1) : Val Try.prog (.build 23 #[(0, x)]) ty r w (arr pin1) w :=
  v_build_a (c' := (bs pin1).toArray) [(0, u8 1)] TF.z23 Try.underlying23 TF.t5 (by simp [hx]) fill_pin

section
variable {m : Mem} {wI : World}

theorem c_works (him : Im m wI) : Ret Try.prog 13 #[] wI fun v' w' => Tch wI w' [] [] ∧ v' = .bool true := by
  have st := St.start him
  obtain ⟨q0, q1⟩ := ask1
  have q2 := ask2
  have q3 := learn1
  have hpl : pin1.length = 32 := rfl
  have hpo : (⟨0, z32, pin1⟩ : Hd).ok := ⟨rfl, rfl⟩
  refine ret_of Try.call13 Try.func13 rfl Try.ntmps13 Try.results13 rfl ?_
  refine wc_seq ?_
  refine wc_region ?_
  refine wl_val (v_assign' (by conv => (lhs; whnf))) rfl ?_
  refine wl_nil ?_
  refine then_go ?_
  refine wc_seq ?_
  refine wc_region ?_
  refine wl_call rfl (c_rempty st.im) rfl ?_
  rintro v8 w ⟨t8, rfl⟩
  have st := st.pure t8
  refine wl_val (v_build (c' := (rtC rt1).toArray) [(0, u64 1), (2, arr (sum [69]))] TF.z55 TF.p55 rfl fill_rt1) rfl ?_
  refine wl_lsOne (rtC rt1) Try.underlying27 TF.t55 TF.z55 (by decide) (by decide) (length_rtC rt1_ok) rfl st rfl ?_
  intro b10 w st
  obtain ⟨m1, hg1, hm1, st⟩ := st.freeze (i := 0) rfl (by simp)
  change St _ _ _ _ _ [] at st
  have hvw : VwM m1 (.agg (vwC z32 hd0 (.slice (some ⟨b10, 0, none⟩) 1 1)).toArray) vw1 := ⟨_, rfl, ⟨SlM.of hm1 (by simp [vw1, length_rtC rt1_ok]) (Nat.le_refl _) (fun j u hj => by simpa [vw1] using hj), fun t ht => by simp [vw1] at ht; rw [ht]; exact length_rtC rt1_ok⟩, rfl, hd0_ok, fun t ht => by simp [vw1] at ht; rw [ht]; exact rt1_ok⟩
  refine wl_val (v_build (c' := (vwC z32 hd0 (.slice (some ⟨b10, 0, none⟩) 1 1)).toArray) [(2, .slice (some ⟨b10, 0, none⟩) 1 1)] TF.z29 TF.p29 rfl (fill_vw3 rfl)) rfl ?_
  refine wl_alloc TF.z29 st rfl ?_
  intro b1 w st
  refine wl_storeW (cs := (vwC z32 hd0 (.slice (some ⟨b10, 0, none⟩) 1 1)).toArray) 0 st rfl TF.t29 rfl rfl rfl rfl (fun u hu => one_vwC rfl u (by simpa using hu)) ?_
  intro w st
  refine wl_nil ?_
  refine then_go ?_
  refine wc_seq ?_
  refine wc_region ?_
  refine wl_val (v_load rfl (st.reads (v := .agg (vwC z32 hd0 (.slice (some ⟨b10, 0, none⟩) 1 1)).toArray) 0 rfl TF.t29 (getV_all rfl))) rfl ?_
  refine wl_val (v_build (c' := (awC aw1 (.slice none 0 0) (.slice none 0 0)).toArray) [(0, u64 1)] TF.z45 TF.p45 rfl fill_aw1) rfl ?_
  refine wl_call rfl (c_ask (name := ann) (e := 1) (a := aw1) st.im hvw (by decide) ⟨_, _, rfl, aw1_ok⟩ (by decide) (by decide)) rfl ?_
  rintro v15 w ⟨t15, m2, hg2, hi2, fv, rfl, hf⟩
  have st := st.grown hg2 t15 hi2
  have hvw := hvw.mono hg2.le
  rw [q1] at hf
  obtain ⟨fk, rfl, hfk, _⟩ := hf
  have hfo : fk.oneCell' = true := by obtain ⟨_, _, _, h, _⟩ := hfk; rw [h]; rfl
  refine wl_val (v_move' (by conv => (lhs; whnf))) rfl ?_
  refine wl_val (v_extract rfl rfl) rfl ?_
  refine wl_val (v_extract rfl rfl) rfl ?_
  refine wl_alloc TF.z48 st rfl ?_
  intro b2 w st
  refine wl_storeW (cs := (fdC ⟨1, false, bd0⟩ fk).toArray) 0 st rfl TF.t48 rfl rfl rfl rfl (one_fdC hfo) ?_
  intro w st
  refine wl_val (v_assign' (by conv => (lhs; whnf))) rfl ?_
  refine wl_nil ?_
  refine then_go ?_
  refine wc_seq ?_
  refine wc_region ?_
  refine wl_val (v_load rfl (st.reads (v := .agg (vwC z32 hd0 (.slice (some ⟨b10, 0, none⟩) 1 1)).toArray) 1 rfl TF.t29 (getV_all rfl))) rfl ?_
  refine wl_val (v_build (c' := (awC aw1 (.slice none 0 0) (.slice none 0 0)).toArray) [(0, u64 1)] TF.z45 TF.p45 rfl fill_aw1) rfl ?_
  refine wl_call rfl (c_ask (name := ann) (e := 2) (a := aw1) st.im hvw (by decide) ⟨_, _, rfl, aw1_ok⟩ (by decide) (by decide)) rfl ?_
  rintro v21 w ⟨t21, m3, hg3, hi3, fv2, rfl, hf⟩
  have st := st.grown hg3 t21 hi3
  obtain ⟨fk2, rfl, hfk2, _⟩ := hf
  have hfo2 : fk2.oneCell' = true := by obtain ⟨_, _, _, h, _⟩ := hfk2; rw [h]; rfl
  refine wl_val (v_move' (by conv => (lhs; whnf))) rfl ?_
  refine wl_val (v_extract rfl rfl) rfl ?_
  refine wl_val (v_extract rfl rfl) rfl ?_
  refine wl_alloc TF.z48 st rfl ?_
  intro b4 w st
  refine wl_storeW (cs := (fdC (askF vw1 ann 2 aw1) fk2).toArray) 0 st rfl TF.t48 rfl rfl rfl rfl (one_fdC hfo2) ?_
  intro w st
  refine wl_val (v_assign' (by conv => (lhs; whnf))) rfl ?_
  refine wl_nil ?_
  refine then_go ?_
  refine wc_seq ?_
  refine wc_region ?_
  refine wl_val (v_pin1 rfl) rfl ?_
  refine wl_call rfl (c_new (pin := pin1) st.im hpl) rfl ?_
  rintro v26 w ⟨t26, rfl⟩
  have st := st.pure t26
  refine wl_val (v_build (c' := (rtC rt2).toArray) [(0, u64 1)] TF.z55 TF.p55 rfl fill_rt2) rfl ?_
  refine wl_val (v_build (c' := (sgC rt2 (.slice none 0 0)).toArray) [(0, rtV rt2)] TF.z71 TF.p71 rfl fill_sg2) rfl ?_
  refine wl_lsOne (sgC rt2 (.slice none 0 0)) Try.underlying30 TF.t71 TF.z71 (by decide) (by decide) rfl rfl st rfl ?_
  intro b29 w st
  obtain ⟨m4, hg4, hm4, st⟩ := st.freeze (i := 0) rfl (by simp)
  change St _ _ _ _ _ [_, _, _] at st
  have hsg : SgsM m4 (.slice (some ⟨b29, 0, none⟩) 1 1) [(⟨rt2, []⟩, .slice none 0 0)] := ⟨⟨SlM.of hm4 rfl (Nat.le_refl _) (fun j u hj => by simpa [sgP] using hj), fun p hp => by simp at hp; rw [hp]; rfl⟩, fun p hp => by simp at hp; rw [hp]; exact ⟨rt2_ok, SlM.nil⟩⟩
  refine wl_call rfl (c_learn (x0 := newV pin1) st.im (newV_M hpl) hsg (by decide)) rfl ?_
  rintro v30 w ⟨t30, m5, hg5, hi5, v2, rfl, hv2⟩
  have st := st.grown hg5 t30 hi5
  obtain ⟨lr, rfl, hlr, hl1, hl2, hl3⟩ := hv2
  have hlo : lr.oneCell' = true := by obtain ⟨_, _, h⟩ := hlr.sl; rw [h]; rfl
  refine wl_val (v_move' (by conv => (lhs; whnf))) rfl ?_
  refine wl_val (v_extract rfl rfl) rfl ?_
  refine wl_val (v_extract rfl rfl) rfl ?_
  refine wl_alloc TF.z29 st rfl ?_
  intro b6 w st
  refine wl_storeW (cs := (vwC (learnG (newV pin1) [⟨rt2, []⟩]).1.pin (learnG (newV pin1) [⟨rt2, []⟩]).1.head lr).toArray) 0 st rfl TF.t29 rfl rfl (by rw [List.size_toArray]; exact length_vwC hl1 hl2) rfl (fun u hu => one_vwC hlo u (by simpa using hu)) ?_
  intro w st
  refine wl_val (v_assign' (by conv => (lhs; whnf))) rfl ?_
  refine wl_nil ?_
  refine then_go ?_
  refine wc_seq ?_
  refine wc_region ?_
  refine wl_val (v_move' (by conv => (lhs; whnf))) rfl ?_
  refine wl_val (v_eqlT q0 rfl rfl) rfl ?_
  refine wl_val (v_move' (by conv => (lhs; whnf))) rfl ?_
  refine wl_on rfl rfl ?_
  refine wl_val (v_fa TF.f48_1 rfl) rfl ?_
  refine wl_on rfl rfl ?_
  refine wl_val (v_load rfl (st.reads (v := .bool false) 2 rfl TF.t4 rfl)) rfl ?_
  refine wl_on rfl rfl ?_
  refine wl_val (v_not rfl) rfl ?_
  refine wl_val (v_pick rfl) rfl ?_
  refine wl_val (v_move' (by conv => (lhs; whnf))) rfl ?_
  refine wl_on rfl rfl ?_
  refine wl_val (v_fa TF.f48_0 rfl) rfl ?_
  refine wl_on rfl rfl ?_
  refine wl_val (v_load rfl (st.reads (v := u64 1) 2 rfl TF.t24 rfl)) rfl ?_
  refine wl_on rfl rfl ?_
  refine wl_val (v_eqlT (a := 1) (b := 1) rfl rfl rfl) rfl ?_
  refine wl_val (v_pick rfl) rfl ?_
  refine wl_val (v_move' (by conv => (lhs; whnf))) rfl ?_
  refine wl_on rfl rfl ?_
  refine wl_val (v_move' (by conv => (lhs; whnf))) rfl ?_
  refine wl_on rfl rfl ?_
  refine wl_val (v_eqlT q2 rfl rfl) rfl ?_
  refine wl_val (v_pick rfl) rfl ?_
  refine wl_val (v_move' (by conv => (lhs; whnf))) rfl ?_
  refine wl_on rfl rfl ?_
  refine wl_val (v_move' (by conv => (lhs; whnf))) rfl ?_
  refine wl_on rfl rfl ?_
  refine wl_val (v_eqlT q3 rfl rfl) rfl ?_
  refine wl_val (v_pick rfl) rfl ?_
  refine wl_val (v_move' (by conv => (lhs; whnf))) rfl ?_
  refine wl_on rfl rfl ?_
  refine wl_val (v_pin1 rfl) rfl ?_
  refine wl_on rfl rfl ?_
  refine wl_call rfl (c_new (pin := pin1) st.im hpl) rfl ?_
  rintro v26 w ⟨t26, rfl⟩
  have st := st.pure t26
  refine wl_on rfl rfl ?_
  refine wl_val (v_field TF.f29_1 TF.t26 rfl (vw_h hpl hpo)) rfl ?_
  refine wl_on rfl rfl ?_
  refine wl_val (v_field TF.f26_2 TF.t23 rfl (hd_k hpo)) rfl ?_
  refine wl_on rfl rfl ?_
  refine wl_val (v_pin1 rfl) rfl ?_
  refine wl_on rfl rfl ?_
  refine wl_val (v_eqDT rfl rfl hpl) rfl ?_
  refine wl_val (v_pick rfl) rfl ?_
  refine wl_val (v_assign' (by conv => (lhs; whnf))) rfl ?_
  refine wl_nil ?_
  refine then_go ?_
  refine wc_ret ?_
  exact ret1 rfl ⟨(st.keepOnly (l := []) (List.nil_sublist _)).touch, rfl⟩
end
end Go.Proofs.Ytjjpakjgppmmdaa

/-
  ClientLearns and ClientAsks answer true.
-/
namespace Go.Proofs.Ytjjpakjgppmmdaa
open Go Go.RowKit K SH PT

section
variable {m : Mem} {wI : World}

theorem VwM.sz {m : Mem} {v : Value} {x : Vw} (h : VwM m v x) : ∃ rv, v = .agg (vwC x.pin x.head rv).toArray ∧ rv.oneCell' = true ∧ (vwC x.pin x.head rv).length = 98 := by
  obtain ⟨rv, h1, hr, hp, hh, _⟩ := h
  exact ⟨rv, h1, by obtain ⟨_, _, h⟩ := hr.sl; rw [h]; rfl, length_vwC hp hh⟩

theorem c_flearns {vv lv : Value} {x : Vw} {L : List (Sg × Value)} (him : Im m wI) (hv : VwM m vv x) (hl : SgsM m lv L) :
    Ret Try.prog 3 #[vv, lv] wI fun v' w' => Tch wI w' [] [] ∧ v' = .bool true := by
  have st := St.start him
  have hv0 := hv
  obtain ⟨rv, rfl, hrt, hp, hh, hok⟩ := hv
  refine ret_of Try.call3 Try.func3 rfl Try.ntmps3 Try.results3 rfl ?_
  refine wc_seq ?_
  refine wc_region ?_
  refine wl_box (v := .agg (vwC x.pin x.head rv).toArray) rfl st rfl ?_
  intro b2 w st
  refine wl_val (v_assign' (by conv => (lhs; whnf))) rfl ?_
  refine wl_nil ?_
  refine then_go ?_
  refine wc_seq ?_
  refine wc_seq ?_
  refine wc_region ?_
  refine wl_val (v_load rfl (st.reads (v := .agg (vwC x.pin x.head rv).toArray) 0 rfl TF.t29 (getV_all (by exact length_vwC hp hh)))) rfl ?_
  refine wl_val (v_move' (by conv => (lhs; whnf))) rfl ?_
  refine wl_call rfl (c_cfew st.im hv0 hl) rfl ?_
  rintro v11 w ⟨t11, b, rfl, hb⟩
  have st := st.pure t11
  refine wl_val (v_not rfl) rfl ?_
  refine wl_nil ?_
  refine then_go ?_
  refine wc_cond rfl (fun h12 => ?_) (fun h12 => ?_)
  · refine wc_seq ?_
    refine wc_region ?_
    refine wl_call rfl (c_works st.im) rfl ?_
    rintro v13 w ⟨t13, rfl⟩
    have st := st.pure t13
    refine wl_val (v_assign' (by conv => (lhs; whnf))) rfl ?_
    refine wl_nil ?_
    refine then_go ?_
    refine wc_ret (then_ret ?_)
    exact ret1 rfl ⟨(st.keepOnly (l := []) (List.nil_sublist _)).touch, rfl⟩
  · refine wc_skip ?_
    refine then_go ?_
    refine wc_seq ?_
    have hbt := hb (by simpa using h12)
    refine wc_region ?_
    refine wl_val (v_load rfl (st.reads (v := .agg (vwC x.pin x.head rv).toArray) 0 rfl TF.t29 (getV_all (by exact length_vwC hp hh)))) rfl ?_
    refine wl_val (v_move' (by conv => (lhs; whnf))) rfl ?_
    refine wl_call rfl (c_learn st.im hv0 hl (by omega)) rfl ?_
    rintro v17 w ⟨t17, m1, hg1, hi1, z1, rfl, hz1⟩
    have st := st.grown hg1 t17 hi1
    have hv0 := hv0.mono hg1.le
    have hl := hl.mono hg1.le
    obtain ⟨r1, hr1, ho1, hs1⟩ := hz1.sz
    have hGl : (learnG x (L.map (·.1))).1.roots.length ≤ 1099511627776 := by
      have := learnG_len (L := L.map (·.1)) (x := x) (fun s hs => by obtain ⟨p, hp, rfl⟩ := List.mem_map.1 hs; exact (hl.2 p hp).1)
      rw [List.length_map] at this
      omega
    obtain ⟨G, hG⟩ : ∃ G, G = learnG x (L.map (·.1)) := ⟨_, rfl⟩
    rw [← hG] at hz1 hr1 hs1 hGl
    subst hr1
    refine wl_val (v_move' (by conv => (lhs; whnf))) rfl ?_
    refine wl_val (v_extract rfl rfl) rfl ?_
    refine wl_val (v_extract rfl rfl) rfl ?_
    refine wl_alloc TF.z29 st rfl ?_
    intro b5 w st
    refine wl_storeW (cs := (vwC G.1.pin G.1.head r1).toArray) 0 st rfl TF.t29 rfl rfl (by rw [List.size_toArray, hs1]) rfl (fun u hu => one_vwC ho1 u (by simpa using hu)) ?_
    intro w st
    refine wl_val (v_assign' (by conv => (lhs; whnf))) rfl ?_
    refine wl_nil ?_
    refine then_go ?_
    refine wc_seq ?_
    refine wc_region ?_
    refine wl_val (v_load rfl (st.reads (v := .agg (vwC x.pin x.head rv).toArray) 1 rfl TF.t29 (getV_all (by exact length_vwC hp hh)))) rfl ?_
    refine wl_val (v_move' (by conv => (lhs; whnf))) rfl ?_
    refine wl_call rfl (c_rlearn st.im hv0 hl (by omega)) rfl ?_
    rintro v23 w ⟨t23, m2, hg2, hi2, z2, rfl, hz2⟩
    have st := st.grown hg2 t23 hi2
    have hz1 := hz1.mono hg2.le
    obtain ⟨r2, hr2, ho2, hs2⟩ := hz2.sz
    rw [← hG] at hz2 hr2 hs2
    subst hr2
    refine wl_val (v_move' (by conv => (lhs; whnf))) rfl ?_
    refine wl_val (v_extract rfl rfl) rfl ?_
    refine wl_val (v_extract rfl rfl) rfl ?_
    refine wl_alloc TF.z29 st rfl ?_
    intro b7 w st
    refine wl_storeW (cs := (vwC G.1.pin G.1.head r2).toArray) 0 st rfl TF.t29 rfl rfl (by rw [List.size_toArray, hs2]) rfl (fun u hu => one_vwC ho2 u (by simpa using hu)) ?_
    intro w st
    refine wl_val (v_assign' (by conv => (lhs; whnf))) rfl ?_
    refine wl_nil ?_
    refine then_go ?_
    refine wc_seq ?_
    refine wc_draw TF.mixed ?_
    have st := st.pure (touch_drew _)
    refine fl_val 0 rfl (fun _ => (v_move' (by conv => (lhs; whnf)))) rfl (by kernel_rfl) ?_
    refine fl_val 1 rfl (fun _ => (v_move' (by conv => (lhs; whnf)))) rfl (by kernel_rfl) ?_
    refine fl_val 2 rfl (fun _ => (v_eqlT (show (learnG x (L.map (·.1))).2 = (learnG x (L.map (·.1))).2 from rfl) rfl rfl)) rfl (by kernel_rfl) ?_
    refine fl_val 3 rfl (fun _ => (v_move' (by conv => (lhs; whnf)))) rfl (by kernel_rfl) ?_
    refine fl_ond 4 rfl rfl rfl rfl (v_load rfl (st.reads (v := .agg (vwC G.1.pin G.1.head r1).toArray) 1 rfl TF.t29 (getV_all (by rw [List.size_toArray, hs1])))) rfl (by kernel_rfl) ?_
    refine fl_ond 5 rfl rfl rfl rfl (v_load rfl (st.reads (v := .agg (vwC G.1.pin G.1.head r2).toArray) 0 rfl TF.t29 (getV_all (by rw [List.size_toArray, hs2])))) rfl (by kernel_rfl) ?_
    refine fl_eff1 6 [2, 1, 0] [] (by kernel_rfl) ⟨obl_on rfl rfl rfl rfl rfl (v_load rfl (st.reads (v := .agg (vwC G.1.pin G.1.head r2).toArray) 0 rfl TF.t29 (getV_all (by rw [List.size_toArray, hs2])))), obl_on rfl rfl rfl rfl rfl (v_load rfl (st.reads (v := .agg (vwC G.1.pin G.1.head r1).toArray) 1 rfl TF.t29 (getV_all (by rw [List.size_toArray, hs1])))), trivial⟩ rfl ?_
    refine wl_on rfl rfl ?_
    refine wl_call rfl (c_sameview st.im hz1 hz2 hGl) rfl ?_
    rintro v32 w ⟨t32, rfl⟩
    have st := st.pure t32
    refine wl_nil ⟨rfl, ?_⟩
    refine fl_val 7 rfl (fun _ => (v_pick rfl)) rfl (by kernel_rfl) ?_
    refine fl_val 8 rfl (fun _ => (v_move' (by conv => (lhs; whnf)))) rfl (by kernel_rfl) ?_
    refine fl_on 9 rfl rfl rfl rfl (fun _ => (v_fa TF.f29_0 rfl)) rfl (by kernel_rfl) ?_
    refine fl_ond 10 rfl rfl rfl rfl (v_load rfl (st.reads (v := arr x.pin) 2 rfl TF.t23 (vw_p hp))) rfl (by kernel_rfl) ?_
    refine fl_on 12 rfl rfl rfl rfl (fun _ => (v_fa TF.f29_0 rfl)) rfl (by kernel_rfl) ?_
    refine fl_ond 13 rfl rfl rfl rfl (v_load rfl (st.reads (v := arr x.pin) 2 rfl TF.t23 (vw_p hp))) rfl (by kernel_rfl) ?_
    refine fl_eff1 11 [12, 9, 7, 2, 1, 0] [13] (by kernel_rfl) ⟨obl_on rfl rfl rfl rfl rfl (v_load rfl (st.reads (v := arr x.pin) 2 rfl TF.t23 (vw_p hp))), obl_on rfl rfl rfl rfl rfl (v_load rfl (st.reads (v := arr x.pin) 2 rfl TF.t23 (vw_p hp))), trivial⟩ rfl ?_
    refine wl_on rfl rfl ?_
    refine wl_call rfl (c_new st.im hp) rfl ?_
    rintro v37 w ⟨t37, rfl⟩
    have st := st.pure t37
    refine wl_nil ⟨rfl, ?_⟩
    refine fl_eff1 14 [12, 9, 7, 2, 1, 0] [] (by kernel_rfl) ⟨obl_on rfl rfl rfl rfl rfl (v_load rfl (st.reads (v := arr x.pin) 2 rfl TF.t23 (vw_p hp))), trivial⟩ rfl ?_
    refine wl_on rfl rfl ?_
    refine wl_call rfl (c_rnew st.im hp) rfl ?_
    rintro v40 w ⟨t40, rfl⟩
    have st := st.pure t40
    refine wl_nil ⟨rfl, ?_⟩
    refine fl_eff1 15 [12, 9, 7, 2, 1, 0] [] (by kernel_rfl) trivial rfl ?_
    refine wl_on rfl rfl ?_
    refine wl_call rfl (c_sameview st.im (newV_M hp) (newV_M hp) (by simp [newV])) rfl ?_
    rintro v41 w ⟨t41, rfl⟩
    have st := st.pure t41
    refine wl_nil ⟨rfl, ?_⟩
    refine fl_val 16 rfl (fun _ => (v_pick rfl)) rfl (by kernel_rfl) ?_
    refine fl_val 17 rfl (fun _ => (v_move' (by conv => (lhs; whnf)))) rfl (by kernel_rfl) ?_
    refine fl_eff1 18 [16, 12, 9, 7, 2, 1, 0] [] (by kernel_rfl) trivial rfl ?_
    refine wl_on rfl rfl ?_
    refine wl_call rfl (c_works st.im) rfl ?_
    rintro v44 w ⟨t44, rfl⟩
    have st := st.pure t44
    refine wl_nil ⟨rfl, ?_⟩
    refine fl_val 19 rfl (fun _ => (v_pick rfl)) rfl (by kernel_rfl) ?_
    refine fl_eff1 20 [] [] (by kernel_rfl) trivial rfl ?_
    refine wl_val (v_assign' (by conv => (lhs; whnf))) rfl ?_
    refine wl_nil ⟨rfl, ?_⟩
    refine fl_nil (by kernel_rfl) trivial ?_
    refine then_go ?_
    refine wc_ret ?_
    exact ret1 rfl ⟨(st.keepOnly (l := []) (List.nil_sublist _)).touch, rfl⟩

theorem FdM.sz {m : Mem} {v : Value} {f : Fd} (h : FdM m v f) : ∃ kv, v = .agg (fdC f kv).toArray ∧ kv.oneCell' = true := by
  obtain ⟨kv, h1, h2, _⟩ := h
  exact ⟨kv, h1, by obtain ⟨_, _, _, h, _⟩ := h2; rw [h]; rfl⟩

theorem c_fasks {vv av : Value} {x : Vw} {name : By} {e : UInt64} {a : Aw} (him : Im m wI) (hv : VwM m vv x) (hn : name.length ≤ 9223372036854775807) (ha : AwM m av a) :
    Ret Try.prog 4 #[vv, .string (strB name), u64 e, av] wI fun v' w' => Tch wI w' [] [] ∧ v' = .bool true := by
  have st := St.start him
  have hv0 := hv
  have ha0 := ha
  obtain ⟨rv, rfl, hrt, hp, hh, hok⟩ := hv
  obtain ⟨sv, kv, rfl, hak⟩ := ha
  refine ret_of Try.call4 Try.func4 rfl Try.ntmps4 Try.results4 rfl ?_
  refine wc_seq ?_
  refine wc_region ?_
  refine wl_box (v := .agg (vwC x.pin x.head rv).toArray) rfl st rfl ?_
  intro b4 w st
  refine wl_box (v := .agg (awC a sv kv).toArray) rfl st rfl ?_
  intro b7 w st
  refine wl_val (v_assign' (by conv => (lhs; whnf))) rfl ?_
  refine wl_nil ?_
  refine then_go ?_
  refine wc_seq ?_
  refine wc_seq ?_
  refine wc_region ?_
  refine wl_val (v_load rfl (st.reads (v := .agg (vwC x.pin x.head rv).toArray) 1 rfl TF.t29 (getV_all (by exact length_vwC hp hh)))) rfl ?_
  refine wl_call rfl (c_cfew (L := []) st.im hv0 ⟨LsM.nil, by simp⟩) rfl ?_
  rintro v14 w ⟨t14, b, rfl, hb⟩
  have st := st.pure t14
  refine wl_val (v_not rfl) rfl ?_
  refine wl_val (v_move' (by conv => (lhs; whnf))) rfl ?_
  rcases Bool.eq_false_or_eq_true (!b) with hg3 | hg3
  · rw [hg3]
    refine wl_off rfl rfl rfl rfl ?_
    refine wl_off rfl rfl rfl rfl ?_
    refine wl_off rfl rfl rfl rfl ?_
    refine wl_val (v_pick rfl) rfl ?_
    refine wl_nil ?_
    refine then_go ?_
    refine wc_true rfl ?_
    refine wc_seq ?_
    refine wc_region ?_
    refine wl_call rfl (c_works st.im) rfl ?_
    rintro v21 w ⟨t21, rfl⟩
    have st := st.pure t21
    refine wl_val (v_assign' (by conv => (lhs; whnf))) rfl ?_
    refine wl_nil ?_
    refine then_go ?_
    refine wc_ret (then_ret ?_)
    exact ret1 rfl ⟨(st.keepOnly (l := []) (List.nil_sublist _)).touch, rfl⟩
  · rw [hg3]
    refine wl_on rfl rfl ?_
    refine wl_val (v_load rfl (st.reads (v := .agg (awC a sv kv).toArray) 0 rfl TF.t45 (getV_all (by exact length_awC hak)))) rfl ?_
    refine wl_on rfl rfl ?_
    refine wl_call rfl (c_light st.im ha0) rfl ?_
    rintro v18 w ⟨t18, b', rfl, hb'⟩
    have st := st.pure t18
    refine wl_on rfl rfl ?_
    refine wl_val (v_not rfl) rfl ?_
    refine wl_val (v_pick rfl) rfl ?_
    refine wl_nil ?_
    refine then_go ?_
    refine wc_cond rfl (fun h20 => ?_) (fun h20 => ?_)
    · refine wc_seq ?_
      refine wc_region ?_
      refine wl_call rfl (c_works st.im) rfl ?_
      rintro v21 w ⟨t21, rfl⟩
      have st := st.pure t21
      refine wl_val (v_assign' (by conv => (lhs; whnf))) rfl ?_
      refine wl_nil ?_
      refine then_go ?_
      refine wc_ret (then_ret ?_)
      exact ret1 rfl ⟨(st.keepOnly (l := []) (List.nil_sublist _)).touch, rfl⟩
    · refine wc_skip ?_
      refine then_go ?_
      refine wc_seq ?_
      have hbt := hb (by simpa using hg3)
      have hbl := hb' (by simpa using h20)
      refine wc_region ?_
      refine wl_val (v_load rfl (st.reads (v := .agg (vwC x.pin x.head rv).toArray) 1 rfl TF.t29 (getV_all (by exact length_vwC hp hh)))) rfl ?_
      refine wl_val (v_move' (by conv => (lhs; whnf))) rfl ?_
      refine wl_val (v_move' (by conv => (lhs; whnf))) rfl ?_
      refine wl_val (v_load rfl (st.reads (v := .agg (awC a sv kv).toArray) 0 rfl TF.t45 (getV_all (by exact length_awC hak)))) rfl ?_
      refine wl_call rfl (c_ask st.im hv0 hn ha0 (by omega) (by omega)) rfl ?_
      rintro v27 w ⟨t27, m1, hg1, hi1, z1, rfl, hz1⟩
      have st := st.grown hg1 t27 hi1
      have hv0 := hv0.mono hg1.le
      have ha0 := ha0.mono hg1.le
      have hak := hak.mono hg1.le
      obtain ⟨r1, hr1, ho1⟩ := hz1.sz
      obtain ⟨G, hG⟩ : ∃ G, G = askF x name e a := ⟨_, rfl⟩
      rw [← hG] at hz1 hr1
      subst hr1
      refine wl_val (v_move' (by conv => (lhs; whnf))) rfl ?_
      refine wl_val (v_extract rfl rfl) rfl ?_
      refine wl_val (v_extract rfl rfl) rfl ?_
      refine wl_alloc TF.z48 st rfl ?_
      intro b9 w st
      refine wl_storeW (cs := (fdC G r1).toArray) 0 st rfl TF.t48 rfl rfl rfl rfl (one_fdC ho1) ?_
      intro w st
      refine wl_val (v_assign' (by conv => (lhs; whnf))) rfl ?_
      refine wl_nil ?_
      refine then_go ?_
      refine wc_seq ?_
      refine wc_region ?_
      refine wl_val (v_load rfl (st.reads (v := .agg (vwC x.pin x.head rv).toArray) 2 rfl TF.t29 (getV_all (by exact length_vwC hp hh)))) rfl ?_
      refine wl_val (v_move' (by conv => (lhs; whnf))) rfl ?_
      refine wl_val (v_move' (by conv => (lhs; whnf))) rfl ?_
      refine wl_val (v_load rfl (st.reads (v := .agg (awC a sv kv).toArray) 1 rfl TF.t45 (getV_all (by exact length_awC hak)))) rfl ?_
      refine wl_call rfl (c_rask st.im hv0 hn ha0 (by omega)) rfl ?_
      rintro v35 w ⟨t35, m2, hg2, hi2, z2, rfl, hz2⟩
      have st := st.grown hg2 t35 hi2
      have hz1 := hz1.mono hg2.le
      obtain ⟨r2, hr2, ho2⟩ := hz2.sz
      rw [← hG] at hz2 hr2
      subst hr2
      refine wl_val (v_move' (by conv => (lhs; whnf))) rfl ?_
      refine wl_val (v_extract rfl rfl) rfl ?_
      refine wl_val (v_extract rfl rfl) rfl ?_
      refine wl_alloc TF.z48 st rfl ?_
      intro b11 w st
      refine wl_storeW (cs := (fdC G r2).toArray) 0 st rfl TF.t48 rfl rfl rfl rfl (one_fdC ho2) ?_
      intro w st
      refine wl_val (v_assign' (by conv => (lhs; whnf))) rfl ?_
      refine wl_nil ?_
      refine then_go ?_
      refine wc_seq ?_
      refine wc_region ?_
      refine wl_val (v_move' (by conv => (lhs; whnf))) rfl ?_
      refine wl_val (v_move' (by conv => (lhs; whnf))) rfl ?_
      refine wl_val (v_eqlT (show askE x name e a = askE x name e a from rfl) rfl rfl) rfl ?_
      refine wl_val (v_move' (by conv => (lhs; whnf))) rfl ?_
      refine wl_on rfl rfl ?_
      refine wl_val (v_load rfl (st.reads (v := .agg (fdC G r1).toArray) 1 rfl TF.t48 (getV_all rfl))) rfl ?_
      refine wl_on rfl rfl ?_
      refine wl_val (v_load rfl (st.reads (v := .agg (fdC G r2).toArray) 0 rfl TF.t48 (getV_all rfl))) rfl ?_
      refine wl_on rfl rfl ?_
      refine wl_call rfl (c_samefound st.im hz1 hz2) rfl ?_
      rintro v44 w ⟨t44, rfl⟩
      have st := st.pure t44
      rw [show decide (G = G) = true from decide_eq_true rfl]
      refine wl_val (v_pick rfl) rfl ?_
      refine wl_val (v_move' (by conv => (lhs; whnf))) rfl ?_
      refine wl_on rfl rfl ?_
      refine wl_call rfl (c_works st.im) rfl ?_
      rintro v47 w ⟨t47, rfl⟩
      have st := st.pure t47
      refine wl_val (v_pick rfl) rfl ?_
      refine wl_val (v_assign' (by conv => (lhs; whnf))) rfl ?_
      refine wl_nil ?_
      refine then_go ?_
      refine wc_ret ?_
      exact ret1 rfl ⟨(st.keepOnly (l := []) (List.nil_sublist _)).touch, rfl⟩
end
end Go.Proofs.Ytjjpakjgppmmdaa

/-
  Where two rows of bytes clash: clash.Pair, First, Ways, Values.
-/
namespace Go.Proofs.Ytjjpakjgppmmdaa
open Go Go.RowKit K SH PT

def clashP (a b : By) : Prop := a ≠ b ∧ sum a = sum b
instance {a b : By} : Decidable (clashP a b) := by unfold clashP; infer_instance

/-- What a search for a clash tells: two rows that clash, or none. -/
def ClM (m : Mem) (v : Value) (ok : Bool) : Prop := ∃ x y, v = .tuple #[x, y, .bool ok] ∧ (ok = true → ∃ a b, clashP a b ∧ a.length ≤ 1099511627776 ∧ b.length ≤ 1099511627776 ∧ SlM m x 1 a.length (bs a) ∧ SlM m y 1 b.length (bs b))

theorem ret3 {P : Program} {R : Value → World → Prop} {r : Fr} {w : World} {t u s : Nat} {v v' v'' : Value} (ht : r t = v) (hu : r u = v') (hs : r s = v'') (h : R (.tuple #[v, v', v'']) w) : bodyQ P [.tmp t, .tmp u, .tmp s] R .ret r w :=
  ⟨[v, v', v''], ⟨ht, hu, hs, trivial⟩, h⟩

theorem hashedL_le {idx : By} : ∀ {d : Nat} {S : List By} {e : By}, D32 S → e.length ≤ 65 → ∀ b ∈ hashedL idx d S e, b.length ≤ 65
  | _, [], e, _, h, b, hb => by rw [hashedL, List.mem_singleton] at hb; rw [hb]; exact h
  | d, s :: S, e, hS, h, b, hb => by
    rw [hashedL, List.mem_cons] at hb
    rcases hb with rfl | hb
    · exact hB_len hS h
    · exact hashedL_le (d := d + 1) (S := S) (fun y hy => hS y (by simp [hy])) h b hb

section
variable {m : Mem} {wI : World}

theorem c_beq {v1 v2 : Value} {a b : By} (him : Im m wI) (h1 : SlM m v1 1 a.length (bs a)) (h2 : SlM m v2 1 b.length (bs b)) :
    Ret Try.prog 63 #[v1, v2] wI fun v' w' => Tch wI w' [] [] ∧ v' = .bool (decide (a = b)) := by
  have st := St.start him
  refine ret_of Try.call63 Try.func63 rfl Try.ntmps63 Try.results63 rfl ?_
  refine wc_seq ?_
  refine wc_region ?_
  refine wl_val (v_assign' (by conv => (lhs; whnf))) rfl ?_
  refine wl_nil ?_
  refine then_go ?_
  refine wc_seq ?_
  refine wc_region ?_
  refine wl_val (v_move' (by conv => (lhs; whnf))) rfl ?_
  refine wl_val (v_b2s Try.underlying41 Try.underlying5 Try.underlying9 st.im h1 rfl) rfl ?_
  refine wl_val (v_move' (by conv => (lhs; whnf))) rfl ?_
  refine wl_val (v_b2s Try.underlying41 Try.underlying5 Try.underlying9 st.im h2 rfl) rfl ?_
  refine wl_val (v_eqs rfl rfl) rfl ?_
  refine wl_val (v_assign' (by conv => (lhs; whnf))) rfl ?_
  refine wl_nil ?_
  refine then_go ?_
  refine wc_ret ?_
  exact ret1 rfl ⟨st.touch, rfl⟩

theorem c_clpair {v1 v2 : Value} {a b : By} (him : Im m wI) (h1 : SlM m v1 1 a.length (bs a)) (h2 : SlM m v2 1 b.length (bs b)) (hal : a.length ≤ 1099511627776) (hbl : b.length ≤ 1099511627776) :
    Ret Try.prog 60 #[v1, v2] wI fun v' w' => Out m wI w' fun m' => ClM m' v' (decide (clashP a b)) := by
  have st := St.start him
  refine ret_of Try.call60 Try.func60 rfl Try.ntmps60 Try.results60 rfl ?_
  refine wc_seq ?_
  refine wc_region ?_
  refine wl_val (v_assign' (by conv => (lhs; whnf))) rfl ?_
  refine wl_val (v_assign' (by conv => (lhs; whnf))) rfl ?_
  refine wl_val (v_assign' (by conv => (lhs; whnf))) rfl ?_
  refine wl_nil ?_
  refine then_go ?_
  refine wc_seq ?_
  refine wc_seq ?_
  refine wc_region ?_
  refine wl_val (v_move' (by conv => (lhs; whnf))) rfl ?_
  refine wl_val (v_move' (by conv => (lhs; whnf))) rfl ?_
  refine wl_call rfl (c_beq st.im h1 h2) rfl ?_
  rintro v9 w ⟨t9, rfl⟩
  have st := st.pure t9
  refine wl_val (v_move' (by conv => (lhs; whnf))) rfl ?_
  by_cases hg3 : a = b
  · rw [show decide (a = b) = true from decide_eq_true hg3]
    refine wl_off rfl rfl rfl rfl ?_
    refine wl_off rfl rfl rfl rfl ?_
    refine wl_off rfl rfl rfl rfl ?_
    refine wl_off rfl rfl rfl rfl ?_
    refine wl_off rfl rfl rfl rfl ?_
    refine wl_val (v_pick rfl) rfl ?_
    refine wl_nil ?_
    refine then_go ?_
    refine wc_true rfl ?_
    refine wc_seq ?_
    refine wc_region ?_
    refine wl_val (v_assign' (by conv => (lhs; whnf))) rfl ?_
    refine wl_val (v_assign' (by conv => (lhs; whnf))) rfl ?_
    refine wl_val (v_assign' (by conv => (lhs; whnf))) rfl ?_
    refine wl_nil ?_
    refine then_go ?_
    refine wc_ret (then_ret ?_)
    have hno : ¬ clashP a b := fun hc => hc.1 hg3
    exact ret3 rfl rfl rfl (st.out ⟨_, _, by rw [decide_eq_false hno]; rfl, fun h => by rw [decide_eq_false hno] at h; cases h⟩)
  · rw [show decide (a = b) = false from decide_eq_false hg3]
    refine wl_on rfl rfl ?_
    refine wl_val (v_move' (by conv => (lhs; whnf))) rfl ?_
    refine wl_on rfl rfl ?_
    refine wl_call rfl (c_tagsof st.im h1 hal) rfl ?_
    rintro v12 w ⟨t12, rfl⟩
    have st := st.pure t12
    refine wl_on rfl rfl ?_
    refine wl_val (v_move' (by conv => (lhs; whnf))) rfl ?_
    refine wl_on rfl rfl ?_
    refine wl_call rfl (c_tagsof st.im h2 hbl) rfl ?_
    rintro v14 w ⟨t14, rfl⟩
    have st := st.pure t14
    refine wl_on rfl rfl ?_
    refine wl_val (v_neD rfl rfl (length_sum _) (length_sum _)) rfl ?_
    refine wl_val (v_pick rfl) rfl ?_
    refine wl_nil ?_
    refine then_go ?_
    refine wc_if rfl (fun h16 => ?_) (fun h16 => ?_)
    · refine wc_seq ?_
      refine wc_region ?_
      refine wl_val (v_assign' (by conv => (lhs; whnf))) rfl ?_
      refine wl_val (v_assign' (by conv => (lhs; whnf))) rfl ?_
      refine wl_val (v_assign' (by conv => (lhs; whnf))) rfl ?_
      refine wl_nil ?_
      refine then_go ?_
      refine wc_ret (then_ret ?_)
      have hno : ¬ clashP a b := fun hc => h16 hc.2
      exact ret3 rfl rfl rfl (st.out ⟨_, _, by rw [decide_eq_false hno]; rfl, fun h => by rw [decide_eq_false hno] at h; cases h⟩)
    · refine wc_skip ?_
      refine then_go ?_
      refine wc_seq ?_
      refine wc_region ?_
      refine wl_val (v_move' (by conv => (lhs; whnf))) rfl ?_
      refine wl_call rfl (c_bclone st.im h1 hal) rfl ?_
      rintro v18 w ⟨t18, m1, hg1, hi1, hs1⟩
      have st := st.grown hg1 t18 hi1
      have h2 := h2.mono hg1.le
      refine wl_val (v_move' (by conv => (lhs; whnf))) rfl ?_
      refine wl_call rfl (c_bclone st.im h2 hbl) rfl ?_
      rintro v20 w ⟨t20, m2, hg2, hi2, hs2⟩
      have st := st.grown hg2 t20 hi2
      refine wl_val (v_assign' (by conv => (lhs; whnf))) rfl ?_
      refine wl_val (v_assign' (by conv => (lhs; whnf))) rfl ?_
      refine wl_val (v_assign' (by conv => (lhs; whnf))) rfl ?_
      refine wl_nil ?_
      refine then_go ?_
      refine wc_ret ?_
      have hyes : clashP a b := ⟨hg3, Decidable.not_not.1 h16⟩
      exact ret3 rfl rfl rfl (st.out ⟨_, _, by rw [decide_eq_true hyes]; rfl, fun _ => ⟨a, b, hyes, hal, hbl, hs1.mono hg2.le, hs2⟩⟩)

theorem c_first1 {b1 b2 : Nat} {v1 v2 : Value} {L1 L2 : List (By × Value)} {i : Nat} {ty1 ty2 : TypeId} (him : Im m wI) (hm1 : m b1 = some (.cells #[v1] ty1 (0, 0))) (hm2 : m b2 = some (.cells #[v2] ty2 (0, 0))) (h1 : PcsM m v1 L1) (h2 : PcsM m v2 L2) (hi1 : i < L1.length) (hi2 : i < L2.length)
    (hb1 : ∀ x ∈ L1, x.1.length ≤ 1099511627776) (hb2 : ∀ x ∈ L2, x.1.length ≤ 1099511627776) :
    Ret Try.prog 81 #[.int .i64 i, .pointer (some ⟨b1, 0, none⟩), .pointer (some ⟨b2, 0, none⟩)] wI fun v' w' => Out m wI w' fun m' => ClM m' v' (decide (clashP L1[i].1 L2[i].1)) := by
  have st := St.start him
  obtain ⟨a1, o1, c1, rfl, hs1, hr1⟩ := h1.elem hi1
  obtain ⟨a2, o2, c2, rfl, hs2, hr2⟩ := h2.elem hi2
  refine ret_of Try.call81 Try.func81 rfl Try.ntmps81 Try.results81 rfl ?_
  refine wc_seq ?_
  refine wc_region ?_
  refine wl_val (v_assign' (by conv => (lhs; whnf))) rfl ?_
  refine wl_val (v_assign' (by conv => (lhs; whnf))) rfl ?_
  refine wl_val (v_assign' (by conv => (lhs; whnf))) rfl ?_
  refine wl_nil ?_
  refine then_go ?_
  refine wc_seq ?_
  refine wc_draw TF.mixed ?_
  have st := st.pure (touch_drew _)
  refine fl_ld 0 rfl (v_load rfl (st.readm hm1 TF.t102 rfl)) (by kernel_rfl) ?_
  refine fl_val 1 rfl (fun _ => (v_move' (by conv => (lhs; whnf)))) rfl (by kernel_rfl) ?_
  refine fl_val 2 rfl (fun _ => (v_ias i Try.underlying102 TF.t41 rfl rfl (by first | rfl | omega) (by first | omega | (dsimp only at *; omega)))) rfl (by kernel_rfl) ?_
  refine fl_ld 3 rfl (v_load rfl (hr1 st.im)) (by kernel_rfl) ?_
  refine fl_ld 4 rfl (v_load rfl (st.readm hm2 TF.t102 rfl)) (by kernel_rfl) ?_
  refine fl_val 5 rfl (fun _ => (v_move' (by conv => (lhs; whnf)))) rfl (by kernel_rfl) ?_
  refine fl_val 6 rfl (fun _ => (v_ias i Try.underlying102 TF.t41 rfl rfl (by first | rfl | omega) (by first | omega | (dsimp only at *; omega)))) rfl (by kernel_rfl) ?_
  refine fl_ld 7 rfl (v_load rfl (hr2 st.im)) (by kernel_rfl) ?_
  refine fl_eff1 8 [6, 5, 2, 1] [4, 0] (by kernel_rfl) ⟨obl_ld rfl rfl rfl (v_load rfl (hr2 st.im)), obl_ld rfl rfl rfl (v_load rfl (st.readm hm2 TF.t102 rfl)), obl_ld rfl rfl rfl (v_load rfl (hr1 st.im)), obl_ld rfl rfl rfl (v_load rfl (st.readm hm1 TF.t102 rfl)), trivial⟩ rfl ?_
  refine wl_call rfl (c_clpair st.im hs1 hs2 (hb1 _ (List.getElem_mem hi1)) (hb2 _ (List.getElem_mem hi2))) rfl ?_
  rintro v15 w ⟨t15, m1, hg1, hi1', hc⟩
  have st := st.grown hg1 t15 hi1'
  have hm1 := hg1.le _ _ hm1
  have hm2 := hg1.le _ _ hm2
  obtain ⟨x, y, rfl, hc⟩ := hc
  refine wl_nil ⟨rfl, ?_⟩
  refine fl_val 9 rfl (fun _ => (v_extract rfl rfl)) rfl (by kernel_rfl) ?_
  refine fl_val 10 rfl (fun _ => (v_extract rfl rfl)) rfl (by kernel_rfl) ?_
  refine fl_val 11 rfl (fun _ => (v_extract rfl rfl)) rfl (by kernel_rfl) ?_
  refine fl_eff1 12 [] [] (by kernel_rfl) ⟨obl_ld rfl rfl rfl (v_load rfl (st.readm hm2 TF.t102 rfl)), obl_ld rfl rfl rfl (v_load rfl (st.readm hm1 TF.t102 rfl)), trivial⟩ rfl ?_
  refine wl_val (v_assign' (by conv => (lhs; whnf))) rfl ?_
  refine wl_nil ⟨rfl, ?_⟩
  refine fl_eff1 13 [] [] (by kernel_rfl) trivial rfl ?_
  refine wl_val (v_assign' (by conv => (lhs; whnf))) rfl ?_
  refine wl_nil ⟨rfl, ?_⟩
  refine fl_eff1 14 [] [] (by kernel_rfl) trivial rfl ?_
  refine wl_val (v_assign' (by conv => (lhs; whnf))) rfl ?_
  refine wl_nil ⟨rfl, ?_⟩
  refine fl_nil (by kernel_rfl) trivial ?_
  refine then_go ?_
  refine wc_ret ?_
  exact ret3 rfl rfl rfl (st.out ⟨_, _, rfl, hc⟩)

theorem c_clfirst {v1 v2 : Value} {L1 L2 : List (By × Value)} (him : Im m wI) (h1 : PcsM m v1 L1) (h2 : PcsM m v2 L2) (hL1 : L1.length ≤ 1000000) (hL2 : L2.length ≤ 1000000)
    (hb1 : ∀ x ∈ L1, x.1.length ≤ 1099511627776) (hb2 : ∀ x ∈ L2, x.1.length ≤ 1099511627776) :
    Ret Try.prog 58 #[v1, v2] wI fun v' w' => Out m wI w' fun m' => ∃ ok, ClM m' v' ok ∧ (ok = false → ∀ i (i1 : i < L1.length) (i2 : i < L2.length), ¬ clashP L1[i].1 L2[i].1) := by
  have st := St.start him
  obtain ⟨_, a1, c1, rfl, _⟩ := id h1.1
  obtain ⟨_, a2, c2, rfl, _⟩ := id h2.1
  refine ret_of Try.call58 Try.func58 rfl Try.ntmps58 Try.results58 rfl ?_
  refine wc_seq ?_
  refine wc_region ?_
  refine wl_box (v := .slice a1 L1.length c1) rfl st rfl ?_
  intro b2 w st
  refine wl_box (v := .slice a2 L2.length c2) rfl st rfl ?_
  intro b3 w st
  refine wl_val (v_assign' (by conv => (lhs; whnf))) rfl ?_
  refine wl_val (v_assign' (by conv => (lhs; whnf))) rfl ?_
  refine wl_val (v_assign' (by conv => (lhs; whnf))) rfl ?_
  refine wl_nil ?_
  obtain ⟨m1, hg1, hm1, st⟩ := st.freeze (i := 0) rfl (by simp)
  change St _ _ _ _ _ [_] at st
  obtain ⟨m2, hg2, hm2, st⟩ := st.freeze (i := 0) rfl (by simp)
  change St _ _ _ _ _ [] at st
  have hm1 := hg2.le _ _ hm1
  have h1 := h1.mono (fun k o h => hg2.le _ _ (hg1.le k o h))
  have h2 := h2.mono (fun k o h => hg2.le _ _ (hg1.le k o h))
  refine then_go ?_
  refine wc_seq ?_
  refine wc_region ?_
  refine wl_val (v_mkfunc rfl rfl) rfl ?_
  refine wl_val (v_assign' (by conv => (lhs; whnf))) rfl ?_
  refine wl_nil ?_
  refine then_go ?_
  refine wc_seq ?_
  refine wc_seq ?_
  refine wc_region ?_
  refine wl_val (v_load rfl (st.readm (v := .slice a1 L1.length c1) hm2 TF.t102 rfl)) rfl ?_
  refine wl_val (v_len_s Try.underlying102 rfl) rfl ?_
  refine wl_val (v_load rfl (st.readm (v := .slice a2 L2.length c2) hm1 TF.t102 rfl)) rfl ?_
  refine wl_val (v_len_s Try.underlying102 rfl) rfl ?_
  refine wl_val (v_min rfl rfl) rfl ?_
  refine wl_val (v_move' (by conv => (lhs; whnf))) rfl ?_
  refine wl_nil ?_
  refine then_go ?_
  refine wc_block ?_
  refine wc_loop (S := Nat) (fun q r w' => ∃ (i : Nat) (m3 : Mem), q + i = min L1.length L2.length ∧ r 7 = .func (.func 81) #[] #[.pointer (some ⟨b2, 0, none⟩), .pointer (some ⟨b3, 0, none⟩)] ∧ r 17 = .int .i64 (min (L1.length : Int) (L2.length : Int)) ∧ r 18 = .int .i64 i ∧ (∀ j (j1 : j < L1.length) (j2 : j < L2.length), j < i → ¬ clashP L1[j].1 L2[j].1) ∧
    m3 b2 = some (.cells #[.slice a1 L1.length c1] 102 (0, 0)) ∧ m3 b3 = some (.cells #[.slice a2 L2.length c2] 102 (0, 0)) ∧ PcsM m3 (.slice a1 L1.length c1) L1 ∧ PcsM m3 (.slice a2 L2.length c2) L2 ∧ St m m3 [] wI w' []) id (min L1.length L2.length) ⟨0, m2, by omega, rfl, rfl, rfl, by omega, hm2, hm1, h1, h2, st⟩ ?_
  clear h1 h2 hm1 hm2
  rintro q r w2 ⟨i, m3, hqi, g7, g17, g18, hno, hm2, hm1, h1, h2, st⟩
  refine wc_o 7 g7 (wc_o 17 g17 (wc_o 18 g18 ?_))
  refine wc_seq ?_
  refine wc_region ?_
  refine wl_val (v_lss rfl rfl) rfl ?_
  refine wl_nil ?_
  refine then_go ?_
  refine wc_seq ?_
  refine wc_if rfl (fun h19 => ?_) (fun h19 => ?_)
  · refine wc_skip ?_
    refine then_go ?_
    refine wc_seq ?_
    refine wc_block ?_
    refine wc_seq ?_
    have hi1 : i < L1.length := by omega
    have hi2 : i < L2.length := by omega
    refine wc_region ?_
    refine wl_val (v_move' (by conv => (lhs; whnf))) rfl ?_
    refine wl_val (v_assign' (by conv => (lhs; whnf))) rfl ?_
    refine wl_nil ?_
    refine then_go ?_
    refine wc_seq ?_
    refine wc_region ?_
    refine wl_val (v_move' (by conv => (lhs; whnf))) rfl ?_
    refine wl_val (v_move' (by conv => (lhs; whnf))) rfl ?_
    refine wl_callv rfl rfl (c_first1 st.im hm2 hm1 h1 h2 hi1 hi2 hb1 hb2) rfl ?_
    rintro v24 w ⟨t24, m4, hg4, hi4, hc⟩
    have st := st.grown hg4 t24 hi4
    obtain ⟨x, y, rfl, hc⟩ := hc
    refine wl_val (v_move' (by conv => (lhs; whnf))) rfl ?_
    refine wl_val (v_extract rfl rfl) rfl ?_
    refine wl_val (v_extract rfl rfl) rfl ?_
    refine wl_val (v_extract rfl rfl) rfl ?_
    refine wl_val (v_assign' (by conv => (lhs; whnf))) rfl ?_
    refine wl_val (v_assign' (by conv => (lhs; whnf))) rfl ?_
    refine wl_val (v_assign' (by conv => (lhs; whnf))) rfl ?_
    refine wl_nil ?_
    refine then_go ?_
    refine wc_seq ?_
    refine wc_region ?_
    refine wl_val (v_move' (by conv => (lhs; whnf))) rfl ?_
    refine wl_nil ?_
    refine then_go ?_
    refine wc_cond rfl (fun h28 => ?_) (fun h28 => ?_)
    · refine wc_seq ?_
      refine wc_region ?_
      refine wl_val (v_move' (by conv => (lhs; whnf))) rfl ?_
      refine wl_val (v_move' (by conv => (lhs; whnf))) rfl ?_
      refine wl_val (v_assign' (by conv => (lhs; whnf))) rfl ?_
      refine wl_val (v_assign' (by conv => (lhs; whnf))) rfl ?_
      refine wl_val (v_assign' (by conv => (lhs; whnf))) rfl ?_
      refine wl_nil ?_
      refine then_go ?_
      refine wc_ret (block_ret (then_ret (then_ret (block_ret (then_ret ?_)))))
      exact ret3 rfl rfl rfl (st.out ⟨true, ⟨_, _, rfl, fun _ => hc h28⟩, fun h => by cases h⟩)
    · refine wc_skip ?_
      refine block_go (then_go ?_)
      refine wc_region ?_
      refine wl_val (v_add' rfl rfl rfl (by first | omega | (dsimp only at *; omega)) (by first | omega | (dsimp only at *; omega))) rfl ?_
      refine wl_val (v_move' (by conv => (lhs; whnf))) rfl ?_
      refine wl_nil ?_
      refine then_go ?_
      refine ⟨q - 1, by simp; omega, i + 1, m4, by omega, rfl, rfl, rfl, fun j j1 j2 hj => ?_, hg4.le _ _ hm2, hg4.le _ _ hm1, h1.mono hg4.le, h2.mono hg4.le, st⟩
      by_cases hji : j = i
      · subst hji; exact of_decide_eq_false h28
      · exact hno j j1 j2 (by omega)
  · refine wc_exit (then_exit (then_exit (block_hit ?_)))
    refine then_go ?_
    refine wc_seq ?_
    refine wc_region ?_
    refine wl_val (v_assign' (by conv => (lhs; whnf))) rfl ?_
    refine wl_val (v_assign' (by conv => (lhs; whnf))) rfl ?_
    refine wl_val (v_assign' (by conv => (lhs; whnf))) rfl ?_
    refine wl_nil ?_
    refine then_go ?_
    refine wc_ret ?_
    exact ret3 rfl rfl rfl (st.out ⟨false, ⟨_, _, rfl, fun h => by cases h⟩, fun _ j j1 j2 => hno j j1 j2 (by omega)⟩)

/-- No two of these clash, place by place. -/
def noClash (A B : List By) : Prop := ∀ (i : Nat) (a b : By), A[i]? = some a → B[i]? = some b → ¬ clashP a b

theorem c_ways {v1 v2 : Value} {idx : By} {p1 p2 : Prf} (him : Im m wI) (hx : idx.length = 32) (h1 : PrM m v1 p1) (h2 : PrM m v2 p2) (hS1 : p1.S.length ≤ 300) (hS2 : p2.S.length ≤ 300) :
    Ret Try.prog 23 #[arr idx, v1, v2] wI fun v' w' => Out m wI w' fun m' => ∃ ok, ClM m' v' ok ∧ (ok = false → noClash (hashedL idx 0 p1.S (endB p1)) (hashedL idx 0 p2.S (endB p2))) := by
  have st := St.start him
  have h10 := h1
  have h20 := h2
  obtain ⟨sv1, rfl, hs1, hI1, hV1⟩ := h1
  obtain ⟨sv2, rfl, hs2, hI2, hV2⟩ := h2
  refine ret_of Try.call23 Try.func23 rfl Try.ntmps23 Try.results23 rfl ?_
  refine wc_seq ?_
  refine wc_region ?_
  refine wl_box (v := arr idx) rfl st rfl ?_
  intro b3 w st
  refine wl_box (v := .agg (prC sv1 p1.E p1.I p1.V)) rfl st rfl ?_
  intro b4 w st
  refine wl_box (v := .agg (prC sv2 p2.E p2.I p2.V)) rfl st rfl ?_
  intro b5 w st
  refine wl_val (v_assign' (by conv => (lhs; whnf))) rfl ?_
  refine wl_val (v_assign' (by conv => (lhs; whnf))) rfl ?_
  refine wl_val (v_assign' (by conv => (lhs; whnf))) rfl ?_
  refine wl_nil ?_
  refine then_go ?_
  refine wc_seq ?_
  refine wc_draw TF.mixed ?_
  have st := st.pure (touch_drew _)
  refine fl_ld 0 rfl (v_load rfl (st.reads (v := arr idx) 2 rfl TF.t23 (getV_all (by rw [size_arr, hx])))) (by kernel_rfl) ?_
  refine fl_ld 1 rfl (v_load rfl (st.reads (v := .agg (prC sv1 p1.E p1.I p1.V)) 1 rfl TF.t40 (getV_all (size_prC hI1 hV1)))) (by kernel_rfl) ?_
  refine fl_ld 3 rfl (v_load rfl (st.reads (v := arr idx) 2 rfl TF.t23 (getV_all (by rw [size_arr, hx])))) (by kernel_rfl) ?_
  refine fl_ld 4 rfl (v_load rfl (st.reads (v := .agg (prC sv2 p2.E p2.I p2.V)) 0 rfl TF.t40 (getV_all (size_prC hI2 hV2)))) (by kernel_rfl) ?_
  refine fl_eff1 2 [] [4, 3] (by kernel_rfl) ⟨obl_ld rfl rfl rfl (v_load rfl (st.reads (v := .agg (prC sv2 p2.E p2.I p2.V)) 0 rfl TF.t40 (getV_all (size_prC hI2 hV2)))), obl_ld rfl rfl rfl (v_load rfl (st.reads (v := arr idx) 2 rfl TF.t23 (getV_all (by rw [size_arr, hx])))), obl_ld rfl rfl rfl (v_load rfl (st.reads (v := .agg (prC sv1 p1.E p1.I p1.V)) 1 rfl TF.t40 (getV_all (size_prC hI1 hV1)))), obl_ld rfl rfl rfl (v_load rfl (st.reads (v := arr idx) 2 rfl TF.t23 (getV_all (by rw [size_arr, hx])))), trivial⟩ rfl ?_
  refine wl_call rfl (c_hashed st.im hx h10 hS1) rfl ?_
  rintro v11 w ⟨t11, m1, hg1, hi1, L1, hL1, hm1⟩
  have st := st.grown hg1 t11 hi1
  have h20 := h20.mono hg1.le
  refine wl_nil ⟨rfl, ?_⟩
  refine fl_eff1 5 [] [] (by kernel_rfl) ⟨obl_ld rfl rfl rfl (v_load rfl (st.reads (v := .agg (prC sv2 p2.E p2.I p2.V)) 0 rfl TF.t40 (getV_all (size_prC hI2 hV2)))), obl_ld rfl rfl rfl (v_load rfl (st.reads (v := arr idx) 2 rfl TF.t23 (getV_all (by rw [size_arr, hx])))), trivial⟩ rfl ?_
  refine wl_call rfl (c_hashed st.im hx h20 hS2) rfl ?_
  rintro v14 w ⟨t14, m2, hg2, hi2, L2, hL2, hm2⟩
  have st := st.grown hg2 t14 hi2
  have hL1 := hL1.mono hg2.le
  have hl1 : L1.length = p1.S.length + 1 := by have := congrArg List.length hm1; rwa [List.length_map, length_hashedL] at this
  have hl2 : L2.length = p2.S.length + 1 := by have := congrArg List.length hm2; rwa [List.length_map, length_hashedL] at this
  have hb1 : ∀ x ∈ L1, x.1.length ≤ 1099511627776 := fun x hx' => by
    have := hashedL_le (idx := idx) (d := 0) hs1.1 (endB_len hI1 hV1) x.1 (by rw [← hm1]; exact List.mem_map_of_mem hx')
    omega
  have hb2 : ∀ x ∈ L2, x.1.length ≤ 1099511627776 := fun x hx' => by
    have := hashedL_le (idx := idx) (d := 0) hs2.1 (endB_len hI2 hV2) x.1 (by rw [← hm2]; exact List.mem_map_of_mem hx')
    omega
  refine wl_nil ⟨rfl, ?_⟩
  refine fl_eff1 6 [] [] (by kernel_rfl) trivial rfl ?_
  refine wl_call rfl (c_clfirst st.im hL1 hL2 (by omega) (by omega) hb1 hb2) rfl ?_
  rintro v15 w ⟨t15, m3, hg3, hi3, ok, ⟨x, y, rfl, hc⟩, hno⟩
  have st := st.grown hg3 t15 hi3
  refine wl_nil ⟨rfl, ?_⟩
  refine fl_val 7 rfl (fun _ => (v_extract rfl rfl)) rfl (by kernel_rfl) ?_
  refine fl_val 8 rfl (fun _ => (v_extract rfl rfl)) rfl (by kernel_rfl) ?_
  refine fl_val 9 rfl (fun _ => (v_extract rfl rfl)) rfl (by kernel_rfl) ?_
  refine fl_eff1 10 [] [] (by kernel_rfl) trivial rfl ?_
  refine wl_val (v_assign' (by conv => (lhs; whnf))) rfl ?_
  refine wl_nil ⟨rfl, ?_⟩
  refine fl_eff1 11 [] [] (by kernel_rfl) trivial rfl ?_
  refine wl_val (v_assign' (by conv => (lhs; whnf))) rfl ?_
  refine wl_nil ⟨rfl, ?_⟩
  refine fl_eff1 12 [] [] (by kernel_rfl) trivial rfl ?_
  refine wl_val (v_assign' (by conv => (lhs; whnf))) rfl ?_
  refine wl_nil ⟨rfl, ?_⟩
  refine fl_nil (by kernel_rfl) trivial ?_
  refine then_go ?_
  refine wc_ret ?_
  refine ret3 rfl rfl rfl ((st.keepOnly (l := []) (List.nil_sublist _)).out ⟨ok, ⟨_, _, rfl, hc⟩, fun h i a b ha hb => ?_⟩)
  rw [← hm1, List.getElem?_map] at ha
  rw [← hm2, List.getElem?_map] at hb
  have q1 : i < L1.length := by
    rcases Nat.lt_or_ge i L1.length with h' | h'
    · exact h'
    · rw [List.getElem?_eq_none h'] at ha; cases ha
  have q2 : i < L2.length := by
    rcases Nat.lt_or_ge i L2.length with h' | h'
    · exact h'
    · rw [List.getElem?_eq_none h'] at hb; cases hb
  rw [List.getElem?_eq_getElem q1] at ha
  rw [List.getElem?_eq_getElem q2] at hb
  simp only [Option.map_some, Option.some.injEq] at ha hb
  rw [← ha, ← hb]
  exact hno h i q1 q2

theorem c_values {v1 v2 : Value} {s1 s2 : By} {d1 d2 : Bd} (him : Im m wI) (hs1 : s1.length = 32) (hs2 : s2.length = 32) (h1 : BdM m v1 d1) (h2 : BdM m v2 d2)
    (hn1 : d1.name.length ≤ 1000000) (hn2 : d2.name.length ≤ 1000000) (hk1 : d1.key.length ≤ 1000000) (hk2 : d2.key.length ≤ 1000000) :
    Ret Try.prog 24 #[arr s1, v1, arr s2, v2] wI fun v' w' => Out m wI w' fun m' => ClM m' v' (decide (clashP (valB s1 d1) (valB s2 d2))) := by
  have st := St.start him
  have h10 := h1
  have h20 := h2
  obtain ⟨k1, rfl, hq1, _⟩ := h1
  obtain ⟨k2, rfl, hq2, _⟩ := h2
  refine ret_of Try.call24 Try.func24 rfl Try.ntmps24 Try.results24 rfl ?_
  refine wc_seq ?_
  refine wc_region ?_
  refine wl_box (v := arr s1) rfl st rfl ?_
  intro b4 w st
  refine wl_box (v := .agg (bdC d1 k1).toArray) rfl st rfl ?_
  intro b5 w st
  refine wl_box (v := arr s2) rfl st rfl ?_
  intro b6 w st
  refine wl_box (v := .agg (bdC d2 k2).toArray) rfl st rfl ?_
  intro b7 w st
  refine wl_val (v_assign' (by conv => (lhs; whnf))) rfl ?_
  refine wl_val (v_assign' (by conv => (lhs; whnf))) rfl ?_
  refine wl_val (v_assign' (by conv => (lhs; whnf))) rfl ?_
  refine wl_nil ?_
  refine then_go ?_
  refine wc_seq ?_
  refine wc_draw TF.mixed ?_
  have st := st.pure (touch_drew _)
  refine fl_ld 0 rfl (v_load rfl (st.reads (v := arr s1) 3 rfl TF.t23 (getV_all (by rw [size_arr, hs1])))) (by kernel_rfl) ?_
  refine fl_ld 1 rfl (v_load rfl (st.reads (v := .agg (bdC d1 k1).toArray) 2 rfl TF.t43 (getV_all rfl))) (by kernel_rfl) ?_
  refine fl_ld 3 rfl (v_load rfl (st.reads (v := arr s2) 1 rfl TF.t23 (getV_all (by rw [size_arr, hs2])))) (by kernel_rfl) ?_
  refine fl_ld 4 rfl (v_load rfl (st.reads (v := .agg (bdC d2 k2).toArray) 0 rfl TF.t43 (getV_all rfl))) (by kernel_rfl) ?_
  refine fl_eff1 2 [] [4, 3] (by kernel_rfl) ⟨obl_ld rfl rfl rfl (v_load rfl (st.reads (v := .agg (bdC d2 k2).toArray) 0 rfl TF.t43 (getV_all rfl))), obl_ld rfl rfl rfl (v_load rfl (st.reads (v := arr s2) 1 rfl TF.t23 (getV_all (by rw [size_arr, hs2])))), obl_ld rfl rfl rfl (v_load rfl (st.reads (v := .agg (bdC d1 k1).toArray) 2 rfl TF.t43 (getV_all rfl))), obl_ld rfl rfl rfl (v_load rfl (st.reads (v := arr s1) 3 rfl TF.t23 (getV_all (by rw [size_arr, hs1])))), trivial⟩ rfl ?_
  refine wl_call rfl (c_valueb st.im hs1 h10 hn1 hk1) rfl ?_
  rintro v13 w ⟨t13, m1, hg1, hi1, hb1⟩
  have st := st.grown hg1 t13 hi1
  have h20 := h20.mono hg1.le
  refine wl_nil ⟨rfl, ?_⟩
  refine fl_eff1 5 [] [] (by kernel_rfl) ⟨obl_ld rfl rfl rfl (v_load rfl (st.reads (v := .agg (bdC d2 k2).toArray) 0 rfl TF.t43 (getV_all rfl))), obl_ld rfl rfl rfl (v_load rfl (st.reads (v := arr s2) 1 rfl TF.t23 (getV_all (by rw [size_arr, hs2])))), trivial⟩ rfl ?_
  refine wl_call rfl (c_valueb st.im hs2 h20 hn2 hk2) rfl ?_
  rintro v16 w ⟨t16, m2, hg2, hi2, hb2⟩
  have st := st.grown hg2 t16 hi2
  have hb1 := hb1.mono hg2.le
  refine wl_nil ⟨rfl, ?_⟩
  refine fl_eff1 6 [] [] (by kernel_rfl) trivial rfl ?_
  refine wl_call rfl (c_clpair st.im hb1 hb2 (by rw [valB_len hs1]; omega) (by rw [valB_len hs2]; omega)) rfl ?_
  rintro v17 w ⟨t17, m3, hg3, hi3, ⟨x, y, rfl, hc⟩⟩
  have st := st.grown hg3 t17 hi3
  refine wl_nil ⟨rfl, ?_⟩
  refine fl_val 7 rfl (fun _ => (v_extract rfl rfl)) rfl (by kernel_rfl) ?_
  refine fl_val 8 rfl (fun _ => (v_extract rfl rfl)) rfl (by kernel_rfl) ?_
  refine fl_val 9 rfl (fun _ => (v_extract rfl rfl)) rfl (by kernel_rfl) ?_
  refine fl_eff1 10 [] [] (by kernel_rfl) trivial rfl ?_
  refine wl_val (v_assign' (by conv => (lhs; whnf))) rfl ?_
  refine wl_nil ⟨rfl, ?_⟩
  refine fl_eff1 11 [] [] (by kernel_rfl) trivial rfl ?_
  refine wl_val (v_assign' (by conv => (lhs; whnf))) rfl ?_
  refine wl_nil ⟨rfl, ?_⟩
  refine fl_eff1 12 [] [] (by kernel_rfl) trivial rfl ?_
  refine wl_val (v_assign' (by conv => (lhs; whnf))) rfl ?_
  refine wl_nil ⟨rfl, ?_⟩
  refine fl_nil (by kernel_rfl) trivial ?_
  refine then_go ?_
  refine wc_ret ?_
  exact ret3 rfl rfl rfl ((st.keepOnly (l := []) (List.nil_sublist _)).out ⟨_, _, rfl, hc⟩)

theorem c_r9pair {v1 v2 : Value} {a b : By} (him : Im m wI) (h1 : SlM m v1 1 a.length (bs a)) (h2 : SlM m v2 1 b.length (bs b)) (hal : a.length ≤ 1099511627776) (hbl : b.length ≤ 1099511627776) :
    Ret Try.prog 25 #[v1, v2] wI fun v' w' => Tch wI w' [] [] ∧ v' = .bool (decide (clashP a b)) := by
  have st := St.start him
  refine ret_of Try.call25 Try.func25 rfl Try.ntmps25 Try.results25 rfl ?_
  refine wc_seq ?_
  refine wc_region ?_
  refine wl_val (v_assign' (by conv => (lhs; whnf))) rfl ?_
  refine wl_nil ?_
  refine then_go ?_
  refine wc_seq ?_
  refine wc_region ?_
  refine wl_val (v_move' (by conv => (lhs; whnf))) rfl ?_
  refine wl_val (v_b2s Try.underlying41 Try.underlying5 Try.underlying9 st.im h1 rfl) rfl ?_
  refine wl_val (v_move' (by conv => (lhs; whnf))) rfl ?_
  refine wl_val (v_b2s Try.underlying41 Try.underlying5 Try.underlying9 st.im h2 rfl) rfl ?_
  refine wl_val (v_nes rfl rfl) rfl ?_
  refine wl_val (v_move' (by conv => (lhs; whnf))) rfl ?_
  by_cases hg5 : ¬ a = b
  · rw [show decide (¬ a = b) = true from decide_eq_true hg5]
    refine wl_on rfl rfl ?_
    refine wl_val (v_move' (by conv => (lhs; whnf))) rfl ?_
    refine wl_on rfl rfl ?_
    refine wl_call rfl (c_ref3of st.im h1 hal) rfl ?_
    rintro v12 w ⟨t12, rfl⟩
    have st := st.pure t12
    refine wl_on rfl rfl ?_
    refine wl_val (v_move' (by conv => (lhs; whnf))) rfl ?_
    refine wl_on rfl rfl ?_
    refine wl_call rfl (c_ref3of st.im h2 hbl) rfl ?_
    rintro v14 w ⟨t14, rfl⟩
    have st := st.pure t14
    refine wl_on rfl rfl ?_
    refine wl_val (v_eqD rfl rfl (length_sum _) (length_sum _)) rfl ?_
    refine wl_val (v_pick rfl) rfl ?_
    refine wl_val (v_assign' (by conv => (lhs; whnf))) rfl ?_
    refine wl_nil ?_
    refine then_go ?_
    refine wc_ret ?_
    refine ret1 rfl ⟨st.touch, ?_⟩
    first
      | (have e : decide (clashP a b) = decide (sum a = sum b) := decide_eq_decide.2 ⟨fun h => h.2, fun h => ⟨hg5, h⟩⟩
         rw [e]; rfl)
      | (rw [show decide (clashP a b) = false from decide_eq_false (fun hc => hg5 hc.1)]; rfl)
  · rw [show decide (¬ a = b) = false from decide_eq_false hg5]
    refine wl_off rfl rfl rfl rfl ?_
    refine wl_off rfl rfl rfl rfl ?_
    refine wl_off rfl rfl rfl rfl ?_
    refine wl_off rfl rfl rfl rfl ?_
    refine wl_off rfl rfl rfl rfl ?_
    refine wl_val (v_pick rfl) rfl ?_
    refine wl_val (v_assign' (by conv => (lhs; whnf))) rfl ?_
    refine wl_nil ?_
    refine then_go ?_
    refine wc_ret ?_
    refine ret1 rfl ⟨st.touch, ?_⟩
    first
      | (have e : decide (clashP a b) = decide (sum a = sum b) := decide_eq_decide.2 ⟨fun h => h.2, fun h => ⟨hg5, h⟩⟩
         rw [e]; rfl)
      | (rw [show decide (clashP a b) = false from decide_eq_false (fun hc => hg5 hc.1)]; rfl)
end
end Go.Proofs.Ytjjpakjgppmmdaa

/-
  ClientHistories answers true: what answers prove, epoch by epoch, and which may come behind which.
-/
namespace Go.Proofs.Ytjjpakjgppmmdaa
open Go Go.RowKit K SH PT

def nextE (a b : Fd) : Int := if a.there = false then 0 else if b.there = false ∨ b.bind.serial.toNat < a.bind.serial.toNat ∨ (b.bind.serial.toNat = a.bind.serial.toNat ∧ ¬ a.bind.key = b.bind.key) then 8 else 0

def histGo (x : Vw) (name : By) (e : UInt64) (i0 : By) : Nat → List Fd → List Aw → List Fd × Int
  | _, acc, [] => (acc, 0)
  | i, acc, a :: L =>
    if ¬ askE x name (e + UInt64.ofNat i) a = 0 then ([], askE x name (e + UInt64.ofNat i) a)
    else if 0 < i ∧ ¬ a.index = i0 then ([], 15)
    else if 0 < i ∧ ¬ nextE (acc[i - 1]?.getD fd0) (askF x name (e + UInt64.ofNat i) a) = 0 then ([], 8)
    else histGo x name e i0 (i + 1) (acc ++ [askF x name (e + UInt64.ofNat i) a]) L

def idx0 (L : List Aw) : By := (L[0]?.map (·.index)).getD []

abbrev AwT := Aw × Value × Value
def awP (p : AwT) : List Value := awC p.1 p.2.1 p.2.2
def AwsM (m : Mem) (v : Value) (L : List AwT) : Prop := LsM m v awP 135 L ∧ ∀ p ∈ L, AwOk m p.1 p.2.1 p.2.2
theorem AwsM.mono {m m' : Mem} {v : Value} {L : List AwT} (h : AwsM m v L) (hm : ∀ k o, m k = some o → m' k = some o) : AwsM m' v L := ⟨h.1.mono hm, fun p hp => (h.2 p hp).mono hm⟩
abbrev FdT := Fd × Value
def fdP (p : FdT) : List Value := fdC p.1 p.2
def keyM (m : Mem) (p : FdT) : Prop := SlM m p.2 1 p.1.bind.key.length (bs p.1.bind.key) ∧ p.1.bind.name.length ≤ 9223372036854775807
theorem keyM.mono {m m' : Mem} {p : FdT} (h : keyM m p) (hm : ∀ k o, m k = some o → m' k = some o) : keyM m' p := ⟨h.1.mono hm, h.2⟩
def FdsM (m : Mem) (v : Value) (L : List FdT) : Prop := LsM m v fdP 5 L ∧ ∀ p ∈ L, keyM m p
theorem FdsM.mono {m m' : Mem} {v : Value} {L : List FdT} (h : FdsM m v L) (hm : ∀ k o, m k = some o → m' k = some o) : FdsM m' v L := ⟨h.1.mono hm, fun p hp => (h.2 p hp).mono hm⟩
theorem FdsM.nil {m : Mem} : FdsM m (.slice none 0 0) [] := ⟨LsM.nil, by simp⟩

section
variable {m : Mem} {wI : World}

theorem c_next {v1 v2 : Value} {a b : Fd} (him : Im m wI) (h1 : FdM m v1 a) (h2 : FdM m v2 b) :
    Ret Try.prog 29 #[v1, v2] wI fun v' w' => Tch wI w' [] [] ∧ v' = .int .i64 (nextE a b) := by
  have st := St.start him
  obtain ⟨k1, rfl, hk1, _⟩ := h1
  obtain ⟨k2, rfl, hk2, _⟩ := h2
  have ho1 : k1.oneCell' = true := by obtain ⟨_, _, _, h, _⟩ := hk1; rw [h]; rfl
  have ho2 : k2.oneCell' = true := by obtain ⟨_, _, _, h, _⟩ := hk2; rw [h]; rfl
  refine ret_of Try.call29 Try.func29 rfl Try.ntmps29 Try.results29 rfl ?_
  refine wc_seq ?_
  refine wc_region ?_
  refine wl_box (v := .agg (fdC a k1).toArray) rfl st rfl ?_
  intro b2 w st
  refine wl_box (v := .agg (fdC b k2).toArray) rfl st rfl ?_
  intro b3 w st
  refine wl_val (v_assign' (by conv => (lhs; whnf))) rfl ?_
  refine wl_nil ?_
  refine then_go ?_
  refine wc_seq ?_
  refine wc_draw TF.mixed ?_
  have st := st.pure (touch_drew _)
  show FL _ _ ?ops1 ?post1 [] [] [] _ _
  have fin : ∀ (r : Fr) (w : World) (b5 b6 : Nat), r 2 = .pointer (some ⟨b2, 0, none⟩) → r 3 = .pointer (some ⟨b3, 0, none⟩) → r 5 = .pointer (some ⟨b5, 0, none⟩) → r 6 = .pointer (some ⟨b6, 0, none⟩) → r 7 = .pointer (some ⟨b2, 0 + 2, none⟩) → r 8 = .agg (bdC a.bind k1).toArray → r 9 = .pointer (some ⟨b3, 0 + 2, none⟩) → r 10 = .agg (bdC b.bind k2).toArray →
    St m m [] wI w [K.blk b6 (bdC bd0 (.slice none 0 0)).toArray 43, K.blk b5 (bdC bd0 (.slice none 0 0)).toArray 43, K.blk b3 (fdC b k2).toArray 48, K.blk b2 (fdC a k1).toArray 48] → FL Try.prog 41 ?ops1 ?post1 [5, 4, 3, 2, 1, 0] [2, 0] [3, 1] r w := by
    clear st
    rintro r w b5 b6 g2 g3 g5 g6 g7 g8 g9 g10 st
    refine fl_o 2 g2 (fl_o 3 g3 (fl_o 5 g5 (fl_o 6 g6 (fl_o 7 g7 (fl_o 8 g8 (fl_o 9 g9 (fl_o 10 g10 ?_)))))))
    refine fl_eff1 6 [2] [3] (by kernel_rfl) ⟨obl_ld rfl rfl rfl (v_load rfl (by first | exact st.reads (b := b3) (c := (fdC b k2).toArray) (v := .agg (bdC b.bind k2).toArray) 2 rfl TF.t43 fdB | exact st.reads (b := b3) (c := (fdC b k2).toArray) (v := .agg (bdC b.bind k2).toArray) 1 rfl TF.t43 fdB | exact st.reads (b := b3) (c := (fdC b k2).toArray) (v := .agg (bdC b.bind k2).toArray) 0 rfl TF.t43 fdB)), obl_ld rfl rfl rfl (v_load rfl (by first | exact st.reads (b := b2) (c := (fdC a k1).toArray) (v := .agg (bdC a.bind k1).toArray) 3 rfl TF.t43 fdB | exact st.reads (b := b2) (c := (fdC a k1).toArray) (v := .agg (bdC a.bind k1).toArray) 2 rfl TF.t43 fdB | exact st.reads (b := b2) (c := (fdC a k1).toArray) (v := .agg (bdC a.bind k1).toArray) 1 rfl TF.t43 fdB)), trivial⟩ rfl ?_
    refine wl_storeW (cs := (bdC a.bind k1).toArray) 1 st rfl TF.t43 rfl rfl rfl rfl (fun u hu => by simp [bdC] at hu; rcases hu with rfl | rfl | rfl <;> first | rfl | exact ho1) ?_
    intro w st
    refine wl_nil ⟨rfl, ?_⟩
    refine fl_eff1 7 [] [] (by kernel_rfl) ⟨obl_ld rfl rfl rfl (v_load rfl (by first | exact st.reads (b := b3) (c := (fdC b k2).toArray) (v := .agg (bdC b.bind k2).toArray) 2 rfl TF.t43 fdB | exact st.reads (b := b3) (c := (fdC b k2).toArray) (v := .agg (bdC b.bind k2).toArray) 1 rfl TF.t43 fdB | exact st.reads (b := b3) (c := (fdC b k2).toArray) (v := .agg (bdC b.bind k2).toArray) 0 rfl TF.t43 fdB)), trivial⟩ rfl ?_
    refine wl_storeW (cs := (bdC b.bind k2).toArray) 0 st rfl TF.t43 rfl rfl rfl rfl (fun u hu => by simp [bdC] at hu; rcases hu with rfl | rfl | rfl <;> first | rfl | exact ho2) ?_
    intro w st
    refine wl_nil ⟨rfl, ?_⟩
    refine fl_nil (by kernel_rfl) trivial ?_
    refine then_go ?_
    refine wc_seq ?_
    refine wc_block ?_
    refine wc_seq ?_
    refine wc_region ?_
    refine wl_val (v_fa TF.f48_1 rfl) rfl ?_
    refine wl_val (v_load rfl (st.reads (v := .bool a.there) 3 rfl TF.t4 rfl)) rfl ?_
    refine wl_val (v_not rfl) rfl ?_
    refine wl_val (v_assign' (by conv => (lhs; whnf))) rfl ?_
    refine wl_nil ?_
    refine then_go ?_
    refine wc_cond rfl (fun h11 => ?_) (fun h11 => ?_)
    · refine wc_seq ?_
      refine wc_region ?_
      refine wl_val (v_assign' (by conv => (lhs; whnf))) rfl ?_
      refine wl_nil ?_
      refine then_go ?_
      refine wc_ret (block_ret (then_ret ?_))
      have hno : a.there = false := by simpa using h11
      exact ret1 rfl ⟨(st.keepOnly (l := []) (List.nil_sublist _)).touch, by rw [nextE, if_pos hno]; rfl⟩
    · refine wc_seq ?_
      have hyes : ¬ a.there = false := by simpa using h11
      refine wc_region ?_
      refine wl_val (v_fa TF.f48_1 rfl) rfl ?_
      refine wl_val (v_load rfl (st.reads (v := .bool b.there) 2 rfl TF.t4 rfl)) rfl ?_
      refine wl_val (v_not rfl) rfl ?_
      refine wl_val (v_move' (by conv => (lhs; whnf))) rfl ?_
      rcases Bool.eq_false_or_eq_true (!b.there) with hg3 | hg3
      · rw [hg3]
        refine wl_off rfl rfl rfl rfl ?_
        refine wl_off rfl rfl rfl rfl ?_
        refine wl_off rfl rfl rfl rfl ?_
        refine wl_off rfl rfl rfl rfl ?_
        refine wl_off rfl rfl rfl rfl ?_
        refine wl_val (v_pick rfl) rfl ?_
        refine wl_val (v_move' (by conv => (lhs; whnf))) rfl ?_
        refine wl_off rfl rfl rfl rfl ?_
        refine wl_off rfl rfl rfl rfl ?_
        refine wl_off rfl rfl rfl rfl ?_
        refine wl_off rfl rfl rfl rfl ?_
        refine wl_off rfl rfl rfl rfl ?_
        refine wl_off rfl rfl rfl rfl ?_
        refine offU rfl rfl rfl ?_
        refine offU rfl rfl rfl ?_
        refine offU rfl rfl rfl ?_
        refine offU rfl rfl rfl ?_
        refine offU rfl rfl rfl ?_
        refine offU rfl rfl rfl ?_
        refine wl_off rfl rfl rfl rfl ?_
        refine wl_val (v_pick rfl) rfl ?_
        refine wl_val (v_assign' (by conv => (lhs; whnf))) rfl ?_
        refine wl_nil ?_
        refine then_go ?_
        refine wc_true rfl ?_
        refine wc_seq ?_
        refine wc_region ?_
        refine wl_val (v_assign' (by conv => (lhs; whnf))) rfl ?_
        refine wl_nil ?_
        refine then_go ?_
        refine wc_ret (block_ret (then_ret ?_))
        have hb : b.there = false := by simpa using hg3
        exact ret1 rfl ⟨(st.keepOnly (l := []) (List.nil_sublist _)).touch, by rw [nextE, if_neg hyes, if_pos (.inl hb)]; rfl⟩
      · rw [hg3]
        refine wl_on rfl rfl ?_
        refine wl_val (v_fa TF.f43_2 rfl) rfl ?_
        refine wl_on rfl rfl ?_
        refine wl_val (v_load rfl (st.reads (v := u64 b.bind.serial) 0 rfl TF.t24 rfl)) rfl ?_
        refine wl_on rfl rfl ?_
        refine wl_val (v_fa TF.f43_2 rfl) rfl ?_
        refine wl_on rfl rfl ?_
        refine wl_val (v_load rfl (st.reads (v := u64 a.bind.serial) 1 rfl TF.t24 rfl)) rfl ?_
        refine wl_on rfl rfl ?_
        refine wl_val (v_lss rfl rfl) rfl ?_
        refine wl_val (v_pick rfl) rfl ?_
        refine wl_val (v_move' (by conv => (lhs; whnf))) rfl ?_
        by_cases hg10 : (b.bind.serial.toNat : Int) < (a.bind.serial.toNat : Int)
        · rw [show decide ((b.bind.serial.toNat : Int) < (a.bind.serial.toNat : Int)) = true from decide_eq_true hg10]
          refine wl_off rfl rfl rfl rfl ?_
          refine wl_off rfl rfl rfl rfl ?_
          refine wl_off rfl rfl rfl rfl ?_
          refine wl_off rfl rfl rfl rfl ?_
          refine wl_off rfl rfl rfl rfl ?_
          refine wl_off rfl rfl rfl rfl ?_
          refine offU rfl rfl rfl ?_
          refine offU rfl rfl rfl ?_
          refine offU rfl rfl rfl ?_
          refine offU rfl rfl rfl ?_
          refine offU rfl rfl rfl ?_
          refine offU rfl rfl rfl ?_
          refine wl_off rfl rfl rfl rfl ?_
          refine wl_val (v_pick rfl) rfl ?_
          refine wl_val (v_assign' (by conv => (lhs; whnf))) rfl ?_
          refine wl_nil ?_
          refine then_go ?_
          refine wc_true rfl ?_
          refine wc_seq ?_
          refine wc_region ?_
          refine wl_val (v_assign' (by conv => (lhs; whnf))) rfl ?_
          refine wl_nil ?_
          refine then_go ?_
          refine wc_ret (block_ret (then_ret ?_))
          exact ret1 rfl ⟨(st.keepOnly (l := []) (List.nil_sublist _)).touch, by rw [nextE, if_neg hyes, if_pos (.inr (.inl (by omega)))]; rfl⟩
        · rw [show decide ((b.bind.serial.toNat : Int) < (a.bind.serial.toNat : Int)) = false from decide_eq_false hg10]
          refine wl_on rfl rfl ?_
          refine wl_val (v_fa TF.f43_2 rfl) rfl ?_
          refine wl_on rfl rfl ?_
          refine wl_val (v_load rfl (st.reads (v := u64 b.bind.serial) 0 rfl TF.t24 rfl)) rfl ?_
          refine wl_on rfl rfl ?_
          refine wl_val (v_fa TF.f43_2 rfl) rfl ?_
          refine wl_on rfl rfl ?_
          refine wl_val (v_load rfl (st.reads (v := u64 a.bind.serial) 1 rfl TF.t24 rfl)) rfl ?_
          refine wl_on rfl rfl ?_
          refine wl_val (v_eql rfl rfl) rfl ?_
          refine wl_on rfl rfl ?_
          refine wl_val (v_move' (by conv => (lhs; whnf))) rfl ?_
          by_cases hg16 : (b.bind.serial.toNat : Int) = (a.bind.serial.toNat : Int)
          · rw [show decide ((b.bind.serial.toNat : Int) = (a.bind.serial.toNat : Int)) = true from decide_eq_true hg16]
            refine wl_on rfl rfl ?_
            refine wl_val (v_fa TF.f43_1 rfl) rfl ?_
            refine wl_on rfl rfl ?_
            refine wl_val (v_load rfl (st.reads (v := k1) 1 rfl TF.t41 rfl)) rfl ?_
            refine wl_on rfl rfl ?_
            refine wl_val (v_fa TF.f43_1 rfl) rfl ?_
            refine wl_on rfl rfl ?_
            refine wl_val (v_load rfl (st.reads (v := k2) 0 rfl TF.t41 rfl)) rfl ?_
            refine wl_on rfl rfl ?_
            refine wl_call rfl (c_beq st.im hk1 hk2) rfl ?_
            rintro v37 w ⟨t37, rfl⟩
            have st := st.pure t37
            refine wl_on rfl rfl ?_
            refine wl_val (v_not rfl) rfl ?_
            refine wl_on rfl rfl ?_
            refine wl_val (v_pick rfl) rfl ?_
            refine wl_val (v_pick rfl) rfl ?_
            refine wl_val (v_assign' (by conv => (lhs; whnf))) rfl ?_
            refine wl_nil ?_
            refine then_go ?_
            refine wc_cond rfl (fun h15 => ?_) (fun h15 => ?_)
            · refine wc_seq ?_
              refine wc_region ?_
              refine wl_val (v_assign' (by conv => (lhs; whnf))) rfl ?_
              refine wl_nil ?_
              refine then_go ?_
              refine wc_ret (block_ret (then_ret ?_))
              have hb : ¬ b.there = false := by simpa using hg3
              first
                | (have hk : ¬ a.bind.key = b.bind.key := by simpa using h15
                   exact ret1 rfl ⟨(st.keepOnly (l := []) (List.nil_sublist _)).touch, by rw [nextE, if_neg hyes, if_pos (.inr (.inr ⟨by omega, hk⟩))]; rfl⟩)
                | (have hk : a.bind.key = b.bind.key := by simpa using h15
                   exact ret1 rfl ⟨(st.keepOnly (l := []) (List.nil_sublist _)).touch, by rw [nextE, if_neg hyes, if_neg (by rintro (h | h | h); exact hb h; omega; exact h.2 hk)]; rfl⟩)
                | exact ret1 rfl ⟨(st.keepOnly (l := []) (List.nil_sublist _)).touch, by rw [nextE, if_neg hyes, if_neg (by rintro (h | h | h); exact hb h; omega; omega)]; rfl⟩
            · refine wc_skip ?_
              refine block_go (then_go ?_)
              refine wc_seq ?_
              refine wc_region ?_
              refine wl_val (v_assign' (by conv => (lhs; whnf))) rfl ?_
              refine wl_nil ?_
              refine then_go ?_
              refine wc_ret ?_
              have hb : ¬ b.there = false := by simpa using hg3
              first
                | (have hk : ¬ a.bind.key = b.bind.key := by simpa using h15
                   exact ret1 rfl ⟨(st.keepOnly (l := []) (List.nil_sublist _)).touch, by rw [nextE, if_neg hyes, if_pos (.inr (.inr ⟨by omega, hk⟩))]; rfl⟩)
                | (have hk : a.bind.key = b.bind.key := by simpa using h15
                   exact ret1 rfl ⟨(st.keepOnly (l := []) (List.nil_sublist _)).touch, by rw [nextE, if_neg hyes, if_neg (by rintro (h | h | h); exact hb h; omega; exact h.2 hk)]; rfl⟩)
                | exact ret1 rfl ⟨(st.keepOnly (l := []) (List.nil_sublist _)).touch, by rw [nextE, if_neg hyes, if_neg (by rintro (h | h | h); exact hb h; omega; omega)]; rfl⟩
          · rw [show decide ((b.bind.serial.toNat : Int) = (a.bind.serial.toNat : Int)) = false from decide_eq_false hg16]
            refine wl_off rfl rfl rfl rfl ?_
            refine wl_off rfl rfl rfl rfl ?_
            refine wl_off rfl rfl rfl rfl ?_
            refine wl_off rfl rfl rfl rfl ?_
            refine wl_off rfl rfl rfl rfl ?_
            refine wl_off rfl rfl rfl rfl ?_
            refine wl_on rfl rfl ?_
            refine wl_val (v_pick rfl) rfl ?_
            refine wl_val (v_pick rfl) rfl ?_
            refine wl_val (v_assign' (by conv => (lhs; whnf))) rfl ?_
            refine wl_nil ?_
            refine then_go ?_
            refine wc_false rfl ?_
            refine wc_skip ?_
            refine block_go (then_go ?_)
            refine wc_seq ?_
            refine wc_region ?_
            refine wl_val (v_assign' (by conv => (lhs; whnf))) rfl ?_
            refine wl_nil ?_
            refine then_go ?_
            refine wc_ret ?_
            have hb : ¬ b.there = false := by simpa using hg3
            first
              | (have hk : ¬ a.bind.key = b.bind.key := by simpa using h15
                 exact ret1 rfl ⟨(st.keepOnly (l := []) (List.nil_sublist _)).touch, by rw [nextE, if_neg hyes, if_pos (.inr (.inr ⟨by omega, hk⟩))]; rfl⟩)
              | (have hk : a.bind.key = b.bind.key := by simpa using h15
                 exact ret1 rfl ⟨(st.keepOnly (l := []) (List.nil_sublist _)).touch, by rw [nextE, if_neg hyes, if_neg (by rintro (h | h | h); exact hb h; omega; exact h.2 hk)]; rfl⟩)
              | exact ret1 rfl ⟨(st.keepOnly (l := []) (List.nil_sublist _)).touch, by rw [nextE, if_neg hyes, if_neg (by rintro (h | h | h); exact hb h; omega; omega)]; rfl⟩
  refine fl_val 0 rfl (fun _ => (v_fa TF.f48_2 rfl)) rfl (by kernel_rfl) ?_
  refine fl_ld 1 rfl (v_load rfl (by first | exact st.reads (b := b2) (c := (fdC a k1).toArray) (v := .agg (bdC a.bind k1).toArray) 3 rfl TF.t43 fdB | exact st.reads (b := b2) (c := (fdC a k1).toArray) (v := .agg (bdC a.bind k1).toArray) 2 rfl TF.t43 fdB | exact st.reads (b := b2) (c := (fdC a k1).toArray) (v := .agg (bdC a.bind k1).toArray) 1 rfl TF.t43 fdB)) (by kernel_rfl) ?_
  refine fl_val 2 rfl (fun _ => (v_fa TF.f48_2 rfl)) rfl (by kernel_rfl) ?_
  refine fl_ld 3 rfl (v_load rfl (by first | exact st.reads (b := b3) (c := (fdC b k2).toArray) (v := .agg (bdC b.bind k2).toArray) 2 rfl TF.t43 fdB | exact st.reads (b := b3) (c := (fdC b k2).toArray) (v := .agg (bdC b.bind k2).toArray) 1 rfl TF.t43 fdB | exact st.reads (b := b3) (c := (fdC b k2).toArray) (v := .agg (bdC b.bind k2).toArray) 0 rfl TF.t43 fdB)) (by kernel_rfl) ?_
  refine fl_effs [4, 5] (by kernel_rfl) ⟨obl_ld rfl rfl rfl (v_load rfl (by first | exact st.reads (b := b3) (c := (fdC b k2).toArray) (v := .agg (bdC b.bind k2).toArray) 2 rfl TF.t43 fdB | exact st.reads (b := b3) (c := (fdC b k2).toArray) (v := .agg (bdC b.bind k2).toArray) 1 rfl TF.t43 fdB | exact st.reads (b := b3) (c := (fdC b k2).toArray) (v := .agg (bdC b.bind k2).toArray) 0 rfl TF.t43 fdB)), obl_ld rfl rfl rfl (v_load rfl (by first | exact st.reads (b := b2) (c := (fdC a k1).toArray) (v := .agg (bdC a.bind k1).toArray) 3 rfl TF.t43 fdB | exact st.reads (b := b2) (c := (fdC a k1).toArray) (v := .agg (bdC a.bind k1).toArray) 2 rfl TF.t43 fdB | exact st.reads (b := b2) (c := (fdC a k1).toArray) (v := .agg (bdC a.bind k1).toArray) 1 rfl TF.t43 fdB)), trivial⟩ (all2 ?_ ?_)
  · refine stepE 4 (pure' := [2, 0]) (lds' := [3, 1]) rfl (by kernel_rfl) (by kernel_rfl) ?_
    refine wl_alloc TF.z43 st rfl ?_
    intro b5 w st
    refine wl_nil ⟨rfl, ?_⟩
    refine fl_eff1 5 [2, 0] [3, 1] (by kernel_rfl) ⟨obl_ld rfl rfl rfl (v_load rfl (by first | exact st.reads (b := b3) (c := (fdC b k2).toArray) (v := .agg (bdC b.bind k2).toArray) 2 rfl TF.t43 fdB | exact st.reads (b := b3) (c := (fdC b k2).toArray) (v := .agg (bdC b.bind k2).toArray) 1 rfl TF.t43 fdB | exact st.reads (b := b3) (c := (fdC b k2).toArray) (v := .agg (bdC b.bind k2).toArray) 0 rfl TF.t43 fdB)), obl_ld rfl rfl rfl (v_load rfl (by first | exact st.reads (b := b2) (c := (fdC a k1).toArray) (v := .agg (bdC a.bind k1).toArray) 3 rfl TF.t43 fdB | exact st.reads (b := b2) (c := (fdC a k1).toArray) (v := .agg (bdC a.bind k1).toArray) 2 rfl TF.t43 fdB | exact st.reads (b := b2) (c := (fdC a k1).toArray) (v := .agg (bdC a.bind k1).toArray) 1 rfl TF.t43 fdB)), trivial⟩ rfl ?_
    refine wl_alloc TF.z43 st rfl ?_
    intro b6 w st
    refine wl_nil ⟨rfl, ?_⟩
    refine FL.permB [5, 4, 3, 2, 1, 0] [2, 0] [3, 1] (by kernel_rfl) ?_
    first
      | exact fin _ _ _ _ rfl rfl rfl rfl rfl rfl rfl rfl st
      | exact fin _ _ _ _ rfl rfl rfl rfl rfl rfl rfl rfl (st.perm (List.Perm.swap _ _ _))
  · refine stepE 5 (pure' := [2, 0]) (lds' := [3, 1]) rfl (by kernel_rfl) (by kernel_rfl) ?_
    refine wl_alloc TF.z43 st rfl ?_
    intro b6 w st
    refine wl_nil ⟨rfl, ?_⟩
    refine fl_eff1 4 [2, 0] [3, 1] (by kernel_rfl) ⟨obl_ld rfl rfl rfl (v_load rfl (by first | exact st.reads (b := b3) (c := (fdC b k2).toArray) (v := .agg (bdC b.bind k2).toArray) 2 rfl TF.t43 fdB | exact st.reads (b := b3) (c := (fdC b k2).toArray) (v := .agg (bdC b.bind k2).toArray) 1 rfl TF.t43 fdB | exact st.reads (b := b3) (c := (fdC b k2).toArray) (v := .agg (bdC b.bind k2).toArray) 0 rfl TF.t43 fdB)), obl_ld rfl rfl rfl (v_load rfl (by first | exact st.reads (b := b2) (c := (fdC a k1).toArray) (v := .agg (bdC a.bind k1).toArray) 3 rfl TF.t43 fdB | exact st.reads (b := b2) (c := (fdC a k1).toArray) (v := .agg (bdC a.bind k1).toArray) 2 rfl TF.t43 fdB | exact st.reads (b := b2) (c := (fdC a k1).toArray) (v := .agg (bdC a.bind k1).toArray) 1 rfl TF.t43 fdB)), trivial⟩ rfl ?_
    refine wl_alloc TF.z43 st rfl ?_
    intro b5 w st
    refine wl_nil ⟨rfl, ?_⟩
    refine FL.permB [5, 4, 3, 2, 1, 0] [2, 0] [3, 1] (by kernel_rfl) ?_
    first
      | exact fin _ _ _ _ rfl rfl rfl rfl rfl rfl rfl rfl st
      | exact fin _ _ _ _ rfl rfl rfl rfl rfl rfl rfl rfl (st.perm (List.Perm.swap _ _ _))

theorem c_rnext {v1 v2 : Value} {a b : Fd} (him : Im m wI) (h1 : FdM m v1 a) (h2 : FdM m v2 b) :
    Ret Try.prog 30 #[v1, v2] wI fun v' w' => Tch wI w' [] [] ∧ v' = .int .i64 (nextE a b) := by
  have st := St.start him
  obtain ⟨k1, rfl, hk1, _⟩ := h1
  obtain ⟨k2, rfl, hk2, _⟩ := h2
  have ho1 : k1.oneCell' = true := by obtain ⟨_, _, _, h, _⟩ := hk1; rw [h]; rfl
  have ho2 : k2.oneCell' = true := by obtain ⟨_, _, _, h, _⟩ := hk2; rw [h]; rfl
  refine ret_of Try.call30 Try.func30 rfl Try.ntmps30 Try.results30 rfl ?_
  refine wc_seq ?_
  refine wc_region ?_
  refine wl_box (v := .agg (fdC a k1).toArray) rfl st rfl ?_
  intro b2 w st
  refine wl_box (v := .agg (fdC b k2).toArray) rfl st rfl ?_
  intro b3 w st
  refine wl_val (v_assign' (by conv => (lhs; whnf))) rfl ?_
  refine wl_nil ?_
  refine then_go ?_
  refine wc_seq ?_
  refine wc_seq ?_
  refine wc_region ?_
  refine wl_val (v_fa TF.f48_1 rfl) rfl ?_
  refine wl_val (v_load rfl (st.reads (v := .bool a.there) 1 rfl TF.t4 rfl)) rfl ?_
  refine wl_val (v_not rfl) rfl ?_
  refine wl_nil ?_
  refine then_go ?_
  refine wc_cond rfl (fun h9 => ?_) (fun h9 => ?_)
  · refine wc_seq ?_
    refine wc_region ?_
    refine wl_val (v_assign' (by conv => (lhs; whnf))) rfl ?_
    refine wl_nil ?_
    refine then_go ?_
    refine wc_ret (then_ret ?_)
    have hno : a.there = false := by simpa using h9
    exact ret1 rfl ⟨(st.keepOnly (l := []) (List.nil_sublist _)).touch, by rw [nextE, if_pos hno]; rfl⟩
  · refine wc_skip ?_
    refine then_go ?_
    refine wc_seq ?_
    refine wc_region ?_
    refine wl_val (v_fa TF.f48_2 rfl) rfl ?_
    refine wl_val (v_load rfl (st.reads (v := .agg (bdC a.bind k1).toArray) 1 rfl TF.t43 fdB)) rfl ?_
    refine wl_alloc TF.z43 st rfl ?_
    intro b5 w st
    refine wl_storeW (cs := (bdC a.bind k1).toArray) 0 st rfl TF.t43 rfl rfl rfl rfl (fun u hu => by simp [bdC] at hu; rcases hu with rfl | rfl | rfl <;> first | rfl | exact ho1) ?_
    intro w st
    refine wl_nil ?_
    refine then_go ?_
    refine wc_seq ?_
    refine wc_region ?_
    refine wl_val (v_fa TF.f48_2 rfl) rfl ?_
    refine wl_val (v_load rfl (st.reads (v := .agg (bdC b.bind k2).toArray) 1 rfl TF.t43 fdB)) rfl ?_
    refine wl_alloc TF.z43 st rfl ?_
    intro b6 w st
    refine wl_storeW (cs := (bdC b.bind k2).toArray) 0 st rfl TF.t43 rfl rfl rfl rfl (fun u hu => by simp [bdC] at hu; rcases hu with rfl | rfl | rfl <;> first | rfl | exact ho2) ?_
    intro w st
    refine wl_nil ?_
    refine then_go ?_
    refine wc_seq ?_
    refine wc_seq ?_
    have hyes : ¬ a.there = false := by simpa using h9
    refine wc_region ?_
    refine wl_val (v_fa TF.f48_1 rfl) rfl ?_
    refine wl_val (v_load rfl (st.reads (v := .bool b.there) 2 rfl TF.t4 rfl)) rfl ?_
    refine wl_val (v_not rfl) rfl ?_
    refine wl_val (v_move' (by conv => (lhs; whnf))) rfl ?_
    rcases Bool.eq_false_or_eq_true (!b.there) with hg3 | hg3
    · rw [hg3]
      refine wl_off rfl rfl rfl rfl ?_
      refine wl_off rfl rfl rfl rfl ?_
      refine wl_off rfl rfl rfl rfl ?_
      refine wl_off rfl rfl rfl rfl ?_
      refine wl_off rfl rfl rfl rfl ?_
      refine wl_val (v_pick rfl) rfl ?_
      refine wl_val (v_move' (by conv => (lhs; whnf))) rfl ?_
      refine wl_off rfl rfl rfl rfl ?_
      refine wl_off rfl rfl rfl rfl ?_
      refine wl_off rfl rfl rfl rfl ?_
      refine wl_off rfl rfl rfl rfl ?_
      refine wl_off rfl rfl rfl rfl ?_
      refine wl_off rfl rfl rfl rfl ?_
      refine offU rfl rfl rfl ?_
      refine offU rfl rfl rfl ?_
      refine offU rfl rfl rfl ?_
      refine offU rfl rfl rfl ?_
      refine offU rfl rfl rfl ?_
      refine offU rfl rfl rfl ?_
      refine offU rfl rfl rfl ?_
      refine wl_off rfl rfl rfl rfl ?_
      refine wl_val (v_pick rfl) rfl ?_
      refine wl_nil ?_
      refine then_go ?_
      refine wc_true rfl ?_
      refine wc_seq ?_
      refine wc_region ?_
      refine wl_val (v_assign' (by conv => (lhs; whnf))) rfl ?_
      refine wl_nil ?_
      refine then_go ?_
      refine wc_ret (then_ret ?_)
      have hb : b.there = false := by simpa using hg3
      exact ret1 rfl ⟨(st.keepOnly (l := []) (List.nil_sublist _)).touch, by rw [nextE, if_neg hyes, if_pos (.inl hb)]; rfl⟩
    · rw [hg3]
      refine wl_on rfl rfl ?_
      refine wl_val (v_fa TF.f43_2 rfl) rfl ?_
      refine wl_on rfl rfl ?_
      refine wl_val (v_load rfl (st.reads (v := u64 b.bind.serial) 0 rfl TF.t24 rfl)) rfl ?_
      refine wl_on rfl rfl ?_
      refine wl_val (v_fa TF.f43_2 rfl) rfl ?_
      refine wl_on rfl rfl ?_
      refine wl_val (v_load rfl (st.reads (v := u64 a.bind.serial) 1 rfl TF.t24 rfl)) rfl ?_
      refine wl_on rfl rfl ?_
      refine wl_val (v_lss rfl rfl) rfl ?_
      refine wl_val (v_pick rfl) rfl ?_
      refine wl_val (v_move' (by conv => (lhs; whnf))) rfl ?_
      by_cases hg10 : (b.bind.serial.toNat : Int) < (a.bind.serial.toNat : Int)
      · rw [show decide ((b.bind.serial.toNat : Int) < (a.bind.serial.toNat : Int)) = true from decide_eq_true hg10]
        refine wl_off rfl rfl rfl rfl ?_
        refine wl_off rfl rfl rfl rfl ?_
        refine wl_off rfl rfl rfl rfl ?_
        refine wl_off rfl rfl rfl rfl ?_
        refine wl_off rfl rfl rfl rfl ?_
        refine wl_off rfl rfl rfl rfl ?_
        refine offU rfl rfl rfl ?_
        refine offU rfl rfl rfl ?_
        refine offU rfl rfl rfl ?_
        refine offU rfl rfl rfl ?_
        refine offU rfl rfl rfl ?_
        refine offU rfl rfl rfl ?_
        refine offU rfl rfl rfl ?_
        refine wl_off rfl rfl rfl rfl ?_
        refine wl_val (v_pick rfl) rfl ?_
        refine wl_nil ?_
        refine then_go ?_
        refine wc_true rfl ?_
        refine wc_seq ?_
        refine wc_region ?_
        refine wl_val (v_assign' (by conv => (lhs; whnf))) rfl ?_
        refine wl_nil ?_
        refine then_go ?_
        refine wc_ret (then_ret ?_)
        exact ret1 rfl ⟨(st.keepOnly (l := []) (List.nil_sublist _)).touch, by rw [nextE, if_neg hyes, if_pos (.inr (.inl (by omega)))]; rfl⟩
      · rw [show decide ((b.bind.serial.toNat : Int) < (a.bind.serial.toNat : Int)) = false from decide_eq_false hg10]
        refine wl_on rfl rfl ?_
        refine wl_val (v_fa TF.f43_2 rfl) rfl ?_
        refine wl_on rfl rfl ?_
        refine wl_val (v_load rfl (st.reads (v := u64 b.bind.serial) 0 rfl TF.t24 rfl)) rfl ?_
        refine wl_on rfl rfl ?_
        refine wl_val (v_fa TF.f43_2 rfl) rfl ?_
        refine wl_on rfl rfl ?_
        refine wl_val (v_load rfl (st.reads (v := u64 a.bind.serial) 1 rfl TF.t24 rfl)) rfl ?_
        refine wl_on rfl rfl ?_
        refine wl_val (v_eql rfl rfl) rfl ?_
        refine wl_on rfl rfl ?_
        refine wl_val (v_move' (by conv => (lhs; whnf))) rfl ?_
        by_cases hg16 : (b.bind.serial.toNat : Int) = (a.bind.serial.toNat : Int)
        · rw [show decide ((b.bind.serial.toNat : Int) = (a.bind.serial.toNat : Int)) = true from decide_eq_true hg16]
          refine wl_on rfl rfl ?_
          refine wl_val (v_fa TF.f43_1 rfl) rfl ?_
          refine wl_on rfl rfl ?_
          refine wl_val (v_load rfl (st.reads (v := k2) 0 rfl TF.t41 rfl)) rfl ?_
          refine wl_on rfl rfl ?_
          refine wl_val (v_b2s Try.underlying41 Try.underlying5 Try.underlying9 st.im hk2 rfl) rfl ?_
          refine wl_on rfl rfl ?_
          refine wl_val (v_fa TF.f43_1 rfl) rfl ?_
          refine wl_on rfl rfl ?_
          refine wl_val (v_load rfl (st.reads (v := k1) 1 rfl TF.t41 rfl)) rfl ?_
          refine wl_on rfl rfl ?_
          refine wl_val (v_b2s Try.underlying41 Try.underlying5 Try.underlying9 st.im hk1 rfl) rfl ?_
          refine wl_on rfl rfl ?_
          refine wl_val (v_nes rfl rfl) rfl ?_
          refine wl_on rfl rfl ?_
          refine wl_val (v_pick rfl) rfl ?_
          refine wl_val (v_pick rfl) rfl ?_
          refine wl_nil ?_
          refine then_go ?_
          refine wc_if rfl (fun h39 => ?_) (fun h39 => ?_)
          · refine wc_seq ?_
            refine wc_region ?_
            refine wl_val (v_assign' (by conv => (lhs; whnf))) rfl ?_
            refine wl_nil ?_
            refine then_go ?_
            refine wc_ret (then_ret ?_)
            have hb : ¬ b.there = false := by simpa using hg3
            first
              | exact ret1 rfl ⟨(st.keepOnly (l := []) (List.nil_sublist _)).touch, by rw [nextE, if_neg hyes, if_pos (.inr (.inr ⟨by omega, fun h => h39 h.symm⟩))]; rfl⟩
              | (have hk : a.bind.key = b.bind.key := (Decidable.not_not.1 h39).symm
                 exact ret1 rfl ⟨(st.keepOnly (l := []) (List.nil_sublist _)).touch, by rw [nextE, if_neg hyes, if_neg (by rintro (h | h | h); exact hb h; omega; exact h.2 hk)]; rfl⟩)
              | exact ret1 rfl ⟨(st.keepOnly (l := []) (List.nil_sublist _)).touch, by rw [nextE, if_neg hyes, if_neg (by rintro (h | h | h); exact hb h; omega; omega)]; rfl⟩
          · refine wc_skip ?_
            refine then_go ?_
            refine wc_seq ?_
            refine wc_region ?_
            refine wl_val (v_assign' (by conv => (lhs; whnf))) rfl ?_
            refine wl_nil ?_
            refine then_go ?_
            refine wc_ret ?_
            have hb : ¬ b.there = false := by simpa using hg3
            first
              | exact ret1 rfl ⟨(st.keepOnly (l := []) (List.nil_sublist _)).touch, by rw [nextE, if_neg hyes, if_pos (.inr (.inr ⟨by omega, fun h => h39 h.symm⟩))]; rfl⟩
              | (have hk : a.bind.key = b.bind.key := (Decidable.not_not.1 h39).symm
                 exact ret1 rfl ⟨(st.keepOnly (l := []) (List.nil_sublist _)).touch, by rw [nextE, if_neg hyes, if_neg (by rintro (h | h | h); exact hb h; omega; exact h.2 hk)]; rfl⟩)
              | exact ret1 rfl ⟨(st.keepOnly (l := []) (List.nil_sublist _)).touch, by rw [nextE, if_neg hyes, if_neg (by rintro (h | h | h); exact hb h; omega; omega)]; rfl⟩
        · rw [show decide ((b.bind.serial.toNat : Int) = (a.bind.serial.toNat : Int)) = false from decide_eq_false hg16]
          refine wl_off rfl rfl rfl rfl ?_
          refine wl_off rfl rfl rfl rfl ?_
          refine wl_off rfl rfl rfl rfl ?_
          refine wl_off rfl rfl rfl rfl ?_
          refine wl_off rfl rfl rfl rfl ?_
          refine wl_off rfl rfl rfl rfl ?_
          refine wl_off rfl rfl rfl rfl ?_
          refine wl_on rfl rfl ?_
          refine wl_val (v_pick rfl) rfl ?_
          refine wl_val (v_pick rfl) rfl ?_
          refine wl_nil ?_
          refine then_go ?_
          refine wc_false rfl ?_
          refine wc_skip ?_
          refine then_go ?_
          refine wc_seq ?_
          refine wc_region ?_
          refine wl_val (v_assign' (by conv => (lhs; whnf))) rfl ?_
          refine wl_nil ?_
          refine then_go ?_
          refine wc_ret ?_
          have hb : ¬ b.there = false := by simpa using hg3
          first
            | exact ret1 rfl ⟨(st.keepOnly (l := []) (List.nil_sublist _)).touch, by rw [nextE, if_neg hyes, if_pos (.inr (.inr ⟨by omega, fun h => h39 h.symm⟩))]; rfl⟩
            | (have hk : a.bind.key = b.bind.key := (Decidable.not_not.1 h39).symm
               exact ret1 rfl ⟨(st.keepOnly (l := []) (List.nil_sublist _)).touch, by rw [nextE, if_neg hyes, if_neg (by rintro (h | h | h); exact hb h; omega; exact h.2 hk)]; rfl⟩)
            | exact ret1 rfl ⟨(st.keepOnly (l := []) (List.nil_sublist _)).touch, by rw [nextE, if_neg hyes, if_neg (by rintro (h | h | h); exact hb h; omega; omega)]; rfl⟩
end
end Go.Proofs.Ytjjpakjgppmmdaa
