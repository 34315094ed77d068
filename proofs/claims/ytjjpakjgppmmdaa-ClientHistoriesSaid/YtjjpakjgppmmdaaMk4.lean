/-
  Several texts as one: Lg Lh Li Qa Qb Qc Qd.
-/
import Derived.Test.YtjjpakjgppmmdaaMk3

/-
  The reference's Follow; New; a view behind signed roots: the program's Learn.
-/
namespace Go.Proofs.Ytjjpakjgppmmdaa
open Go Go.RowKit K SH PT

theorem LsM.rd0 {α : Type} {c : α → List Value} {size : Nat} {P : Program} {m : Mem} {a : Option Addr} {k cap : Nat} {L : List α} (h : LsM m (.slice a k cap) c size L) {b o i : Nat} (ha : a = some ⟨b, o, none⟩) (hi : i < L.length) (hs : 0 < size) {T : TypeId} {agg : Bool} {sz bytes : Nat} {v' : Value} (tf : TyF P T agg sz bytes) (hv : getV agg sz (c L[i]).toArray 0 = some v') {w : World} (him : Im m w) :
    Reads P w T ⟨b, o + i * size, none⟩ v' := h.rd ha hi hs tf hv him
theorem K.St.lsRd {α : Type} {c : α → List Value} {size : Nat} {m0 m : Mem} {F : List Nat} {w0 w : World} {Es : List Ent} (st : St m0 m F w0 w Es) (i : Nat) {E : TypeId} {v : Value} {L : List α} (hi : Es[i]? = some (lsE E size c v L)) (hl : ∀ x ∈ L, (c x).length = size) : LsM (heapM w) v c size L :=
  ⟨row_SlM (m := heapM w) (st.at hi) (fun _ _ _ ho => ho), hl⟩

def lrnE (x : Vw) (s : Sg) : Int := if 1 ≤ s.root.epoch.toNat ∧ s.root.epoch.toNat ≤ x.roots.length then (if x.roots[s.root.epoch.toNat - 1]? = some s.root then 0 else 17) else followE x.head s
def lrnV (x : Vw) (s : Sg) : Vw := if 1 ≤ s.root.epoch.toNat ∧ s.root.epoch.toNat ≤ x.roots.length then x else ⟨x.pin, followH x.head s, x.roots ++ [s.root]⟩
def learnG : Vw → List Sg → Vw × Int
  | x, [] => (x, 0)
  | x, s :: l => if lrnE x s = 0 then learnG (lrnV x s) l else (vw0, lrnE x s)

def sgP (p : Sg × Value) : List Value := sgC p.1.root p.2
/-- Signed roots lie there. -/
def SgsM (m : Mem) (v : Value) (L : List (Sg × Value)) : Prop := LsM m v sgP 98 L ∧ ∀ p ∈ L, p.1.root.ok ∧ SlM m p.2 1 p.1.sig.length (bs p.1.sig)
theorem SgsM.mono {m m' : Mem} {v : Value} {L : List (Sg × Value)} (h : SgsM m v L) (hm : ∀ k o, m k = some o → m' k = some o) : SgsM m' v L := ⟨h.1.mono hm, fun p hp => ⟨(h.2 p hp).1, (h.2 p hp).2.mono hm⟩⟩

section
variable {m : Mem} {wI : World}

theorem c_rfollow {h : Hd} {sgv : Value} {s : Sg} (him : Im m wI) (hh : h.ok) (hs : SgM m sgv s) :
    Ret Try.prog 46 #[hdV h, sgv] wI fun v' w' => Out m wI w' fun _ => v' = .tuple #[hdV (followH h s), .int .i64 (followE h s)] := by
  have st := St.start him
  obtain ⟨sv, rfl, hsv, ht⟩ := hs
  refine ret_of Try.call46 Try.func46 rfl Try.ntmps46 Try.results46 rfl ?_
  refine wc_seq ?_
  refine wc_region ?_
  refine wl_box (v := hdV h) rfl st rfl ?_
  intro b2 w st
  refine wl_box (v := .agg (sgC s.root sv).toArray) rfl st rfl ?_
  intro b3 w st
  refine wl_alloc TF.z26 st rfl ?_
  intro b4 w st
  refine wl_val (v_assign' (by conv => (lhs; whnf))) rfl ?_
  refine wl_nil ?_
  refine then_go ?_
  refine wc_seq ?_
  refine wc_seq ?_
  refine wc_region ?_
  refine wl_val (v_fa TF.f26_0 rfl) rfl ?_
  refine wl_val (v_load rfl (st.reads (v := u64 h.epoch) 2 rfl TF.t24 hd_e)) rfl ?_
  refine wl_val (v_geq rfl rfl) rfl ?_
  refine wl_val (v_move' (by conv => (lhs; whnf))) rfl ?_
  by_cases hg3 : (64 : Int) ≤ (h.epoch.toNat : Int)
  · rw [show decide ((64 : Int) ≤ (h.epoch.toNat : Int)) = true from decide_eq_true hg3]
    refine wl_off rfl rfl rfl rfl ?_
    refine wl_off rfl rfl rfl rfl ?_
    refine wl_off rfl rfl rfl rfl ?_
    refine wl_off rfl rfl rfl rfl ?_
    refine wl_off rfl rfl rfl rfl ?_
    refine wl_off rfl rfl rfl rfl ?_
    refine wl_off rfl rfl rfl rfl ?_
    refine wl_val (v_pick rfl) rfl ?_
    refine wl_nil ?_
    refine then_go ?_
    refine wc_true rfl ?_
    refine wc_seq ?_
    refine wc_region ?_
    refine wl_val (v_build (c' := (hdC hd0).toArray) [] TF.z26 TF.p26 rfl rfl) rfl ?_
    refine wl_storeW (cs := (hdC hd0).toArray) 0 st rfl TF.t26 rfl rfl rfl rfl (fun u hu => one_hdC u (by simpa using hu)) ?_
    intro w st
    refine wl_val (v_assign' (by conv => (lhs; whnf))) rfl ?_
    refine wl_nil ?_
    refine then_go ?_
    refine wc_ret (then_ret ?_)
    have e : followE h s = 10 := by rw [followE, if_pos hg3]
    exact ret2c rfl (st.reads 0 rfl TF.t26 (getV_all rfl)) rfl ((st.keepOnly (l := []) (List.nil_sublist _)).out (by rw [followH, e, if_neg (show ¬ ((10 : Int) = 0) by decide)]; rfl))
  · rw [show decide ((64 : Int) ≤ (h.epoch.toNat : Int)) = false from decide_eq_false hg3]
    refine wl_on rfl rfl ?_
    refine wl_val (v_fa TF.f71_0 rfl) rfl ?_
    refine wl_on rfl rfl ?_
    refine wl_val (v_fa TF.f55_0 rfl) rfl ?_
    refine wl_on rfl rfl ?_
    refine wl_val (v_load rfl (st.reads (v := u64 s.root.epoch) 1 rfl TF.t24 sg_e)) rfl ?_
    refine wl_on rfl rfl ?_
    refine wl_val (v_fa TF.f26_0 rfl) rfl ?_
    refine wl_on rfl rfl ?_
    refine wl_val (v_load rfl (st.reads (v := u64 h.epoch) 2 rfl TF.t24 hd_e)) rfl ?_
    refine wl_on rfl rfl ?_
    refine wl_val (v_add64 (q := 1) rfl rfl) rfl ?_
    refine wl_on rfl rfl ?_
    refine wl_val (v_neq rfl rfl) rfl ?_
    refine wl_val (v_pick rfl) rfl ?_
    refine wl_nil ?_
    refine then_go ?_
    refine wc_if rfl (fun h17 => ?_) (fun h17 => ?_)
    · refine wc_seq ?_
      refine wc_region ?_
      refine wl_val (v_build (c' := (hdC hd0).toArray) [] TF.z26 TF.p26 rfl rfl) rfl ?_
      refine wl_storeW (cs := (hdC hd0).toArray) 0 st rfl TF.t26 rfl rfl rfl rfl (fun u hu => one_hdC u (by simpa using hu)) ?_
      intro w st
      refine wl_val (v_assign' (by conv => (lhs; whnf))) rfl ?_
      refine wl_nil ?_
      refine then_go ?_
      refine wc_ret (then_ret ?_)
      have e : followE h s = 10 := by rw [followE, if_neg hg3, if_pos (fun hc => h17 (u64_ne.2 hc))]
      exact ret2c rfl (st.reads 0 rfl TF.t26 (getV_all rfl)) rfl ((st.keepOnly (l := []) (List.nil_sublist _)).out (by rw [followH, e, if_neg (show ¬ ((10 : Int) = 0) by decide)]; rfl))
    · refine wc_skip ?_
      refine then_go ?_
      refine wc_seq ?_
      refine wc_seq ?_
      by_cases hpr : s.root.prev = h.root
      · refine wc_draw TF.mixed ?_
        have st := st.pure (touch_drew _)
        refine fl_val 0 rfl (fun _ => (v_fa TF.f71_0 rfl)) rfl (by kernel_rfl) ?_
        refine fl_val 1 rfl (fun _ => (v_fa TF.f55_1 rfl)) rfl (by kernel_rfl) ?_
        refine fl_ld 2 rfl (v_load rfl (st.reads (v := arr s.root.prev) 1 rfl TF.t23 (sg_p ht))) (by kernel_rfl) ?_
        refine fl_val 3 rfl (fun _ => (v_fa TF.f26_1 rfl)) rfl (by kernel_rfl) ?_
        refine fl_ld 4 rfl (v_load rfl (st.reads (v := arr h.root) 2 rfl TF.t23 (hd_r hh))) (by kernel_rfl) ?_
        refine fl_val 5 rfl (fun _ => (v_to (v' := .bool false) (v_neD rfl rfl ht.1 hh.1) (by rw [decide_eq_false (not_not_intro hpr)]))) rfl (by kernel_rfl) ?_
        refine fl_val 6 rfl (fun _ => (v_move' (by conv => (lhs; whnf)))) rfl (by kernel_rfl) ?_
        refine fl_on 7 rfl rfl rfl rfl (fun _ => (v_fa TF.f26_2 rfl)) rfl (by kernel_rfl) ?_
        refine fl_ond 8 rfl rfl rfl rfl (v_load rfl (st.reads (v := arr h.key) 2 rfl TF.t23 (hd_k hh))) rfl (by kernel_rfl) ?_
        refine fl_on 9 rfl rfl rfl rfl (fun _ => (v_fa TF.f71_0 rfl)) rfl (by kernel_rfl) ?_
        refine fl_ond 10 rfl rfl rfl rfl (v_load rfl (st.reads (v := rtV s.root) 1 rfl TF.t55 (sg_rt ht))) rfl (by kernel_rfl) ?_
        refine fl_on 12 rfl rfl rfl rfl (fun _ => (v_fa TF.f71_1 rfl)) rfl (by kernel_rfl) ?_
        refine fl_ond 13 rfl rfl rfl rfl (v_load rfl (st.reads (v := sv) 1 rfl TF.t41 (sg_s ht))) rfl (by kernel_rfl) ?_
        refine fl_eff1 11 [12, 9, 7, 5, 3, 1, 0] [13, 8, 4, 2] (by kernel_rfl) ⟨obl_on rfl rfl rfl rfl rfl (v_load rfl (st.reads (v := sv) 1 rfl TF.t41 (sg_s ht))), obl_on rfl rfl rfl rfl rfl (v_load rfl (st.reads (v := rtV s.root) 1 rfl TF.t55 (sg_rt ht))), obl_on rfl rfl rfl rfl rfl (v_load rfl (st.reads (v := arr h.key) 2 rfl TF.t23 (hd_k hh))), obl_ld rfl rfl rfl (v_load rfl (st.reads (v := arr h.root) 2 rfl TF.t23 (hd_r hh))), obl_ld rfl rfl rfl (v_load rfl (st.reads (v := arr s.root.prev) 1 rfl TF.t23 (sg_p ht))), trivial⟩ rfl ?_
        refine wl_on rfl rfl ?_
        refine wl_call rfl (c_rrootb st.im ht) rfl ?_
        rintro v30 w ⟨t30, m1, hg1, hi1, hb⟩
        have st := st.grown hg1 t30 hi1
        have hsv := hsv.mono hg1.le
        refine wl_nil ⟨rfl, ?_⟩
        refine fl_eff1 14 [12, 9, 7, 5, 3, 1, 0] [4, 2] (by kernel_rfl) ⟨obl_on rfl rfl rfl rfl rfl (v_load rfl (st.reads (v := sv) 1 rfl TF.t41 (sg_s ht))), obl_on rfl rfl rfl rfl rfl (v_load rfl (st.reads (v := arr h.key) 2 rfl TF.t23 (hd_k hh))), obl_ld rfl rfl rfl (v_load rfl (st.reads (v := arr h.root) 2 rfl TF.t23 (hd_r hh))), obl_ld rfl rfl rfl (v_load rfl (st.reads (v := arr s.root.prev) 1 rfl TF.t23 (sg_p ht))), trivial⟩ rfl ?_
        refine wl_on rfl rfl ?_
        refine wl_call rfl (c_rlcheck st.im hh.2 hb (by rw [rootB_len ht]; decide) hsv) rfl ?_
        rintro v33 w ⟨t33, m2, hg2, hi2, rfl⟩
        have st := st.grown hg2 t33 hi2
        refine wl_nil ⟨rfl, ?_⟩
        refine fl_on 15 rfl rfl rfl rfl (fun _ => (v_neq rfl rfl)) rfl (by kernel_rfl) ?_
        refine fl_val 16 rfl (fun _ => (v_pick rfl)) rfl (by kernel_rfl) ?_
        refine fl_nil (by kernel_rfl) ⟨obl_ld rfl rfl rfl (v_load rfl (st.reads (v := arr h.root) 2 rfl TF.t23 (hd_r hh))), obl_ld rfl rfl rfl (v_load rfl (st.reads (v := arr s.root.prev) 1 rfl TF.t23 (sg_p ht))), trivial⟩ ?_
        refine then_go ?_
        refine wc_if rfl (fun h35 => ?_) (fun h35 => ?_)
        · refine wc_seq ?_
          refine wc_region ?_
          refine wl_val (v_build (c' := (hdC hd0).toArray) [] TF.z26 TF.p26 rfl rfl) rfl ?_
          refine wl_storeW (cs := (hdC hd0).toArray) 0 st rfl TF.t26 rfl rfl rfl rfl (fun u hu => one_hdC u (by simpa using hu)) ?_
          intro w st
          refine wl_val (v_assign' (by conv => (lhs; whnf))) rfl ?_
          refine wl_nil ?_
          refine then_go ?_
          refine wc_ret (then_ret ?_)
          have e : followE h s = 15 := by rw [followE, if_neg hg3, if_neg (fun hc => hc (u64_ne.1 (Decidable.not_not.1 h17))), if_neg (fun hc => hc hpr), if_neg (fun hc => h35 (by rw [if_pos hc]))]
          exact ret2c rfl (st.reads 0 rfl TF.t26 (getV_all rfl)) rfl ((st.keepOnly (l := []) (List.nil_sublist _)).out (by rw [followH, e, if_neg (show ¬ ((15 : Int) = 0) by decide)]; rfl))
        · refine wc_skip ?_
          refine then_go ?_
          refine wc_seq ?_
          refine wc_draw TF.mixed ?_
          have st := st.pure (touch_drew _)
          refine fl_val 0 rfl (fun _ => (v_fa TF.f71_0 rfl)) rfl (by kernel_rfl) ?_
          refine fl_val 1 rfl (fun _ => (v_fa TF.f55_0 rfl)) rfl (by kernel_rfl) ?_
          refine fl_ld 2 rfl (v_load rfl (st.reads (v := u64 s.root.epoch) 1 rfl TF.t24 sg_e)) (by kernel_rfl) ?_
          refine fl_val 3 rfl (fun _ => (v_fa TF.f71_0 rfl)) rfl (by kernel_rfl) ?_
          refine fl_ld 4 rfl (v_load rfl (st.reads (v := rtV s.root) 1 rfl TF.t55 (sg_rt ht))) (by kernel_rfl) ?_
          refine fl_val 6 rfl (fun _ => (v_fa TF.f71_0 rfl)) rfl (by kernel_rfl) ?_
          refine fl_val 7 rfl (fun _ => (v_fa TF.f55_3 rfl)) rfl (by kernel_rfl) ?_
          refine fl_ld 8 rfl (v_load rfl (st.reads (v := arr s.root.next) 1 rfl TF.t23 (sg_n ht))) (by kernel_rfl) ?_
          refine fl_eff1 5 [7, 6, 3, 1, 0] [8, 2] (by kernel_rfl) ⟨obl_ld rfl rfl rfl (v_load rfl (st.reads (v := arr s.root.next) 1 rfl TF.t23 (sg_n ht))), obl_ld rfl rfl rfl (v_load rfl (st.reads (v := rtV s.root) 1 rfl TF.t55 (sg_rt ht))), obl_ld rfl rfl rfl (v_load rfl (st.reads (v := u64 s.root.epoch) 1 rfl TF.t24 sg_e)), trivial⟩ rfl ?_
          refine wl_call rfl (c_r3root st.im ht) rfl ?_
          rintro v42 w ⟨t42, rfl⟩
          have st := st.pure t42
          refine wl_nil ⟨rfl, ?_⟩
          refine fl_val 9 rfl (fun _ => (v_build (c' := (hdC ⟨s.root.epoch, sum (rootB s.root), s.root.next⟩).toArray) [(0, u64 s.root.epoch), (1, arr (sum (rootB s.root))), (2, arr s.root.next)] TF.z26 TF.p26 rfl (fill_hd (length_sum _) ht.2.2))) rfl (by kernel_rfl) ?_
          refine fl_eff1 10 [] [] (by kernel_rfl) ⟨obl_ld rfl rfl rfl (v_load rfl (st.reads (v := arr s.root.next) 1 rfl TF.t23 (sg_n ht))), obl_ld rfl rfl rfl (v_load rfl (st.reads (v := u64 s.root.epoch) 1 rfl TF.t24 sg_e)), trivial⟩ rfl ?_
          refine wl_storeW (cs := (hdC ⟨s.root.epoch, sum (rootB s.root), s.root.next⟩).toArray) 0 st rfl TF.t26 rfl rfl (by rw [List.size_toArray, length_hdC ⟨length_sum _, ht.2.2⟩]) rfl (fun u hu => one_hdC u (by simpa using hu)) ?_
          intro w st
          refine wl_nil ⟨rfl, ?_⟩
          refine fl_eff1 11 [] [] (by kernel_rfl) trivial rfl ?_
          refine wl_val (v_assign' (by conv => (lhs; whnf))) rfl ?_
          refine wl_nil ⟨rfl, ?_⟩
          refine fl_nil (by kernel_rfl) trivial ?_
          refine then_go ?_
          refine wc_ret ?_
          have hl : lamOk h.key (rootB s.root) s.sig := by
            refine Decidable.byContradiction fun hc => h35 ?_
            rw [if_neg hc]; decide
          have e : followE h s = 0 := by rw [followE, if_neg hg3, if_neg (fun hc => hc (u64_ne.1 (Decidable.not_not.1 h17))), if_neg (fun hc => hc hpr), if_pos hl]
          exact ret2c rfl (st.reads 0 rfl TF.t26 (getV_all (by rw [List.size_toArray, length_hdC ⟨length_sum _, ht.2.2⟩]))) rfl ((st.keepOnly (l := []) (List.nil_sublist _)).out (by rw [followH, e, if_pos (show (0 : Int) = 0 from rfl)]; rfl))
      · refine wc_draw TF.mixed ?_
        have st := st.pure (touch_drew _)
        refine fl_val 0 rfl (fun _ => (v_fa TF.f71_0 rfl)) rfl (by kernel_rfl) ?_
        refine fl_val 1 rfl (fun _ => (v_fa TF.f55_1 rfl)) rfl (by kernel_rfl) ?_
        refine fl_ld 2 rfl (v_load rfl (st.reads (v := arr s.root.prev) 1 rfl TF.t23 (sg_p ht))) (by kernel_rfl) ?_
        refine fl_val 3 rfl (fun _ => (v_fa TF.f26_1 rfl)) rfl (by kernel_rfl) ?_
        refine fl_ld 4 rfl (v_load rfl (st.reads (v := arr h.root) 2 rfl TF.t23 (hd_r hh))) (by kernel_rfl) ?_
        refine fl_val 5 rfl (fun _ => (v_to (v' := .bool true) (v_neD rfl rfl ht.1 hh.1) (by rw [decide_eq_true hpr]))) rfl (by kernel_rfl) ?_
        refine fl_val 6 rfl (fun _ => (v_move' (by conv => (lhs; whnf)))) rfl (by kernel_rfl) ?_
        refine fl_off 7 rfl rfl rfl rfl rfl rfl (by kernel_rfl) ?_
        refine fl_offd 8 rfl rfl rfl rfl rfl rfl (by kernel_rfl) ?_
        refine fl_off 9 rfl rfl rfl rfl rfl rfl (by kernel_rfl) ?_
        refine fl_offd 10 rfl rfl rfl rfl rfl rfl (by kernel_rfl) ?_
        refine fl_off 12 rfl rfl rfl rfl rfl rfl (by kernel_rfl) ?_
        refine fl_offd 13 rfl rfl rfl rfl rfl rfl (by kernel_rfl) ?_
        refine fl_eff1 11 [12, 9, 7, 5, 3, 1, 0] [13, 8, 4, 2] (by kernel_rfl) ⟨obl_off rfl rfl rfl rfl rfl rfl, obl_off rfl rfl rfl rfl rfl rfl, obl_off rfl rfl rfl rfl rfl rfl, obl_ld rfl rfl rfl (v_load rfl (st.reads (v := arr h.root) 2 rfl TF.t23 (hd_r hh))), obl_ld rfl rfl rfl (v_load rfl (st.reads (v := arr s.root.prev) 1 rfl TF.t23 (sg_p ht))), trivial⟩ rfl ?_
        refine wl_off rfl rfl rfl rfl ?_
        refine wl_nil ⟨rfl, ?_⟩
        refine fl_eff1 14 [12, 9, 7, 5, 3, 1, 0] [4, 2] (by kernel_rfl) ⟨obl_off rfl rfl rfl rfl rfl rfl, obl_off rfl rfl rfl rfl rfl rfl, obl_ld rfl rfl rfl (v_load rfl (st.reads (v := arr h.root) 2 rfl TF.t23 (hd_r hh))), obl_ld rfl rfl rfl (v_load rfl (st.reads (v := arr s.root.prev) 1 rfl TF.t23 (sg_p ht))), trivial⟩ rfl ?_
        refine wl_off rfl rfl rfl rfl ?_
        refine wl_nil ⟨rfl, ?_⟩
        refine fl_off 15 rfl rfl rfl rfl rfl rfl (by kernel_rfl) ?_
        refine fl_val 16 rfl (fun _ => (v_pick rfl)) rfl (by kernel_rfl) ?_
        refine fl_nil (by kernel_rfl) ⟨obl_ld rfl rfl rfl (v_load rfl (st.reads (v := arr h.root) 2 rfl TF.t23 (hd_r hh))), obl_ld rfl rfl rfl (v_load rfl (st.reads (v := arr s.root.prev) 1 rfl TF.t23 (sg_p ht))), trivial⟩ ?_
        refine then_go ?_
        refine wc_true rfl ?_
        refine wc_seq ?_
        refine wc_region ?_
        refine wl_val (v_build (c' := (hdC hd0).toArray) [] TF.z26 TF.p26 rfl rfl) rfl ?_
        refine wl_storeW (cs := (hdC hd0).toArray) 0 st rfl TF.t26 rfl rfl rfl rfl (fun u hu => one_hdC u (by simpa using hu)) ?_
        intro w st
        refine wl_val (v_assign' (by conv => (lhs; whnf))) rfl ?_
        refine wl_nil ?_
        refine then_go ?_
        refine wc_ret (then_ret ?_)
        have e : followE h s = 15 := by rw [followE, if_neg hg3, if_neg (fun hc => hc (u64_ne.1 (Decidable.not_not.1 h17))), if_pos hpr]
        exact ret2c rfl (st.reads 0 rfl TF.t26 (getV_all rfl)) rfl ((st.keepOnly (l := []) (List.nil_sublist _)).out (by rw [followH, e, if_neg (show ¬ ((15 : Int) = 0) by decide)]; rfl))

theorem c_start {pin : By} (him : Im m wI) (hp : pin.length = 32) : Ret Try.prog 47 #[arr pin] wI fun v' w' => Tch wI w' [] [] ∧ v' = hdV ⟨0, z32, pin⟩ := by
  have st := St.start him
  refine ret_of Try.call47 Try.func47 rfl Try.ntmps47 Try.results47 rfl ?_
  refine wc_seq ?_
  refine wc_region ?_
  refine wl_box (v := arr pin) rfl st rfl ?_
  intro b1 w st
  refine wl_alloc TF.z26 st rfl ?_
  intro b2 w st
  refine wl_nil ?_
  refine then_go ?_
  refine wc_seq ?_
  refine wc_region ?_
  refine wl_val (v_load rfl (st.reads (v := arr pin) 1 rfl TF.t23 (getV_all (by rw [size_arr, hp])))) rfl ?_
  refine wl_val (v_build (c' := (hdC ⟨0, z32, pin⟩).toArray) [(2, arr pin)] TF.z26 TF.p26 rfl (fill_one (u64 0 :: bs z32) (bs z32) [] rfl rfl (by rw [size_arr, hp]; rfl) (by simp [FillR, hdC, arr, Value.cells]))) rfl ?_
  refine wl_storeW (cs := (hdC ⟨0, z32, pin⟩).toArray) 0 st rfl TF.t26 rfl rfl (by rw [List.size_toArray, length_hdC ⟨rfl, hp⟩]) rfl (fun u hu => one_hdC u (by simpa using hu)) ?_
  intro w st
  refine wl_nil ?_
  refine then_go ?_
  refine wc_ret ?_
  exact ret1c rfl (st.reads 0 rfl TF.t26 (getV_all (by rw [List.size_toArray, length_hdC ⟨rfl, hp⟩]))) ⟨(st.keepOnly (l := []) (List.nil_sublist _)).touch, rfl⟩

def newV (pin : By) : Vw := ⟨pin, ⟨0, z32, pin⟩, []⟩
theorem newV_M {m : Mem} {pin : By} (hp : pin.length = 32) : VwM m (.agg (vwC pin ⟨0, z32, pin⟩ (.slice none 0 0)).toArray) (newV pin) := ⟨_, rfl, LsM.nil, hp, ⟨rfl, hp⟩, by simp [newV]⟩

theorem fill_vw2 {pin : By} {h : Hd} (hp : pin.length = 32) (hh : h.ok) : FillR (#[(0, 32), (32, 65), (97, 1)][·]?) (Value.agg (List.replicate 32 (Value.int .u8 0) ++ ([Value.int .u64 0] ++ List.replicate 32 (Value.int .u8 0) ++ List.replicate 32 (Value.int .u8 0)) ++ [Value.slice none 0 0]).toArray).cells [(0, arr pin), (1, hdV h)] (vwC pin h (.slice none 0 0)).toArray := by
  refine fill_one [] (bs z32) (hdC hd0 ++ [.slice none 0 0]) rfl rfl (by rw [size_arr, hp]; rfl) ?_
  refine fill_one (bs pin) (hdC hd0) [.slice none 0 0] (by simp [arr, Value.cells]) (by simp [length_bs, hp]; rfl) (by simp [hdV, Value.cells, length_hdC hh]; rfl) ?_
  simp [FillR, vwC, hdV, Value.cells]

theorem c_new {pin : By} (him : Im m wI) (hp : pin.length = 32) : Ret Try.prog 17 #[arr pin] wI fun v' w' => Tch wI w' [] [] ∧ v' = .agg (vwC pin ⟨0, z32, pin⟩ (.slice none 0 0)).toArray := by
  have st := St.start him
  have hh : Hd.ok ⟨0, z32, pin⟩ := ⟨rfl, hp⟩
  refine ret_of Try.call17 Try.func17 rfl Try.ntmps17 Try.results17 rfl ?_
  refine wc_seq ?_
  refine wc_region ?_
  refine wl_box (v := arr pin) rfl st rfl ?_
  intro b1 w st
  refine wl_alloc TF.z29 st rfl ?_
  intro b2 w st
  refine wl_nil ?_
  refine then_go ?_
  refine wc_seq ?_
  refine wc_draw TF.mixed ?_
  have st := st.pure (touch_drew _)
  refine fl_ld 0 rfl (v_load rfl (st.reads (v := arr pin) 1 rfl TF.t23 (getV_all (by rw [size_arr, hp])))) (by kernel_rfl) ?_
  refine fl_ld 1 rfl (v_load rfl (st.reads (v := arr pin) 1 rfl TF.t23 (getV_all (by rw [size_arr, hp])))) (by kernel_rfl) ?_
  refine fl_eff1 2 [] [0] (by kernel_rfl) ⟨obl_ld rfl rfl rfl (v_load rfl (st.reads (v := arr pin) 1 rfl TF.t23 (getV_all (by rw [size_arr, hp])))), obl_ld rfl rfl rfl (v_load rfl (st.reads (v := arr pin) 1 rfl TF.t23 (getV_all (by rw [size_arr, hp])))), trivial⟩ rfl ?_
  refine wl_call rfl (c_start st.im hp) rfl ?_
  rintro v5 w ⟨t5, rfl⟩
  have st := st.pure t5
  refine wl_nil ⟨rfl, ?_⟩
  refine fl_val 3 rfl (fun _ => (v_build (c' := (vwC pin ⟨0, z32, pin⟩ (.slice none 0 0)).toArray) [(0, arr pin), (1, hdV ⟨0, z32, pin⟩)] TF.z29 TF.p29 rfl (fill_vw2 hp hh))) rfl (by kernel_rfl) ?_
  refine fl_eff1 4 [] [] (by kernel_rfl) ⟨obl_ld rfl rfl rfl (v_load rfl (st.reads (v := arr pin) 1 rfl TF.t23 (getV_all (by rw [size_arr, hp])))), trivial⟩ rfl ?_
  refine wl_storeW (cs := (vwC pin ⟨0, z32, pin⟩ (.slice none 0 0)).toArray) 0 st rfl TF.t29 rfl rfl (by rw [List.size_toArray, length_vwC hp hh]) rfl (fun u hu => one_vwC rfl u (by simpa using hu)) ?_
  intro w st
  refine wl_nil ⟨rfl, ?_⟩
  refine fl_nil (by kernel_rfl) trivial ?_
  refine then_go ?_
  refine wc_ret ?_
  exact ret1c rfl (st.reads 0 rfl TF.t29 (getV_all (by rw [List.size_toArray, length_vwC hp hh]))) ⟨(st.keepOnly (l := []) (List.nil_sublist _)).touch, rfl⟩

theorem c_rnew {pin : By} (him : Im m wI) (hp : pin.length = 32) : Ret Try.prog 18 #[arr pin] wI fun v' w' => Tch wI w' [] [] ∧ v' = .agg (vwC pin ⟨0, z32, pin⟩ (.slice none 0 0)).toArray := by
  have st := St.start him
  have hh : Hd.ok ⟨0, z32, pin⟩ := ⟨rfl, hp⟩
  refine ret_of Try.call18 Try.func18 rfl Try.ntmps18 Try.results18 rfl ?_
  refine wc_seq ?_
  refine wc_region ?_
  refine wl_box (v := arr pin) rfl st rfl ?_
  intro b1 w st
  refine wl_alloc TF.z29 st rfl ?_
  intro b2 w st
  refine wl_nil ?_
  refine then_go ?_
  refine wc_seq ?_
  refine wc_region ?_
  refine wl_val (v_load rfl (st.reads (v := arr pin) 1 rfl TF.t23 (getV_all (by rw [size_arr, hp])))) rfl ?_
  refine wl_val (v_load rfl (st.reads (v := arr pin) 1 rfl TF.t23 (getV_all (by rw [size_arr, hp])))) rfl ?_
  refine wl_val (v_build (c' := (hdC ⟨0, z32, pin⟩).toArray) [(2, arr pin)] TF.z26 TF.p26 rfl (fill_one (u64 0 :: bs z32) (bs z32) [] rfl rfl (by rw [size_arr, hp]; rfl) (by simp [FillR, hdC, arr, Value.cells]))) rfl ?_
  refine wl_val (v_build (c' := (vwC pin ⟨0, z32, pin⟩ (.slice none 0 0)).toArray) [(0, arr pin), (1, hdV ⟨0, z32, pin⟩)] TF.z29 TF.p29 rfl (fill_vw2 hp hh)) rfl ?_
  refine wl_storeW (cs := (vwC pin ⟨0, z32, pin⟩ (.slice none 0 0)).toArray) 0 st rfl TF.t29 rfl rfl (by rw [List.size_toArray, length_vwC hp hh]) rfl (fun u hu => one_vwC rfl u (by simpa using hu)) ?_
  intro w st
  refine wl_nil ?_
  refine then_go ?_
  refine wc_ret ?_
  exact ret1c rfl (st.reads 0 rfl TF.t29 (getV_all (by rw [List.size_toArray, length_vwC hp hh]))) ⟨(st.keepOnly (l := []) (List.nil_sublist _)).touch, rfl⟩

theorem c_cfew {vv lv : Value} {x : Vw} {L : List (Sg × Value)} (him : Im m wI) (hv : VwM m vv x) (hl : SgsM m lv L) :
    Ret Try.prog 12 #[vv, lv] wI fun v' w' => Tch wI w' [] [] ∧ ∃ b : Bool, v' = .bool b ∧ (b = true → L.length ≤ 40 ∧ x.roots.length ≤ 200) := by
  have st := St.start him
  obtain ⟨rv, rfl, hrt, hp, hh, hok⟩ := hv
  obtain ⟨la, lc, rfl⟩ := hl.1.sl
  obtain ⟨ra, rc, rfl⟩ := hrt.sl
  refine ret_of Try.call12 Try.func12 rfl Try.ntmps12 Try.results12 rfl ?_
  refine wc_seq ?_
  refine wc_region ?_
  refine wl_box (v := .agg (vwC x.pin x.head (.slice ra x.roots.length rc)).toArray) rfl st rfl ?_
  intro b2 w st
  refine wl_val (v_assign' (by conv => (lhs; whnf))) rfl ?_
  refine wl_nil ?_
  refine then_go ?_
  refine wc_seq ?_
  refine wc_seq ?_
  refine wc_region ?_
  refine wl_val (v_move' (by conv => (lhs; whnf))) rfl ?_
  refine wl_val (v_len_s Try.underlying30 rfl) rfl ?_
  refine wl_val (v_gtr rfl rfl) rfl ?_
  refine wl_val (v_move' (by conv => (lhs; whnf))) rfl ?_
  by_cases hg3 : (40 : Int) < (L.length : Int)
  · rw [show decide ((40 : Int) < (L.length : Int)) = true from decide_eq_true hg3]
    refine wl_off rfl rfl rfl rfl ?_
    refine wl_off rfl rfl rfl rfl ?_
    refine wl_off rfl rfl rfl rfl ?_
    refine wl_off rfl rfl rfl rfl ?_
    refine wl_val (v_pick rfl) rfl ?_
    refine wl_nil ?_
    refine then_go ?_
    refine wc_true rfl ?_
    refine wc_seq ?_
    refine wc_region ?_
    refine wl_val (v_assign' (by conv => (lhs; whnf))) rfl ?_
    refine wl_nil ?_
    refine then_go ?_
    refine wc_ret (then_ret ?_)
    exact ret1 rfl ⟨(st.keepOnly (l := []) (List.nil_sublist _)).touch, _, rfl, fun h => by cases h⟩
  · rw [show decide ((40 : Int) < (L.length : Int)) = false from decide_eq_false hg3]
    refine wl_on rfl rfl ?_
    refine wl_val (v_fa TF.f29_2 rfl) rfl ?_
    refine wl_on rfl rfl ?_
    refine wl_val (v_load rfl (st.reads (v := .slice ra x.roots.length rc) 0 rfl TF.t27 (vw_r hp hh))) rfl ?_
    refine wl_on rfl rfl ?_
    refine wl_val (v_len_s Try.underlying27 rfl) rfl ?_
    refine wl_on rfl rfl ?_
    refine wl_val (v_gtr rfl rfl) rfl ?_
    refine wl_val (v_pick rfl) rfl ?_
    refine wl_nil ?_
    refine then_go ?_
    refine wc_if rfl (fun h15 => ?_) (fun h15 => ?_)
    · refine wc_seq ?_
      refine wc_region ?_
      refine wl_val (v_assign' (by conv => (lhs; whnf))) rfl ?_
      refine wl_nil ?_
      refine then_go ?_
      refine wc_ret (then_ret ?_)
      exact ret1 rfl ⟨(st.keepOnly (l := []) (List.nil_sublist _)).touch, _, rfl, fun h => by cases h⟩
    · refine wc_skip ?_
      refine then_go ?_
      refine wc_seq ?_
      refine wc_region ?_
      refine wl_val (v_assign' (by conv => (lhs; whnf))) rfl ?_
      refine wl_nil ?_
      refine then_go ?_
      refine wc_seq ?_
      refine wc_seq ?_
      refine wc_region ?_
      refine wl_val (v_assign' (by conv => (lhs; whnf))) rfl ?_
      refine wl_nil ?_
      refine then_go ?_
      refine wc_block ?_
      refine wc_loop (S := Nat) (fun q r w' => ∃ (i : Nat) (z : Int), q + i = L.length ∧ r 1 = .slice la L.length lc ∧ r 5 = .int .i64 z ∧ r 6 = .int .i64 i ∧ St m m [] wI w' [K.blk b2 (vwC x.pin x.head (.slice ra x.roots.length rc)).toArray 29]) id L.length ⟨0, 0, by omega, rfl, rfl, rfl, st⟩ ?_
      rintro q r w2 ⟨i, z, hqi, g1, g5, g6, st⟩
      refine wc_o 1 g1 (wc_o 5 g5 (wc_o 6 g6 ?_))
      refine wc_seq ?_
      refine wc_seq ?_
      refine wc_region ?_
      refine wl_val (v_move' (by conv => (lhs; whnf))) rfl ?_
      refine wl_val (v_move' (by conv => (lhs; whnf))) rfl ?_
      refine wl_val (v_len_s Try.underlying30 rfl) rfl ?_
      refine wl_val (v_lss rfl rfl) rfl ?_
      refine wl_val (v_move' (by conv => (lhs; whnf))) rfl ?_
      by_cases hg4 : (i : Int) < (L.length : Int)
      · rw [show decide ((i : Int) < (L.length : Int)) = true from decide_eq_true hg4]
        refine wl_on rfl rfl ?_
        refine wl_val (v_move' (by conv => (lhs; whnf))) rfl ?_
        refine wl_on rfl rfl ?_
        refine wl_val (v_leq rfl rfl) rfl ?_
        refine wl_val (v_pick rfl) rfl ?_
        refine wl_nil ?_
        refine then_go ?_
        refine wc_if rfl (fun h23 => ?_) (fun h23 => ?_)
        · refine wc_skip ?_
          refine then_go ?_
          refine wc_seq ?_
          refine wc_block ?_
          have hi : i < L.length := by omega
          obtain ⟨ba, oa, hba⟩ := hl.1.ptr (by omega) (by decide)
          subst hba
          obtain ⟨hr0, hs0⟩ := hl.2 _ (List.getElem_mem hi)
          obtain ⟨_, sa, sc, hsv, _⟩ := hs0
          refine wc_region ?_
          refine wl_val (v_move' (by conv => (lhs; whnf))) rfl ?_
          refine wl_val (v_move' (by conv => (lhs; whnf))) rfl ?_
          refine wl_val (v_move' (by conv => (lhs; whnf))) rfl ?_
          refine wl_val (v_ias i Try.underlying30 TF.t71 rfl rfl (by first | rfl | omega) (by first | omega | (dsimp only at *; omega))) rfl ?_
          refine wl_val (v_fa TF.f71_1 rfl) rfl ?_
          refine wl_val (v_load rfl (hl.1.rd rfl hi (by decide) TF.t41 (v' := .slice sa L[i].1.sig.length sc) (by rw [← hsv]; exact sg_s hr0) st.im)) rfl ?_
          refine wl_val (v_len_s Try.underlying41 rfl) rfl ?_
          refine wl_val (v_add rfl rfl) rfl ?_
          refine wl_val (v_assign' (by conv => (lhs; whnf))) rfl ?_
          refine wl_nil ?_
          refine block_go (then_go ?_)
          refine wc_region ?_
          refine wl_val (v_move' (by conv => (lhs; whnf))) rfl ?_
          refine wl_val (v_add' rfl rfl rfl (by first | omega | (dsimp only at *; omega)) (by first | omega | (dsimp only at *; omega))) rfl ?_
          refine wl_val (v_assign' (by conv => (lhs; whnf))) rfl ?_
          refine wl_nil ?_
          refine then_go ?_
          exact ⟨q - 1, by simp; omega, i + 1, _, by omega, rfl, rfl, rfl, st⟩
        · refine wc_exit (then_exit (then_exit (block_hit ?_)))
          refine then_go ?_
          refine wc_seq ?_
          refine wc_region ?_
          refine wl_val (v_move' (by conv => (lhs; whnf))) rfl ?_
          refine wl_val (v_leq rfl rfl) rfl ?_
          refine wl_val (v_assign' (by conv => (lhs; whnf))) rfl ?_
          refine wl_nil ?_
          refine then_go ?_
          refine wc_ret ?_
          exact ret1 rfl ⟨(st.keepOnly (l := []) (List.nil_sublist _)).touch, _, rfl, fun _ => ⟨by omega, by omega⟩⟩
      · rw [show decide ((i : Int) < (L.length : Int)) = false from decide_eq_false hg4]
        refine wl_off rfl rfl rfl rfl ?_
        refine wl_off rfl rfl rfl rfl ?_
        refine wl_val (v_pick rfl) rfl ?_
        refine wl_nil ?_
        refine then_go ?_
        refine wc_false rfl ?_
        refine wc_exit (then_exit (then_exit (block_hit ?_)))
        refine then_go ?_
        refine wc_seq ?_
        refine wc_region ?_
        refine wl_val (v_move' (by conv => (lhs; whnf))) rfl ?_
        refine wl_val (v_leq rfl rfl) rfl ?_
        refine wl_val (v_assign' (by conv => (lhs; whnf))) rfl ?_
        refine wl_nil ?_
        refine then_go ?_
        refine wc_ret ?_
        exact ret1 rfl ⟨(st.keepOnly (l := []) (List.nil_sublist _)).touch, _, rfl, fun _ => ⟨by omega, by omega⟩⟩
end
end Go.Proofs.Ytjjpakjgppmmdaa

/-
  A view behind signed roots: the program's Learn, and the reference's.
-/
namespace Go.Proofs.Ytjjpakjgppmmdaa
open Go Go.RowKit K SH PT

theorem lrnV_ok {x : Vw} {s : Sg} (hh : x.head.ok) (hr : ∀ t ∈ x.roots, t.ok) (hs : s.root.ok) : (lrnV x s).head.ok ∧ (∀ t ∈ (lrnV x s).roots, t.ok) ∧ (lrnV x s).pin = x.pin ∧ (lrnV x s).roots.length ≤ x.roots.length + 1 := by
  unfold lrnV
  split
  · exact ⟨hh, hr, rfl, by omega⟩
  · refine ⟨followH_ok hs, fun t ht => ?_, rfl, by simp⟩
    rcases List.mem_append.1 ht with h | h
    · exact hr t h
    · simp at h; rw [h]; exact hs

theorem learn_drop {x0 x : Vw} {L : List (Sg × Value)} {i : Nat} (hi : i < L.length) (h : learnG x0 (L.map (·.1)) = learnG x ((L.drop i).map (·.1))) :
    learnG x0 (L.map (·.1)) = if lrnE x L[i].1 = 0 then learnG (lrnV x L[i].1) ((L.drop (i + 1)).map (·.1)) else (vw0, lrnE x L[i].1) := by
  rw [h, List.drop_eq_getElem_cons hi, List.map_cons, learnG]

theorem vw0_M {m : Mem} : VwM m (.agg (vwC z32 hd0 (.slice none 0 0)).toArray) vw0 := ⟨_, rfl, LsM.nil, rfl, hd0_ok, by simp [vw0]⟩

section
variable {m : Mem} {wI : World}

theorem c_learn {vv lv : Value} {x0 : Vw} {L : List (Sg × Value)} (him : Im m wI) (hv : VwM m vv x0) (hl : SgsM m lv L) (hb : x0.roots.length + L.length ≤ 1000000) :
    Ret Try.prog 14 #[vv, lv] wI fun v' w' => Out m wI w' fun m' => ∃ v2, v' = .tuple #[v2, .int .i64 (learnG x0 (L.map (·.1))).2] ∧ VwM m' v2 (learnG x0 (L.map (·.1))).1 := by
  have st := St.start him
  have hv0 := hv
  obtain ⟨rv0, rfl, hrt0, hp, hh0, hok0⟩ := hv
  obtain ⟨la, lc, rfl⟩ := hl.1.sl
  obtain ⟨R, hR⟩ : ∃ R, R = learnG x0 (L.map (·.1)) := ⟨_, rfl⟩
  have hz98 : (vwC z32 hd0 (.slice none 0 0)).length = 98 := length_vwC rfl hd0_ok
  rw [← hR]
  refine ret_of Try.call14 Try.func14 rfl Try.ntmps14 Try.results14 rfl ?_
  refine wc_seq ?_
  refine wc_region ?_
  refine wl_box (v := .agg (vwC x0.pin x0.head rv0).toArray) rfl st rfl ?_
  intro b2 w st
  refine wl_alloc TF.z29 st rfl ?_
  intro b4 w st
  refine wl_val (v_assign' (by conv => (lhs; whnf))) rfl ?_
  refine wl_nil ?_
  refine then_go ?_
  refine wc_seq ?_
  refine wc_region ?_
  refine wl_val (v_load rfl (st.reads (v := .agg (vwC x0.pin x0.head rv0).toArray) 1 rfl TF.t29 (getV_all (by rw [show (Value.agg (vwC x0.pin x0.head rv0).toArray).cells = (vwC x0.pin x0.head rv0).toArray from rfl, List.size_toArray, length_vwC hp hh0])))) rfl ?_
  refine wl_call rfl (c_own st.im hv0 (by omega)) rfl ?_
  rintro v12 w ⟨rv, rfl, t12, hE⟩
  have st := st.new (E := lsE 55 97 rtC rv x0.roots) t12 hE
  have hone := row_one hE
  refine wl_storeW (cs := (vwC x0.pin x0.head rv).toArray) 2 st rfl TF.t29 rfl rfl (by rw [List.size_toArray, length_vwC hp hh0]) (by rw [show (Value.agg (vwC x0.pin x0.head rv0).toArray).cells = (vwC x0.pin x0.head rv0).toArray from rfl, List.size_toArray, length_vwC hp hh0]) (fun u hu => one_vwC hone u (by simpa using hu)) ?_
  intro w st
  have st : St m m [] wI w [lsE 55 97 rtC rv x0.roots, K.blk b4 (vwC z32 hd0 (.slice none 0 0)).toArray 29, K.blk b2 (vwC x0.pin x0.head rv).toArray 29] := st
  refine wl_nil ?_
  refine then_go ?_
  refine wc_seq ?_
  refine wc_seq ?_
  refine wc_region ?_
  refine wl_val (v_move' (by conv => (lhs; whnf))) rfl ?_
  refine wl_val (v_len_s Try.underlying30 rfl) rfl ?_
  refine wl_val (v_move' (by conv => (lhs; whnf))) rfl ?_
  refine wl_nil ?_
  refine then_go ?_
  refine wc_block ?_
  refine wc_loop (S := Nat) (fun q r w' => ∃ (i : Nat) (x : Vw) (rv : Value) (m2 : Mem), q + i = L.length ∧ r 2 = .pointer (some ⟨b2, 0, none⟩) ∧ r 4 = .pointer (some ⟨b4, 0, none⟩) ∧ r 13 = .slice la L.length lc ∧ r 14 = .int .i64 L.length ∧ r 15 = .int .i64 i ∧ R = learnG x ((L.drop i).map (·.1)) ∧ x.pin.length = 32 ∧ x.head.ok ∧ (∀ t ∈ x.roots, t.ok) ∧ x.roots.length + (L.length - i) ≤ 1000000 ∧ SgsM m2 (.slice la L.length lc) L ∧
    St m m2 [] wI w' [lsE 55 97 rtC rv x.roots, K.blk b4 (vwC z32 hd0 (.slice none 0 0)).toArray 29, K.blk b2 (vwC x.pin x.head rv).toArray 29]) id L.length ⟨0, x0, _, m, by omega, rfl, rfl, rfl, rfl, rfl, hR, hp, hh0, hok0, by omega, hl, st⟩ ?_
  clear hl hone
  rintro q r w2 ⟨i, x, rv, m2, hqi, g2, g4, g13, g14, g15, hRx, hpx, hhx, hokx, hbx, hl, st⟩
  refine wc_o 2 g2 (wc_o 4 g4 (wc_o 13 g13 (wc_o 14 g14 (wc_o 15 g15 ?_))))
  refine wc_seq ?_
  refine wc_region ?_
  refine wl_val (v_lss rfl rfl) rfl ?_
  refine wl_nil ?_
  refine then_go ?_
  refine wc_seq ?_
  refine wc_if rfl (fun h16 => ?_) (fun h16 => ?_)
  · refine wc_skip ?_
    refine then_go ?_
    refine wc_seq ?_
    refine wc_block ?_
    refine wc_seq ?_
    have hi : i < L.length := by omega
    obtain ⟨ba, oa, hba⟩ := hl.1.ptr (by omega) (by decide)
    subst hba
    obtain ⟨hrk, hsk⟩ := hl.2 _ (List.getElem_mem hi)
    have h98 := length_sgC (sv := L[i].2) hrk
    have hLen : ∀ t ∈ x.roots, (rtC t).length = 97 := fun t ht => length_rtC (hokx t ht)
    have hstep := (hR.symm.trans hRx).symm.trans hR.symm
    rw [List.drop_eq_getElem_cons hi, List.map_cons, learnG] at hRx
    obtain ⟨ko1, ko2, ko3, ko4⟩ := lrnV_ok hhx hokx hrk
    have hone : L[i].2.oneCell' = true := by obtain ⟨_, a, c, h, _⟩ := hsk; rw [h]; rfl
    refine wc_region ?_
    refine wl_val (v_ias i Try.underlying30 TF.t71 rfl rfl (by first | rfl | omega) (by first | omega | (dsimp only at *; omega))) rfl ?_
    refine wl_val (v_load rfl (hl.1.rd0 rfl hi (by decide) TF.t71 (v' := .agg (sgC L[i].1.root L[i].2).toArray) (getV_all (by rw [List.size_toArray]; exact h98)) st.im)) rfl ?_
    refine wl_alloc TF.z71 st rfl ?_
    intro b7 w st
    refine wl_storeW (cs := (sgC L[i].1.root L[i].2).toArray) 0 st rfl TF.t71 rfl rfl (by rw [List.size_toArray]; exact h98) rfl (fun u hu => by
      have hu' : u ∈ sgC L[i].1.root L[i].2 := by simpa using hu
      simp only [sgC, List.mem_append, List.mem_singleton] at hu'
      rcases hu' with h | rfl
      · exact one_rtC u h
      · exact hone) ?_
    intro w st
    refine wl_nil ?_
    refine then_go ?_
    refine wc_seq ?_
    refine wc_seq ?_
    refine wc_region ?_
    refine wl_val (v_fa TF.f71_0 rfl) rfl ?_
    refine wl_val (v_fa TF.f55_0 rfl) rfl ?_
    refine wl_val (v_load rfl (st.reads (v := u64 L[i].1.root.epoch) 0 rfl TF.t24 sg_e)) rfl ?_
    refine wl_val (v_assign' (by conv => (lhs; whnf))) rfl ?_
    refine wl_nil ?_
    refine then_go ?_
    refine wc_seq ?_
    refine wc_region ?_
    refine wl_val (v_move' (by conv => (lhs; whnf))) rfl ?_
    refine wl_val (v_geq rfl rfl) rfl ?_
    refine wl_val (v_move' (by conv => (lhs; whnf))) rfl ?_
    by_cases hg2 : (1 : Int) ≤ (L[i].1.root.epoch.toNat : Int)
    · rw [show decide ((1 : Int) ≤ (L[i].1.root.epoch.toNat : Int)) = true from decide_eq_true hg2]
      obtain ⟨ra, rc, hrv⟩ := (st.lsRd 1 rfl hLen).sl
      subst hrv
      refine wl_on rfl rfl ?_
      refine wl_val (v_move' (by conv => (lhs; whnf))) rfl ?_
      refine wl_on rfl rfl ?_
      refine wl_val (v_fa TF.f29_2 rfl) rfl ?_
      refine wl_on rfl rfl ?_
      refine wl_val (v_load rfl (st.reads (v := .slice ra x.roots.length rc) 3 rfl TF.t27 (vw_r hpx hhx))) rfl ?_
      refine wl_on rfl rfl ?_
      refine wl_val (v_len_s Try.underlying27 rfl) rfl ?_
      refine wl_on rfl rfl ?_
      refine wl_val (v_to (v' := .int .u64 (x.roots.length : Nat)) (v_conv Try.underlying3 Try.underlying24 rfl) (by rw [wrap_u64_small (by omega)])) rfl ?_
      refine wl_on rfl rfl ?_
      refine wl_val (v_leq rfl rfl) rfl ?_
      refine wl_val (v_pick rfl) rfl ?_
      refine wl_nil ?_
      refine then_go ?_
      refine wc_if rfl (fun h31 => ?_) (fun h31 => ?_)
      · refine wc_seq ?_
        refine wc_seq ?_
        have hcond : 1 ≤ L[i].1.root.epoch.toNat ∧ L[i].1.root.epoch.toNat ≤ x.roots.length := by omega
        have hj : L[i].1.root.epoch.toNat - 1 < x.roots.length := by omega
        have hrd2 := st.lsRd 1 rfl hLen
        obtain ⟨rb, ro, hra⟩ := hrd2.ptr (by omega) (by decide)
        subst hra
        have hse : lrnE x L[i].1 = if x.roots[L[i].1.root.epoch.toNat - 1] = L[i].1.root then 0 else 17 := by
          rw [lrnE, if_pos hcond, List.getElem?_eq_getElem hj]
          simp only [Option.some.injEq]
        refine wc_draw TF.mixed ?_
        have st := st.pure (touch_drew _)
        refine fl_val 0 rfl (fun _ => (v_fa TF.f29_2 rfl)) rfl (by kernel_rfl) ?_
        refine fl_ld 1 rfl (v_load rfl (st.reads (v := .slice (some ⟨rb, ro, none⟩) x.roots.length rc) 3 rfl TF.t27 (vw_r hpx hhx))) (by kernel_rfl) ?_
        refine fl_val 2 rfl (fun _ => (v_move' (by conv => (lhs; whnf)))) rfl (by kernel_rfl) ?_
        refine fl_val 3 rfl (fun _ => (v_to (v' := .int .u64 ((L[i].1.root.epoch.toNat - 1 : Nat) : Int)) (v_sub rfl rfl) (by rw [show ((L[i].1.root.epoch.toNat : Int) - 1) = ((L[i].1.root.epoch.toNat - 1 : Nat) : Int) by omega, wrap_u64_small (by have := L[i].1.root.epoch.toNat_lt; omega)]))) rfl (by kernel_rfl) ?_
        refine fl_val 4 rfl (fun _ => (v_ias (L[i].1.root.epoch.toNat - 1) Try.underlying27 TF.t55 rfl rfl (by first | rfl | omega) (by first | omega | (dsimp only at *; omega)))) rfl (by kernel_rfl) ?_
        refine fl_ld 5 rfl (v_load rfl (hrd2.rd0 rfl hj (by decide) TF.t55 (v' := rtV x.roots[L[i].1.root.epoch.toNat - 1]) (getV_all (by rw [List.size_toArray, hLen _ (List.getElem_mem hj)])) (im_heapM _))) (by kernel_rfl) ?_
        refine fl_val 6 rfl (fun _ => (v_fa TF.f71_0 rfl)) rfl (by kernel_rfl) ?_
        refine fl_ld 7 rfl (v_load rfl (st.reads (v := rtV L[i].1.root) 0 rfl TF.t55 (sg_rt hrk))) (by kernel_rfl) ?_
        refine fl_val 8 rfl (fun _ => (v_neRt rfl rfl (hokx _ (List.getElem_mem hj)) hrk)) rfl (by kernel_rfl) ?_
        refine fl_nil (by kernel_rfl) ⟨obl_ld rfl rfl rfl (v_load rfl (st.reads (v := rtV L[i].1.root) 0 rfl TF.t55 (sg_rt hrk))), obl_ld rfl rfl rfl (v_load rfl (hrd2.rd0 rfl hj (by decide) TF.t55 (v' := rtV x.roots[L[i].1.root.epoch.toNat - 1]) (getV_all (by rw [List.size_toArray, hLen _ (List.getElem_mem hj)])) (im_heapM _))), obl_ld rfl rfl rfl (v_load rfl (st.reads (v := .slice (some ⟨rb, ro, none⟩) x.roots.length rc) 3 rfl TF.t27 (vw_r hpx hhx))), trivial⟩ ?_
        refine then_go ?_
        refine wc_if rfl (fun h40 => ?_) (fun h40 => ?_)
        · refine wc_seq ?_
          refine wc_region ?_
          refine wl_val (v_build (c' := (vwC z32 hd0 (.slice none 0 0)).toArray) [] TF.z29 TF.p29 rfl rfl) rfl ?_
          refine wl_storeW (cs := (vwC z32 hd0 (.slice none 0 0)).toArray) 2 st rfl TF.t29 rfl rfl rfl rfl (fun u hu => one_vwC rfl u (by simpa using hu)) ?_
          intro w st
          refine wl_val (v_assign' (by conv => (lhs; whnf))) rfl ?_
          refine wl_nil ?_
          refine then_go ?_
          refine wc_ret (then_ret (then_ret (block_ret (then_ret (then_ret (block_ret (then_ret ?_)))))))
          rw [hse, if_neg h40, if_neg (show ¬ ((17 : Int) = 0) by decide)] at hRx
          exact ret2c rfl (st.reads 2 rfl TF.t29 (getV_all rfl)) rfl ((st.keepOnly (l := []) (List.nil_sublist _)).out ⟨_, by rw [hRx]; rfl, by rw [hRx]; exact vw0_M⟩)
        · refine wc_skip ?_
          refine then_go ?_
          refine wc_exit (then_exit (block_hit ?_))
          refine then_go ?_
          refine wc_region ?_
          refine wl_val (v_add' rfl rfl rfl (by first | omega | (dsimp only at *; omega)) (by first | omega | (dsimp only at *; omega))) rfl ?_
          refine wl_val (v_move' (by conv => (lhs; whnf))) rfl ?_
          refine wl_nil ?_
          refine then_go ?_
          rw [hse, if_pos (Decidable.not_not.1 h40), if_pos rfl, lrnV, if_pos hcond] at hRx
          exact ⟨q - 1, by simp; omega, i + 1, x, _, m2, by omega, rfl, rfl, rfl, rfl, rfl, hRx, hpx, hhx, hokx, by omega, hl, st.drop 0⟩
      · refine wc_skip ?_
        refine then_go ?_
        refine wc_seq ?_
        have hcond : ¬ (1 ≤ L[i].1.root.epoch.toNat ∧ L[i].1.root.epoch.toNat ≤ x.roots.length) := by omega
        have hse : lrnE x L[i].1 = followE x.head L[i].1 := by rw [lrnE, if_neg hcond]
        refine wc_region ?_
        refine wl_val (v_fa TF.f29_1 rfl) rfl ?_
        refine wl_val (v_load rfl (st.reads (v := hdV x.head) 3 rfl TF.t26 (vw_h hpx hhx))) rfl ?_
        refine wl_val (v_load rfl (st.reads (v := .agg (sgC L[i].1.root L[i].2).toArray) 0 rfl TF.t71 (getV_all (by rw [List.size_toArray]; exact h98)))) rfl ?_
        refine wl_call rfl (c_follow (s := L[i].1) st.im hhx ⟨_, rfl, hsk, hrk⟩) rfl ?_
        rintro v46 w ⟨t46, m3, hg3, hi3, rfl⟩
        have st := st.grown hg3 t46 hi3
        have hl := hl.mono hg3.le
        refine wl_val (v_move' (by conv => (lhs; whnf))) rfl ?_
        refine wl_val (v_extract rfl rfl) rfl ?_
        refine wl_val (v_extract rfl rfl) rfl ?_
        refine wl_alloc TF.z26 st rfl ?_
        intro b9 w st
        refine wl_storeW (cs := (hdC (followH x.head L[i].1)).toArray) 0 st rfl TF.t26 rfl rfl (by rw [List.size_toArray, length_hdC (followH_ok hrk)]) rfl (fun u hu => one_hdC u (by simpa using hu)) ?_
        intro w st
        refine wl_val (v_assign' (by conv => (lhs; whnf))) rfl ?_
        refine wl_nil ?_
        refine then_go ?_
        refine wc_seq ?_
        refine wc_seq ?_
        refine wc_region ?_
        refine wl_val (v_move' (by conv => (lhs; whnf))) rfl ?_
        refine wl_val (v_neq rfl rfl) rfl ?_
        refine wl_nil ?_
        refine then_go ?_
        refine wc_if rfl (fun h50 => ?_) (fun h50 => ?_)
        · refine wc_seq ?_
          refine wc_region ?_
          refine wl_val (v_build (c' := (vwC z32 hd0 (.slice none 0 0)).toArray) [] TF.z29 TF.p29 rfl rfl) rfl ?_
          refine wl_val (v_move' (by conv => (lhs; whnf))) rfl ?_
          refine wl_storeW (cs := (vwC z32 hd0 (.slice none 0 0)).toArray) 3 st rfl TF.t29 rfl rfl rfl rfl (fun u hu => one_vwC rfl u (by simpa using hu)) ?_
          intro w st
          refine wl_val (v_assign' (by conv => (lhs; whnf))) rfl ?_
          refine wl_nil ?_
          refine then_go ?_
          refine wc_ret (then_ret (block_ret (then_ret (then_ret (block_ret (then_ret ?_))))))
          rw [hse, if_neg h50] at hRx
          exact ret2c rfl (st.reads 3 rfl TF.t29 (getV_all rfl)) rfl ((st.keepOnly (l := []) (List.nil_sublist _)).out ⟨_, by rw [hRx]; rfl, by rw [hRx]; exact vw0_M⟩)
        · refine wc_skip ?_
          refine then_go ?_
          refine wc_draw TF.mixed ?_
          have st := st.pure (touch_drew _)
          refine fl_ld 0 rfl (v_load rfl (by first | exact st.reads (v := hdV (followH x.head L[i].1)) 0 rfl TF.t26 (getV_all (by rw [List.size_toArray, length_hdC (followH_ok hrk)])) | exact st.reads (v := hdV (followH x.head L[i].1)) 1 rfl TF.t26 (getV_all (by rw [List.size_toArray, length_hdC (followH_ok hrk)])))) (by kernel_rfl) ?_
          refine fl_val 1 rfl (fun _ => (v_fa TF.f29_2 rfl)) rfl (by kernel_rfl) ?_
          refine fl_ld 2 rfl (v_load rfl (by first | exact st.reads 4 rfl TF.t27 (vw_r hpx hhx) | exact st.reads 5 rfl TF.t27 (vw_r hpx hhx))) (by kernel_rfl) ?_
          refine fl_val 3 rfl (fun _ => (v_fa TF.f71_0 rfl)) rfl (by kernel_rfl) ?_
          refine fl_ld 4 rfl (v_load rfl (by first | exact st.reads (v := rtV L[i].1.root) 1 rfl TF.t55 (sg_rt hrk) | exact st.reads (v := rtV L[i].1.root) 2 rfl TF.t55 (sg_rt hrk))) (by kernel_rfl) ?_
          refine fl_val 7 rfl (fun _ => (v_fa TF.f29_1 rfl)) rfl (by kernel_rfl) ?_
          refine fl_eff1 5 [7, 3, 1] [2, 0] (by kernel_rfl) ⟨obl_ld rfl rfl rfl (v_load rfl (by first | exact st.reads (v := rtV L[i].1.root) 1 rfl TF.t55 (sg_rt hrk) | exact st.reads (v := rtV L[i].1.root) 2 rfl TF.t55 (sg_rt hrk))), obl_ld rfl rfl rfl (v_load rfl (by first | exact st.reads 4 rfl TF.t27 (vw_r hpx hhx) | exact st.reads 5 rfl TF.t27 (vw_r hpx hhx))), obl_ld rfl rfl rfl (v_load rfl (by first | exact st.reads (v := hdV (followH x.head L[i].1)) 0 rfl TF.t26 (getV_all (by rw [List.size_toArray, length_hdC (followH_ok hrk)])) | exact st.reads (v := hdV (followH x.head L[i].1)) 1 rfl TF.t26 (getV_all (by rw [List.size_toArray, length_hdC (followH_ok hrk)])))), trivial⟩ rfl ?_
          refine wl_lsOne (rtC L[i].1.root) Try.underlying27 TF.t55 TF.z55 (by decide) (by decide) (length_rtC hrk) rfl st rfl ?_
          intro b58 w st
          refine wl_nil ⟨rfl, ?_⟩
          refine fl_eff1 6 [7, 3, 1] [0] (by kernel_rfl) ⟨obl_ld rfl rfl rfl (v_load rfl (by first | exact st.reads 4 rfl TF.t27 (vw_r hpx hhx) | exact st.reads 5 rfl TF.t27 (vw_r hpx hhx))), obl_ld rfl rfl rfl (v_load rfl (by first | exact st.reads (v := hdV (followH x.head L[i].1)) 0 rfl TF.t26 (getV_all (by rw [List.size_toArray, length_hdC (followH_ok hrk)])) | exact st.reads (v := hdV (followH x.head L[i].1)) 1 rfl TF.t26 (getV_all (by rw [List.size_toArray, length_hdC (followH_ok hrk)])))), trivial⟩ rfl ?_
          refine wl_lsApp 2 (c := rtC) (e := L[i].1.root) st rfl Try.underlying27 TF.t55 TF.z55 rfl (length_rtC hrk) one_rtC rfl rfl (by omega) (by omega) rfl ?_
          intro rv2 w st hrv2
          refine wl_nil ⟨rfl, ?_⟩
          refine fl_eff1 8 [3] [] (by kernel_rfl) ⟨obl_ld rfl rfl rfl (v_load rfl (by first | exact st.reads (v := hdV (followH x.head L[i].1)) 0 rfl TF.t26 (getV_all (by rw [List.size_toArray, length_hdC (followH_ok hrk)])) | exact st.reads (v := hdV (followH x.head L[i].1)) 1 rfl TF.t26 (getV_all (by rw [List.size_toArray, length_hdC (followH_ok hrk)])))), trivial⟩ rfl ?_
          refine wl_store (v := hdV (followH x.head L[i].1)) 4 st rfl TF.t26 rfl rfl (by simp [hdV, Value.cells, length_hdC (followH_ok hrk)]) (fun u hu => one_hdC u (by simpa [hdV, Value.cells] using hu)) (by rw [List.size_toArray, length_vwC hpx hhx]; decide) ?_
          intro w st
          rw [show (hdV (followH x.head L[i].1)).cells.toList = hdC (followH x.head L[i].1) by simp [hdV, Value.cells], show 0 + 32 = 32 from rfl, set_vwH hpx hhx (followH_ok hrk)] at st
          refine wl_nil ⟨rfl, ?_⟩
          refine fl_val 9 rfl (fun _ => (v_fa TF.f29_2 rfl)) rfl (by kernel_rfl) ?_
          refine fl_eff1 10 [] [] (by kernel_rfl) trivial rfl ?_
          refine wl_store1 4 st rfl TF.t27 rfl (by conv => (lhs; whnf)) hrv2 (by rw [List.size_toArray, length_vwC hpx (followH_ok hrk)]; decide) ?_
          intro w st
          rw [show 0 + 97 = 97 from rfl, set_vwR hpx (followH_ok hrk)] at st
          refine wl_nil ⟨rfl, ?_⟩
          refine fl_nil (by kernel_rfl) trivial ?_
          refine block_go (then_go ?_)
          refine wc_region ?_
          refine wl_val (v_add' rfl rfl rfl (by first | omega | (dsimp only at *; omega)) (by first | omega | (dsimp only at *; omega))) rfl ?_
          refine wl_val (v_move' (by conv => (lhs; whnf))) rfl ?_
          refine wl_nil ?_
          refine then_go ?_
          rw [hse, if_pos (Decidable.not_not.1 h50)] at hRx
          have hsv : lrnV x L[i].1 = ⟨x.pin, followH x.head L[i].1, x.roots ++ [L[i].1.root]⟩ := by rw [lrnV, if_neg hcond]
          refine ⟨q - 1, by simp; omega, i + 1, lrnV x L[i].1, rv2, _, by omega, rfl, rfl, rfl, rfl, rfl, hRx, by rw [ko3]; exact hpx, ko1, ko2, by omega, hl, ?_⟩
          rw [hsv]
          exact (st.drop 0).drop 0
    · rw [show decide ((1 : Int) ≤ (L[i].1.root.epoch.toNat : Int)) = false from decide_eq_false hg2]
      refine wl_off rfl rfl rfl rfl ?_
      refine wl_off rfl rfl rfl rfl ?_
      refine wl_off rfl rfl rfl rfl ?_
      refine wl_off rfl rfl rfl rfl ?_
      refine wl_off rfl rfl rfl rfl ?_
      refine wl_off rfl rfl rfl rfl ?_
      refine wl_val (v_pick rfl) rfl ?_
      refine wl_nil ?_
      refine then_go ?_
      refine wc_false rfl ?_
      refine wc_skip ?_
      refine then_go ?_
      refine wc_seq ?_
      have hcond : ¬ (1 ≤ L[i].1.root.epoch.toNat ∧ L[i].1.root.epoch.toNat ≤ x.roots.length) := by omega
      have hse : lrnE x L[i].1 = followE x.head L[i].1 := by rw [lrnE, if_neg hcond]
      refine wc_region ?_
      refine wl_val (v_fa TF.f29_1 rfl) rfl ?_
      refine wl_val (v_load rfl (st.reads (v := hdV x.head) 3 rfl TF.t26 (vw_h hpx hhx))) rfl ?_
      refine wl_val (v_load rfl (st.reads (v := .agg (sgC L[i].1.root L[i].2).toArray) 0 rfl TF.t71 (getV_all (by rw [List.size_toArray]; exact h98)))) rfl ?_
      refine wl_call rfl (c_follow (s := L[i].1) st.im hhx ⟨_, rfl, hsk, hrk⟩) rfl ?_
      rintro v46 w ⟨t46, m3, hg3, hi3, rfl⟩
      have st := st.grown hg3 t46 hi3
      have hl := hl.mono hg3.le
      refine wl_val (v_move' (by conv => (lhs; whnf))) rfl ?_
      refine wl_val (v_extract rfl rfl) rfl ?_
      refine wl_val (v_extract rfl rfl) rfl ?_
      refine wl_alloc TF.z26 st rfl ?_
      intro b9 w st
      refine wl_storeW (cs := (hdC (followH x.head L[i].1)).toArray) 0 st rfl TF.t26 rfl rfl (by rw [List.size_toArray, length_hdC (followH_ok hrk)]) rfl (fun u hu => one_hdC u (by simpa using hu)) ?_
      intro w st
      refine wl_val (v_assign' (by conv => (lhs; whnf))) rfl ?_
      refine wl_nil ?_
      refine then_go ?_
      refine wc_seq ?_
      refine wc_seq ?_
      refine wc_region ?_
      refine wl_val (v_move' (by conv => (lhs; whnf))) rfl ?_
      refine wl_val (v_neq rfl rfl) rfl ?_
      refine wl_nil ?_
      refine then_go ?_
      refine wc_if rfl (fun h50 => ?_) (fun h50 => ?_)
      · refine wc_seq ?_
        refine wc_region ?_
        refine wl_val (v_build (c' := (vwC z32 hd0 (.slice none 0 0)).toArray) [] TF.z29 TF.p29 rfl rfl) rfl ?_
        refine wl_val (v_move' (by conv => (lhs; whnf))) rfl ?_
        refine wl_storeW (cs := (vwC z32 hd0 (.slice none 0 0)).toArray) 3 st rfl TF.t29 rfl rfl rfl rfl (fun u hu => one_vwC rfl u (by simpa using hu)) ?_
        intro w st
        refine wl_val (v_assign' (by conv => (lhs; whnf))) rfl ?_
        refine wl_nil ?_
        refine then_go ?_
        refine wc_ret (then_ret (block_ret (then_ret (then_ret (block_ret (then_ret ?_))))))
        rw [hse, if_neg h50] at hRx
        exact ret2c rfl (st.reads 3 rfl TF.t29 (getV_all rfl)) rfl ((st.keepOnly (l := []) (List.nil_sublist _)).out ⟨_, by rw [hRx]; rfl, by rw [hRx]; exact vw0_M⟩)
      · refine wc_skip ?_
        refine then_go ?_
        refine wc_draw TF.mixed ?_
        have st := st.pure (touch_drew _)
        refine fl_ld 0 rfl (v_load rfl (by first | exact st.reads (v := hdV (followH x.head L[i].1)) 0 rfl TF.t26 (getV_all (by rw [List.size_toArray, length_hdC (followH_ok hrk)])) | exact st.reads (v := hdV (followH x.head L[i].1)) 1 rfl TF.t26 (getV_all (by rw [List.size_toArray, length_hdC (followH_ok hrk)])))) (by kernel_rfl) ?_
        refine fl_val 1 rfl (fun _ => (v_fa TF.f29_2 rfl)) rfl (by kernel_rfl) ?_
        refine fl_ld 2 rfl (v_load rfl (by first | exact st.reads 4 rfl TF.t27 (vw_r hpx hhx) | exact st.reads 5 rfl TF.t27 (vw_r hpx hhx))) (by kernel_rfl) ?_
        refine fl_val 3 rfl (fun _ => (v_fa TF.f71_0 rfl)) rfl (by kernel_rfl) ?_
        refine fl_ld 4 rfl (v_load rfl (by first | exact st.reads (v := rtV L[i].1.root) 1 rfl TF.t55 (sg_rt hrk) | exact st.reads (v := rtV L[i].1.root) 2 rfl TF.t55 (sg_rt hrk))) (by kernel_rfl) ?_
        refine fl_val 7 rfl (fun _ => (v_fa TF.f29_1 rfl)) rfl (by kernel_rfl) ?_
        refine fl_eff1 5 [7, 3, 1] [2, 0] (by kernel_rfl) ⟨obl_ld rfl rfl rfl (v_load rfl (by first | exact st.reads (v := rtV L[i].1.root) 1 rfl TF.t55 (sg_rt hrk) | exact st.reads (v := rtV L[i].1.root) 2 rfl TF.t55 (sg_rt hrk))), obl_ld rfl rfl rfl (v_load rfl (by first | exact st.reads 4 rfl TF.t27 (vw_r hpx hhx) | exact st.reads 5 rfl TF.t27 (vw_r hpx hhx))), obl_ld rfl rfl rfl (v_load rfl (by first | exact st.reads (v := hdV (followH x.head L[i].1)) 0 rfl TF.t26 (getV_all (by rw [List.size_toArray, length_hdC (followH_ok hrk)])) | exact st.reads (v := hdV (followH x.head L[i].1)) 1 rfl TF.t26 (getV_all (by rw [List.size_toArray, length_hdC (followH_ok hrk)])))), trivial⟩ rfl ?_
        refine wl_lsOne (rtC L[i].1.root) Try.underlying27 TF.t55 TF.z55 (by decide) (by decide) (length_rtC hrk) rfl st rfl ?_
        intro b58 w st
        refine wl_nil ⟨rfl, ?_⟩
        refine fl_eff1 6 [7, 3, 1] [0] (by kernel_rfl) ⟨obl_ld rfl rfl rfl (v_load rfl (by first | exact st.reads 4 rfl TF.t27 (vw_r hpx hhx) | exact st.reads 5 rfl TF.t27 (vw_r hpx hhx))), obl_ld rfl rfl rfl (v_load rfl (by first | exact st.reads (v := hdV (followH x.head L[i].1)) 0 rfl TF.t26 (getV_all (by rw [List.size_toArray, length_hdC (followH_ok hrk)])) | exact st.reads (v := hdV (followH x.head L[i].1)) 1 rfl TF.t26 (getV_all (by rw [List.size_toArray, length_hdC (followH_ok hrk)])))), trivial⟩ rfl ?_
        refine wl_lsApp 2 (c := rtC) (e := L[i].1.root) st rfl Try.underlying27 TF.t55 TF.z55 rfl (length_rtC hrk) one_rtC rfl rfl (by omega) (by omega) rfl ?_
        intro rv2 w st hrv2
        refine wl_nil ⟨rfl, ?_⟩
        refine fl_eff1 8 [3] [] (by kernel_rfl) ⟨obl_ld rfl rfl rfl (v_load rfl (by first | exact st.reads (v := hdV (followH x.head L[i].1)) 0 rfl TF.t26 (getV_all (by rw [List.size_toArray, length_hdC (followH_ok hrk)])) | exact st.reads (v := hdV (followH x.head L[i].1)) 1 rfl TF.t26 (getV_all (by rw [List.size_toArray, length_hdC (followH_ok hrk)])))), trivial⟩ rfl ?_
        refine wl_store (v := hdV (followH x.head L[i].1)) 4 st rfl TF.t26 rfl rfl (by simp [hdV, Value.cells, length_hdC (followH_ok hrk)]) (fun u hu => one_hdC u (by simpa [hdV, Value.cells] using hu)) (by rw [List.size_toArray, length_vwC hpx hhx]; decide) ?_
        intro w st
        rw [show (hdV (followH x.head L[i].1)).cells.toList = hdC (followH x.head L[i].1) by simp [hdV, Value.cells], show 0 + 32 = 32 from rfl, set_vwH hpx hhx (followH_ok hrk)] at st
        refine wl_nil ⟨rfl, ?_⟩
        refine fl_val 9 rfl (fun _ => (v_fa TF.f29_2 rfl)) rfl (by kernel_rfl) ?_
        refine fl_eff1 10 [] [] (by kernel_rfl) trivial rfl ?_
        refine wl_store1 4 st rfl TF.t27 rfl (by conv => (lhs; whnf)) hrv2 (by rw [List.size_toArray, length_vwC hpx (followH_ok hrk)]; decide) ?_
        intro w st
        rw [show 0 + 97 = 97 from rfl, set_vwR hpx (followH_ok hrk)] at st
        refine wl_nil ⟨rfl, ?_⟩
        refine fl_nil (by kernel_rfl) trivial ?_
        refine block_go (then_go ?_)
        refine wc_region ?_
        refine wl_val (v_add' rfl rfl rfl (by first | omega | (dsimp only at *; omega)) (by first | omega | (dsimp only at *; omega))) rfl ?_
        refine wl_val (v_move' (by conv => (lhs; whnf))) rfl ?_
        refine wl_nil ?_
        refine then_go ?_
        rw [hse, if_pos (Decidable.not_not.1 h50)] at hRx
        have hsv : lrnV x L[i].1 = ⟨x.pin, followH x.head L[i].1, x.roots ++ [L[i].1.root]⟩ := by rw [lrnV, if_neg hcond]
        refine ⟨q - 1, by simp; omega, i + 1, lrnV x L[i].1, rv2, _, by omega, rfl, rfl, rfl, rfl, rfl, hRx, by rw [ko3]; exact hpx, ko1, ko2, by omega, hl, ?_⟩
        rw [hsv]
        exact (st.drop 0).drop 0
  · refine wc_exit (then_exit (then_exit (block_hit ?_)))
    refine then_go ?_
    refine wc_seq ?_
    refine wc_region ?_
    refine wl_val (v_load rfl (st.reads (v := .agg (vwC x.pin x.head rv).toArray) 2 rfl TF.t29 (getV_all (by rw [List.size_toArray, length_vwC hpx hhx])))) rfl ?_
    refine wl_storeW (cs := (vwC x.pin x.head rv).toArray) 1 st rfl TF.t29 rfl rfl (by rw [List.size_toArray, length_vwC hpx hhx]) (by rw [List.size_toArray, hz98]) (fun u hu => one_vwC (row_one (st.at (i := 0) rfl)) u (by simpa using hu)) ?_
    intro w st
    refine wl_val (v_assign' (by conv => (lhs; whnf))) rfl ?_
    refine wl_nil ?_
    refine then_go ?_
    refine wc_ret ?_
    have hiL : i = L.length := by omega
    subst hiL
    rw [List.drop_length, List.map_nil, learnG] at hRx
    have hrd := st.reads (v := .agg (vwC x.pin x.head rv).toArray) 1 rfl TF.t29 (getV_all (by rw [List.size_toArray, length_vwC hpx hhx]))
    obtain ⟨m4, hg4, hq4, st⟩ := st.keepLs (i := 0) rfl (fun t ht => length_rtC (hokx t ht))
    exact ret2c rfl hrd rfl ((st.keepOnly (l := []) (List.nil_sublist _)).out ⟨_, by rw [hRx]; rfl, by rw [hRx]; exact ⟨rv, rfl, hq4, hpx, hhx, hokx⟩⟩)
end
end Go.Proofs.Ytjjpakjgppmmdaa

/-
  A view behind signed roots: the reference's Learn; two views that are the same are told to be.
-/
namespace Go.Proofs.Ytjjpakjgppmmdaa
open Go Go.RowKit K SH PT

theorem v_neRtF {r : Fr} {w : World} {ty U : TypeId} {x y : Operand} {a : Rt} (hx : ev r x = rtV a) (hy : ev r y = rtV a) (ha : a.ok) : Val Try.prog (.binOp .neq 55 x y U) ty r w (.bool false) w := by
  have h := v_neRt (U := U) (ty := ty) (w := w) hx hy ha ha
  rwa [decide_eq_false (not_not_intro rfl)] at h
theorem v_neHdF {r : Fr} {w : World} {ty U : TypeId} {x y : Operand} {a : Hd} (hx : ev r x = hdV a) (hy : ev r y = hdV a) (ha : a.ok) : Val Try.prog (.binOp .neq 26 x y U) ty r w (.bool false) w := by
  have h := v_neHd (U := U) (ty := ty) (w := w) hx hy ha ha
  rwa [decide_eq_false (not_not_intro rfl)] at h

section
variable {m : Mem} {wI : World}

theorem c_sameview {v1 v2 : Value} {x : Vw} (him : Im m wI) (h1 : VwM m v1 x) (h2 : VwM m v2 x) (hlen : x.roots.length ≤ 1099511627776) :
    Ret Try.prog 16 #[v1, v2] wI fun v' w' => Tch wI w' [] [] ∧ v' = .bool true := by
  have st := St.start him
  obtain ⟨s1, rfl, hs1, hp, hh, hok⟩ := h1
  obtain ⟨s2, rfl, hs2, _, _, _⟩ := h2
  obtain ⟨a1, c1, rfl⟩ := hs1.sl
  obtain ⟨a2, c2, rfl⟩ := hs2.sl
  refine ret_of Try.call16 Try.func16 rfl Try.ntmps16 Try.results16 rfl ?_
  refine wc_seq ?_
  refine wc_region ?_
  refine wl_box (v := .agg (vwC x.pin x.head (.slice a1 x.roots.length c1)).toArray) rfl st rfl ?_
  intro b2 w st
  refine wl_box (v := .agg (vwC x.pin x.head (.slice a2 x.roots.length c2)).toArray) rfl st rfl ?_
  intro b3 w st
  refine wl_val (v_assign' (by conv => (lhs; whnf))) rfl ?_
  refine wl_nil ?_
  refine then_go ?_
  refine wc_seq ?_
  refine wc_seq ?_
  refine wc_region ?_
  refine wl_val (v_fa TF.f29_0 rfl) rfl ?_
  refine wl_val (v_load rfl (st.reads (v := arr x.pin) 1 rfl TF.t23 (vw_p hp))) rfl ?_
  refine wl_val (v_fa TF.f29_0 rfl) rfl ?_
  refine wl_val (v_load rfl (st.reads (v := arr x.pin) 0 rfl TF.t23 (vw_p hp))) rfl ?_
  refine wl_val (v_neDF rfl rfl hp) rfl ?_
  refine wl_val (v_move' (by conv => (lhs; whnf))) rfl ?_
  refine wl_on rfl rfl ?_
  refine wl_val (v_fa TF.f29_1 rfl) rfl ?_
  refine wl_on rfl rfl ?_
  refine wl_val (v_load rfl (st.reads (v := hdV x.head) 1 rfl TF.t26 (vw_h hp hh))) rfl ?_
  refine wl_on rfl rfl ?_
  refine wl_val (v_fa TF.f29_1 rfl) rfl ?_
  refine wl_on rfl rfl ?_
  refine wl_val (v_load rfl (st.reads (v := hdV x.head) 0 rfl TF.t26 (vw_h hp hh))) rfl ?_
  refine wl_on rfl rfl ?_
  refine wl_val (v_neHdF rfl rfl hh) rfl ?_
  refine wl_val (v_pick rfl) rfl ?_
  refine wl_val (v_move' (by conv => (lhs; whnf))) rfl ?_
  refine wl_on rfl rfl ?_
  refine wl_val (v_fa TF.f29_2 rfl) rfl ?_
  refine wl_on rfl rfl ?_
  refine wl_val (v_load rfl (st.reads (v := .slice a1 x.roots.length c1) 1 rfl TF.t27 (vw_r hp hh))) rfl ?_
  refine wl_on rfl rfl ?_
  refine wl_val (v_len_s Try.underlying27 rfl) rfl ?_
  refine wl_on rfl rfl ?_
  refine wl_val (v_fa TF.f29_2 rfl) rfl ?_
  refine wl_on rfl rfl ?_
  refine wl_val (v_load rfl (st.reads (v := .slice a2 x.roots.length c2) 0 rfl TF.t27 (vw_r hp hh))) rfl ?_
  refine wl_on rfl rfl ?_
  refine wl_val (v_len_s Try.underlying27 rfl) rfl ?_
  refine wl_on rfl rfl ?_
  refine wl_val (v_neqF (a := (x.roots.length : Int)) (b := (x.roots.length : Int)) rfl rfl rfl) rfl ?_
  refine wl_val (v_pick rfl) rfl ?_
  refine wl_nil ?_
  refine then_go ?_
  refine wc_false rfl ?_
  refine wc_skip ?_
  refine then_go ?_
  refine wc_seq ?_
  refine wc_seq ?_
  refine wc_region ?_
  refine wl_val (v_assign' (by conv => (lhs; whnf))) rfl ?_
  refine wl_nil ?_
  refine then_go ?_
  refine wc_block ?_
  refine wc_loop (S := Nat) (fun q r w' => ∃ (i : Nat), q + i = x.roots.length ∧ r 2 = .pointer (some ⟨b2, 0, none⟩) ∧ r 3 = .pointer (some ⟨b3, 0, none⟩) ∧ r 5 = .int .i64 i ∧
    St m m [] wI w' [K.blk b3 (vwC x.pin x.head (.slice a2 x.roots.length c2)).toArray 29, K.blk b2 (vwC x.pin x.head (.slice a1 x.roots.length c1)).toArray 29]) id x.roots.length ⟨0, by omega, rfl, rfl, rfl, st⟩ ?_
  rintro q r w2 ⟨i, hqi, g2, g3, g5, st⟩
  refine wc_o 2 g2 (wc_o 3 g3 (wc_o 5 g5 ?_))
  refine wc_seq ?_
  refine wc_seq ?_
  refine wc_region ?_
  refine wl_val (v_move' (by conv => (lhs; whnf))) rfl ?_
  refine wl_val (v_fa TF.f29_2 rfl) rfl ?_
  refine wl_val (v_load rfl (st.reads (v := .slice a1 x.roots.length c1) 1 rfl TF.t27 (vw_r hp hh))) rfl ?_
  refine wl_val (v_len_s Try.underlying27 rfl) rfl ?_
  refine wl_val (v_lss rfl rfl) rfl ?_
  refine wl_nil ?_
  refine then_go ?_
  refine wc_if rfl (fun h31 => ?_) (fun h31 => ?_)
  · refine wc_skip ?_
    refine then_go ?_
    refine wc_seq ?_
    refine wc_block ?_
    refine wc_seq ?_
    have hi : i < x.roots.length := by omega
    obtain ⟨ba, oa, hba⟩ := hs1.ptr (by omega) (by decide)
    obtain ⟨bv, ov, hbv⟩ := hs2.ptr (by omega) (by decide)
    subst hba
    subst hbv
    have hti := hok _ (List.getElem_mem hi)
    refine wc_draw TF.mixed ?_
    have st := st.pure (touch_drew _)
    refine fl_val 0 rfl (fun _ => (v_fa TF.f29_2 rfl)) rfl (by kernel_rfl) ?_
    refine fl_ld 1 rfl (v_load rfl (st.reads (v := .slice (some ⟨ba, oa, none⟩) x.roots.length c1) 1 rfl TF.t27 (vw_r hp hh))) (by kernel_rfl) ?_
    refine fl_val 2 rfl (fun _ => (v_move' (by conv => (lhs; whnf)))) rfl (by kernel_rfl) ?_
    refine fl_val 3 rfl (fun _ => (v_ias i Try.underlying27 TF.t55 rfl rfl (by first | rfl | omega) (by first | omega | (dsimp only at *; omega)))) rfl (by kernel_rfl) ?_
    refine fl_ld 4 rfl (v_load rfl (hs1.rd0 rfl hi (by decide) TF.t55 (v' := rtV x.roots[i]) (getV_all (by rw [List.size_toArray, length_rtC hti])) st.im)) (by kernel_rfl) ?_
    refine fl_val 5 rfl (fun _ => (v_fa TF.f29_2 rfl)) rfl (by kernel_rfl) ?_
    refine fl_ld 6 rfl (v_load rfl (st.reads (v := .slice (some ⟨bv, ov, none⟩) x.roots.length c2) 0 rfl TF.t27 (vw_r hp hh))) (by kernel_rfl) ?_
    refine fl_val 7 rfl (fun _ => (v_move' (by conv => (lhs; whnf)))) rfl (by kernel_rfl) ?_
    refine fl_val 8 rfl (fun _ => (v_ias i Try.underlying27 TF.t55 rfl rfl (by first | rfl | omega) (by first | omega | (dsimp only at *; omega)))) rfl (by kernel_rfl) ?_
    refine fl_ld 9 rfl (v_load rfl (hs2.rd0 rfl hi (by decide) TF.t55 (v' := rtV x.roots[i]) (getV_all (by rw [List.size_toArray, length_rtC hti])) st.im)) (by kernel_rfl) ?_
    refine fl_val 10 rfl (fun _ => (v_neRtF rfl rfl hti)) rfl (by kernel_rfl) ?_
    refine fl_nil (by kernel_rfl) ⟨obl_ld rfl rfl rfl (v_load rfl (hs2.rd0 rfl hi (by decide) TF.t55 (v' := rtV x.roots[i]) (getV_all (by rw [List.size_toArray, length_rtC hti])) st.im)), obl_ld rfl rfl rfl (v_load rfl (st.reads (v := .slice (some ⟨bv, ov, none⟩) x.roots.length c2) 0 rfl TF.t27 (vw_r hp hh))), obl_ld rfl rfl rfl (v_load rfl (hs1.rd0 rfl hi (by decide) TF.t55 (v' := rtV x.roots[i]) (getV_all (by rw [List.size_toArray, length_rtC hti])) st.im)), obl_ld rfl rfl rfl (v_load rfl (st.reads (v := .slice (some ⟨ba, oa, none⟩) x.roots.length c1) 1 rfl TF.t27 (vw_r hp hh))), trivial⟩ ?_
    refine then_go ?_
    refine wc_false rfl ?_
    refine wc_skip ?_
    refine block_go (then_go ?_)
    refine wc_region ?_
    refine wl_val (v_move' (by conv => (lhs; whnf))) rfl ?_
    refine wl_val (v_add' rfl rfl rfl (by first | omega | (dsimp only at *; omega)) (by first | omega | (dsimp only at *; omega))) rfl ?_
    refine wl_val (v_assign' (by conv => (lhs; whnf))) rfl ?_
    refine wl_nil ?_
    refine then_go ?_
    exact ⟨q - 1, by simp; omega, i + 1, by omega, rfl, rfl, rfl, st⟩
  · refine wc_exit (then_exit (then_exit (block_hit ?_)))
    refine then_go ?_
    refine wc_seq ?_
    refine wc_region ?_
    refine wl_val (v_assign' (by conv => (lhs; whnf))) rfl ?_
    refine wl_nil ?_
    refine then_go ?_
    refine wc_ret ?_
    exact ret1 rfl ⟨(st.keepOnly (l := []) (List.nil_sublist _)).touch, rfl⟩

theorem c_rlearn {vv lv : Value} {x0 : Vw} {L : List (Sg × Value)} (him : Im m wI) (hv : VwM m vv x0) (hl : SgsM m lv L) (hb : x0.roots.length + L.length ≤ 1000000) :
    Ret Try.prog 15 #[vv, lv] wI fun v' w' => Out m wI w' fun m' => ∃ v2, v' = .tuple #[v2, .int .i64 (learnG x0 (L.map (·.1))).2] ∧ VwM m' v2 (learnG x0 (L.map (·.1))).1 := by
  have st := St.start him
  have hv0 := hv
  obtain ⟨rv0, rfl, hrt0, hp, hh0, hok0⟩ := hv
  obtain ⟨la, lc, rfl⟩ := hl.1.sl
  obtain ⟨R, hR⟩ : ∃ R, R = learnG x0 (L.map (·.1)) := ⟨_, rfl⟩
  have hz98 : (vwC z32 hd0 (.slice none 0 0)).length = 98 := length_vwC rfl hd0_ok
  rw [← hR]
  refine ret_of Try.call15 Try.func15 rfl Try.ntmps15 Try.results15 rfl ?_
  refine wc_seq ?_
  refine wc_region ?_
  refine wl_box (v := .agg (vwC x0.pin x0.head rv0).toArray) rfl st rfl ?_
  intro b2 w st
  refine wl_alloc TF.z29 st rfl ?_
  intro b4 w st
  have st : St m m [] wI w [K.blk b4 (vwC z32 hd0 (.slice none 0 0)).toArray 29, K.blk b2 (vwC x0.pin x0.head rv0).toArray 29] := st
  refine wl_val (v_assign' (by conv => (lhs; whnf))) rfl ?_
  refine wl_nil ?_
  refine then_go ?_
  refine wc_seq ?_
  refine wc_region ?_
  refine wl_val (v_assign' (by conv => (lhs; whnf))) rfl ?_
  refine wl_nil ?_
  refine then_go ?_
  refine wc_seq ?_
  refine wc_draw TF.mixed ?_
  have st := st.pure (touch_drew _)
  show FL _ _ ?ops2 ?post2 [] [] [] _ _
  have fin : ∀ (r : Fr) (w : World) (b7 : Nat) (rv : Value), r 1 = .slice la L.length lc → r 2 = .pointer (some ⟨b2, 0, none⟩) → r 4 = .pointer (some ⟨b4, 0, none⟩) → r 7 = .pointer (some ⟨b7, 0, none⟩) → r 12 = .pointer (some ⟨b2, 0 + 0, none⟩) → r 13 = arr x0.pin → r 14 = .pointer (some ⟨b2, 0 + 32, none⟩) → r 15 = hdV x0.head → r 19 = rv → r 20 = .agg (vwC x0.pin x0.head rv).toArray → rv.oneCell' = true →
    St m m [] wI w [K.blk b7 (vwC z32 hd0 (.slice none 0 0)).toArray 29, lsE 55 97 rtC rv x0.roots, K.blk b4 (vwC z32 hd0 (.slice none 0 0)).toArray 29, K.blk b2 (vwC x0.pin x0.head rv0).toArray 29] → FL Try.prog 83 ?ops2 ?post2 [9, 8, 7, 6, 5, 4, 3, 2, 1, 0] [8, 5, 2, 0] [3, 1] r w := by
    clear st
    rintro r w b7 rv g1 g2 g4 g7 g12 g13 g14 g15 g19 g20 hone st
    refine fl_o 1 g1 (fl_o 2 g2 (fl_o 4 g4 (fl_o 7 g7 (fl_o 12 g12 (fl_o 13 g13 (fl_o 14 g14 (fl_o 15 g15 (fl_o 19 g19 (fl_o 20 g20 ?_)))))))))
    refine fl_eff1 10 [] [] (by kernel_rfl) ⟨obl_ld rfl rfl rfl (v_load rfl (by first | exact st.reads (v := hdV x0.head) 1 rfl TF.t26 (vw_h hp hh0) | exact st.reads (v := hdV x0.head) 2 rfl TF.t26 (vw_h hp hh0) | exact st.reads (v := hdV x0.head) 3 rfl TF.t26 (vw_h hp hh0))), obl_ld rfl rfl rfl (v_load rfl (by first | exact st.reads (v := arr x0.pin) 1 rfl TF.t23 (vw_p hp) | exact st.reads (v := arr x0.pin) 2 rfl TF.t23 (vw_p hp) | exact st.reads (v := arr x0.pin) 3 rfl TF.t23 (vw_p hp))), trivial⟩ rfl ?_
    refine wl_storeW (cs := (vwC x0.pin x0.head rv).toArray) 0 st rfl TF.t29 rfl rfl (by rw [List.size_toArray, length_vwC hp hh0]) (by rw [List.size_toArray, hz98]) (fun u hu => one_vwC hone u (by simpa using hu)) ?_
    intro w st
    refine wl_nil ⟨rfl, ?_⟩
    refine fl_nil (by kernel_rfl) trivial ?_
    refine then_go ?_
    refine wc_seq ?_
    refine wc_seq ?_
    refine wc_region ?_
    refine wl_val (v_assign' (by conv => (lhs; whnf))) rfl ?_
    refine wl_nil ?_
    refine then_go ?_
    refine wc_block ?_
    refine wc_loop (S := Nat) (fun q r w' => ∃ (i : Nat) (x : Vw) (rv : Value) (m2 : Mem), q + i = L.length ∧ r 1 = .slice la L.length lc ∧ r 4 = .pointer (some ⟨b4, 0, none⟩) ∧ r 7 = .pointer (some ⟨b7, 0, none⟩) ∧ r 8 = .int .i64 i ∧ R = learnG x ((L.drop i).map (·.1)) ∧ x.pin.length = 32 ∧ x.head.ok ∧ (∀ t ∈ x.roots, t.ok) ∧ x.roots.length + (L.length - i) ≤ 1000000 ∧ SgsM m2 (.slice la L.length lc) L ∧
      St m m2 [] wI w' [K.blk b7 (vwC x.pin x.head rv).toArray 29, lsE 55 97 rtC rv x.roots, K.blk b4 (vwC z32 hd0 (.slice none 0 0)).toArray 29, K.blk b2 (vwC x0.pin x0.head rv0).toArray 29]) id L.length ⟨0, x0, _, m, by omega, rfl, rfl, rfl, rfl, hR, hp, hh0, hok0, by omega, hl, st⟩ ?_
    clear hl hone
    rintro q r w2 ⟨i, x, rv, m2, hqi, g1, g4, g7, g8, hRx, hpx, hhx, hokx, hbx, hl, st⟩
    refine wc_o 1 g1 (wc_o 4 g4 (wc_o 7 g7 (wc_o 8 g8 ?_)))
    refine wc_seq ?_
    refine wc_seq ?_
    refine wc_region ?_
    refine wl_val (v_move' (by conv => (lhs; whnf))) rfl ?_
    refine wl_val (v_move' (by conv => (lhs; whnf))) rfl ?_
    refine wl_val (v_len_s Try.underlying30 rfl) rfl ?_
    refine wl_val (v_lss rfl rfl) rfl ?_
    refine wl_nil ?_
    refine then_go ?_
    refine wc_if rfl (fun h24 => ?_) (fun h24 => ?_)
    · refine wc_skip ?_
      refine then_go ?_
      refine wc_seq ?_
      refine wc_block ?_
      refine wc_seq ?_
      have hi : i < L.length := by omega
      obtain ⟨ba, oa, hba⟩ := hl.1.ptr (by omega) (by decide)
      subst hba
      obtain ⟨hrk, hsk⟩ := hl.2 _ (List.getElem_mem hi)
      have h98 := length_sgC (sv := L[i].2) hrk
      have hLen : ∀ t ∈ x.roots, (rtC t).length = 97 := fun t ht => length_rtC (hokx t ht)
      rw [List.drop_eq_getElem_cons hi, List.map_cons, learnG] at hRx
      obtain ⟨ko1, ko2, ko3, ko4⟩ := lrnV_ok hhx hokx hrk
      refine wc_region ?_
      refine wl_val (v_move' (by conv => (lhs; whnf))) rfl ?_
      refine wl_val (v_move' (by conv => (lhs; whnf))) rfl ?_
      refine wl_val (v_ias i Try.underlying30 TF.t71 rfl rfl (by first | rfl | omega) (by first | omega | (dsimp only at *; omega))) rfl ?_
      refine wl_val (v_fa TF.f71_0 rfl) rfl ?_
      refine wl_val (v_fa TF.f55_0 rfl) rfl ?_
      refine wl_val (v_load rfl (hl.1.rd rfl hi (by decide) TF.t24 (v' := u64 L[i].1.root.epoch) sg_e st.im)) rfl ?_
      refine wl_val (v_assign' (by conv => (lhs; whnf))) rfl ?_
      refine wl_nil ?_
      refine then_go ?_
      refine wc_seq ?_
      refine wc_seq ?_
      refine wc_region ?_
      refine wl_val (v_move' (by conv => (lhs; whnf))) rfl ?_
      refine wl_val (v_geq rfl rfl) rfl ?_
      refine wl_val (v_move' (by conv => (lhs; whnf))) rfl ?_
      by_cases hg2 : (1 : Int) ≤ (L[i].1.root.epoch.toNat : Int)
      · rw [show decide ((1 : Int) ≤ (L[i].1.root.epoch.toNat : Int)) = true from decide_eq_true hg2]
        obtain ⟨ra, rc, hrv⟩ := (st.lsRd 1 rfl hLen).sl
        subst hrv
        refine wl_on rfl rfl ?_
        refine wl_val (v_move' (by conv => (lhs; whnf))) rfl ?_
        refine wl_on rfl rfl ?_
        refine wl_val (v_fa TF.f29_2 rfl) rfl ?_
        refine wl_on rfl rfl ?_
        refine wl_val (v_load rfl (st.reads (v := .slice ra x.roots.length rc) 0 rfl TF.t27 (vw_r hpx hhx))) rfl ?_
        refine wl_on rfl rfl ?_
        refine wl_val (v_len_s Try.underlying27 rfl) rfl ?_
        refine wl_on rfl rfl ?_
        refine wl_val (v_to (v' := .int .u64 (x.roots.length : Nat)) (v_conv Try.underlying3 Try.underlying24 rfl) (by rw [wrap_u64_small (by omega)])) rfl ?_
        refine wl_on rfl rfl ?_
        refine wl_val (v_leq rfl rfl) rfl ?_
        refine wl_val (v_pick rfl) rfl ?_
        refine wl_nil ?_
        refine then_go ?_
        refine wc_if rfl (fun h42 => ?_) (fun h42 => ?_)
        · refine wc_seq ?_
          refine wc_seq ?_
          have hcond : 1 ≤ L[i].1.root.epoch.toNat ∧ L[i].1.root.epoch.toNat ≤ x.roots.length := by omega
          have hj : L[i].1.root.epoch.toNat - 1 < x.roots.length := by omega
          have hrd2 := st.lsRd 1 rfl hLen
          obtain ⟨rb, ro, hra⟩ := hrd2.ptr (by omega) (by decide)
          subst hra
          have hse : lrnE x L[i].1 = if x.roots[L[i].1.root.epoch.toNat - 1] = L[i].1.root then 0 else 17 := by
            rw [lrnE, if_pos hcond, List.getElem?_eq_getElem hj]
            simp only [Option.some.injEq]
          refine wc_draw TF.mixed ?_
          have st := st.pure (touch_drew _)
          refine fl_val 0 rfl (fun _ => (v_move' (by conv => (lhs; whnf)))) rfl (by kernel_rfl) ?_
          refine fl_val 1 rfl (fun _ => (v_move' (by conv => (lhs; whnf)))) rfl (by kernel_rfl) ?_
          refine fl_val 2 rfl (fun _ => (v_ias i Try.underlying30 TF.t71 rfl rfl (by first | rfl | omega) (by first | omega | (dsimp only at *; omega)))) rfl (by kernel_rfl) ?_
          refine fl_val 3 rfl (fun _ => (v_fa TF.f71_0 rfl)) rfl (by kernel_rfl) ?_
          refine fl_ld 4 rfl (v_load rfl (hl.1.rd rfl hi (by decide) TF.t55 (v' := rtV L[i].1.root) (sg_rt hrk) st.im)) (by kernel_rfl) ?_
          refine fl_val 5 rfl (fun _ => (v_fa TF.f29_2 rfl)) rfl (by kernel_rfl) ?_
          refine fl_ld 6 rfl (v_load rfl (st.reads (v := .slice (some ⟨rb, ro, none⟩) x.roots.length rc) 0 rfl TF.t27 (vw_r hpx hhx))) (by kernel_rfl) ?_
          refine fl_val 7 rfl (fun _ => (v_move' (by conv => (lhs; whnf)))) rfl (by kernel_rfl) ?_
          refine fl_val 8 rfl (fun _ => (v_to (v' := .int .u64 ((L[i].1.root.epoch.toNat - 1 : Nat) : Int)) (v_sub rfl rfl) (by rw [show ((L[i].1.root.epoch.toNat : Int) - 1) = ((L[i].1.root.epoch.toNat - 1 : Nat) : Int) by omega, wrap_u64_small (by have := L[i].1.root.epoch.toNat_lt; omega)]))) rfl (by kernel_rfl) ?_
          refine fl_val 9 rfl (fun _ => (v_ias (L[i].1.root.epoch.toNat - 1) Try.underlying27 TF.t55 rfl rfl (by first | rfl | omega) (by first | omega | (dsimp only at *; omega)))) rfl (by kernel_rfl) ?_
          refine fl_ld 10 rfl (v_load rfl (hrd2.rd0 rfl hj (by decide) TF.t55 (v' := rtV x.roots[L[i].1.root.epoch.toNat - 1]) (getV_all (by rw [List.size_toArray, hLen _ (List.getElem_mem hj)])) (im_heapM _))) (by kernel_rfl) ?_
          refine fl_val 11 rfl (fun _ => (v_neRt rfl rfl hrk (hokx _ (List.getElem_mem hj)))) rfl (by kernel_rfl) ?_
          refine fl_nil (by kernel_rfl) ⟨obl_ld rfl rfl rfl (v_load rfl (hrd2.rd0 rfl hj (by decide) TF.t55 (v' := rtV x.roots[L[i].1.root.epoch.toNat - 1]) (getV_all (by rw [List.size_toArray, hLen _ (List.getElem_mem hj)])) (im_heapM _))), obl_ld rfl rfl rfl (v_load rfl (st.reads (v := .slice (some ⟨rb, ro, none⟩) x.roots.length rc) 0 rfl TF.t27 (vw_r hpx hhx))), obl_ld rfl rfl rfl (v_load rfl (hl.1.rd rfl hi (by decide) TF.t55 (v' := rtV L[i].1.root) (sg_rt hrk) st.im)), trivial⟩ ?_
          refine then_go ?_
          refine wc_if rfl (fun h54 => ?_) (fun h54 => ?_)
          · refine wc_seq ?_
            refine wc_region ?_
            refine wl_val (v_build (c' := (vwC z32 hd0 (.slice none 0 0)).toArray) [] TF.z29 TF.p29 rfl rfl) rfl ?_
            refine wl_storeW (cs := (vwC z32 hd0 (.slice none 0 0)).toArray) 2 st rfl TF.t29 rfl rfl rfl rfl (fun u hu => one_vwC rfl u (by simpa using hu)) ?_
            intro w st
            refine wl_val (v_assign' (by conv => (lhs; whnf))) rfl ?_
            refine wl_nil ?_
            refine then_go ?_
            refine wc_ret (then_ret (then_ret (block_ret (then_ret (then_ret (block_ret (then_ret ?_)))))))
            have h54' : ¬ x.roots[L[i].1.root.epoch.toNat - 1] = L[i].1.root := fun e => h54 e.symm
            rw [hse, if_neg h54', if_neg (show ¬ ((17 : Int) = 0) by decide)] at hRx
            exact ret2c rfl (st.reads 2 rfl TF.t29 (getV_all rfl)) rfl ((st.keepOnly (l := []) (List.nil_sublist _)).out ⟨_, by rw [hRx]; rfl, by rw [hRx]; exact vw0_M⟩)
          · refine wc_skip ?_
            refine then_go ?_
            refine wc_exit (then_exit (block_hit ?_))
            refine then_go ?_
            refine wc_region ?_
            refine wl_val (v_move' (by conv => (lhs; whnf))) rfl ?_
            refine wl_val (v_add' rfl rfl rfl (by first | omega | (dsimp only at *; omega)) (by first | omega | (dsimp only at *; omega))) rfl ?_
            refine wl_val (v_assign' (by conv => (lhs; whnf))) rfl ?_
            refine wl_nil ?_
            refine then_go ?_
            have h54' : x.roots[L[i].1.root.epoch.toNat - 1] = L[i].1.root := (Decidable.not_not.1 h54).symm
            rw [hse, if_pos h54', if_pos rfl, lrnV, if_pos hcond] at hRx
            exact ⟨q - 1, by simp; omega, i + 1, x, _, m2, by omega, rfl, rfl, rfl, rfl, hRx, hpx, hhx, hokx, by omega, hl, st⟩
        · refine wc_skip ?_
          refine then_go ?_
          refine wc_seq ?_
          have hcond : ¬ (1 ≤ L[i].1.root.epoch.toNat ∧ L[i].1.root.epoch.toNat ≤ x.roots.length) := by omega
          have hse : lrnE x L[i].1 = followE x.head L[i].1 := by rw [lrnE, if_neg hcond]
          refine wc_draw TF.mixed ?_
          have st := st.pure (touch_drew _)
          refine fl_val 0 rfl (fun _ => (v_fa TF.f29_1 rfl)) rfl (by kernel_rfl) ?_
          refine fl_ld 1 rfl (v_load rfl (by first | exact st.reads (v := hdV x.head) 0 rfl TF.t26 (vw_h hpx hhx) | exact st.reads (v := hdV x.head) 1 rfl TF.t26 (vw_h hpx hhx))) (by kernel_rfl) ?_
          refine fl_val 2 rfl (fun _ => (v_move' (by conv => (lhs; whnf)))) rfl (by kernel_rfl) ?_
          refine fl_val 3 rfl (fun _ => (v_move' (by conv => (lhs; whnf)))) rfl (by kernel_rfl) ?_
          refine fl_val 4 rfl (fun _ => (v_ias i Try.underlying30 TF.t71 rfl rfl (by first | rfl | omega) (by first | omega | (dsimp only at *; omega)))) rfl (by kernel_rfl) ?_
          refine fl_ld 5 rfl (v_load rfl (hl.1.rd0 rfl hi (by decide) TF.t71 (v' := .agg (sgC L[i].1.root L[i].2).toArray) (getV_all (by rw [List.size_toArray]; exact h98)) st.im)) (by kernel_rfl) ?_
          refine fl_effs [6, 10] (by kernel_rfl) ⟨obl_ld rfl rfl rfl (v_load rfl (hl.1.rd0 rfl hi (by decide) TF.t71 (v' := .agg (sgC L[i].1.root L[i].2).toArray) (getV_all (by rw [List.size_toArray]; exact h98)) st.im)), obl_ld rfl rfl rfl (v_load rfl (by first | exact st.reads (v := hdV x.head) 0 rfl TF.t26 (vw_h hpx hhx) | exact st.reads (v := hdV x.head) 1 rfl TF.t26 (vw_h hpx hhx))), trivial⟩ (all2 ?_ ?_)
          · refine stepE 6 (pure' := [4, 3, 2, 0]) (lds' := []) rfl (by kernel_rfl) (by kernel_rfl) ?_
            refine wl_call rfl (c_rfollow (s := L[i].1) st.im hhx ⟨_, rfl, hsk, hrk⟩) rfl ?_
            rintro v46 w ⟨t46, m3, hg3, hi3, rfl⟩
            have st := st.grown hg3 t46 hi3
            have hl := hl.mono hg3.le
            refine wl_nil ⟨rfl, ?_⟩
            refine fl_val 7 rfl (fun _ => (v_move' (by conv => (lhs; whnf)))) rfl (by kernel_rfl) ?_
            refine fl_val 8 rfl (fun _ => (v_extract rfl rfl)) rfl (by kernel_rfl) ?_
            refine fl_val 9 rfl (fun _ => (v_extract rfl rfl)) rfl (by kernel_rfl) ?_
            refine fl_eff1 10 [9, 8, 7, 4, 3, 2, 0] [] (by kernel_rfl) trivial rfl ?_
            refine wl_alloc TF.z26 st rfl ?_
            intro b10 w st
            refine wl_nil ⟨rfl, ?_⟩
            refine fl_eff1 11 [9] [] (by kernel_rfl) trivial rfl ?_
            refine wl_storeW (cs := (hdC (followH x.head L[i].1)).toArray) 0 st rfl TF.t26 rfl rfl (by rw [List.size_toArray, length_hdC (followH_ok hrk)]) rfl (fun u hu => one_hdC u (by simpa using hu)) ?_
            intro w st
            refine wl_nil ⟨rfl, ?_⟩
            refine fl_eff1 12 [] [] (by kernel_rfl) trivial rfl ?_
            refine wl_val (v_assign' (by conv => (lhs; whnf))) rfl ?_
            refine wl_nil ⟨rfl, ?_⟩
            refine fl_nil (by kernel_rfl) trivial ?_
            refine then_go ?_
            refine wc_seq ?_
            refine wc_seq ?_
            refine wc_region ?_
            refine wl_val (v_move' (by conv => (lhs; whnf))) rfl ?_
            refine wl_val (v_neq rfl rfl) rfl ?_
            refine wl_nil ?_
            refine then_go ?_
            refine wc_if rfl (fun h67 => ?_) (fun h67 => ?_)
            · refine wc_seq ?_
              refine wc_region ?_
              refine wl_val (v_build (c' := (vwC z32 hd0 (.slice none 0 0)).toArray) [] TF.z29 TF.p29 rfl rfl) rfl ?_
              refine wl_val (v_move' (by conv => (lhs; whnf))) rfl ?_
              refine wl_storeW (cs := (vwC z32 hd0 (.slice none 0 0)).toArray) 3 st rfl TF.t29 rfl rfl rfl rfl (fun u hu => one_vwC rfl u (by simpa using hu)) ?_
              intro w st
              refine wl_val (v_assign' (by conv => (lhs; whnf))) rfl ?_
              refine wl_nil ?_
              refine then_go ?_
              refine wc_ret (then_ret (block_ret (then_ret (then_ret (block_ret (then_ret ?_))))))
              rw [hse, if_neg h67] at hRx
              exact ret2c rfl (st.reads 3 rfl TF.t29 (getV_all rfl)) rfl ((st.keepOnly (l := []) (List.nil_sublist _)).out ⟨_, by rw [hRx]; rfl, by rw [hRx]; exact vw0_M⟩)
            · refine wc_skip ?_
              refine then_go ?_
              refine wc_seq ?_
              refine wc_region ?_
              refine wl_val (v_load rfl (st.reads (v := hdV (followH x.head L[i].1)) 0 rfl TF.t26 (getV_all (by rw [List.size_toArray, length_hdC (followH_ok hrk)])))) rfl ?_
              refine wl_val (v_fa TF.f29_1 rfl) rfl ?_
              refine wl_store (v := hdV (followH x.head L[i].1)) 1 st rfl TF.t26 rfl rfl (by simp [hdV, Value.cells, length_hdC (followH_ok hrk)]) (fun u hu => one_hdC u (by simpa [hdV, Value.cells] using hu)) (by rw [List.size_toArray, length_vwC hpx hhx]; decide) ?_
              intro w st
              rw [show (hdV (followH x.head L[i].1)).cells.toList = hdC (followH x.head L[i].1) by simp [hdV, Value.cells], show 0 + 32 = 32 from rfl, set_vwH hpx hhx (followH_ok hrk)] at st
              refine wl_nil ?_
              refine then_go ?_
              refine wc_draw TF.mixed ?_
              have st := st.pure (touch_drew _)
              refine fl_val 0 rfl (fun _ => (v_fa TF.f29_2 rfl)) rfl (by kernel_rfl) ?_
              refine fl_ld 1 rfl (v_load rfl (by first | exact st.reads (v := rv) (b := b7) (c := (vwC x.pin (followH x.head L[i].1) rv).toArray) 1 rfl TF.t27 (vw_r hpx (followH_ok hrk)) | exact st.reads (v := rv) (b := b7) (c := (vwC x.pin (followH x.head L[i].1) rv).toArray) 2 rfl TF.t27 (vw_r hpx (followH_ok hrk)) | exact st.reads (b := b7) (c := (vwC x.pin (followH x.head L[i].1) (.slice ra x.roots.length rc)).toArray) 1 rfl TF.t27 (vw_r hpx (followH_ok hrk)) | exact st.reads (b := b7) (c := (vwC x.pin (followH x.head L[i].1) (.slice ra x.roots.length rc)).toArray) 2 rfl TF.t27 (vw_r hpx (followH_ok hrk)))) (by kernel_rfl) ?_
              refine fl_val 2 rfl (fun _ => (v_move' (by conv => (lhs; whnf)))) rfl (by kernel_rfl) ?_
              refine fl_val 3 rfl (fun _ => (v_move' (by conv => (lhs; whnf)))) rfl (by kernel_rfl) ?_
              refine fl_val 4 rfl (fun _ => (v_ias i Try.underlying30 TF.t71 rfl rfl (by first | rfl | omega) (by first | omega | (dsimp only at *; omega)))) rfl (by kernel_rfl) ?_
              refine fl_val 5 rfl (fun _ => (v_fa TF.f71_0 rfl)) rfl (by kernel_rfl) ?_
              refine fl_ld 6 rfl (v_load rfl (hl.1.rd rfl hi (by decide) TF.t55 (v' := rtV L[i].1.root) (sg_rt hrk) st.im)) (by kernel_rfl) ?_
              refine fl_eff1 7 [5, 4, 3, 2, 0] [1] (by kernel_rfl) ⟨obl_ld rfl rfl rfl (v_load rfl (hl.1.rd rfl hi (by decide) TF.t55 (v' := rtV L[i].1.root) (sg_rt hrk) st.im)), obl_ld rfl rfl rfl (v_load rfl (by first | exact st.reads (v := rv) (b := b7) (c := (vwC x.pin (followH x.head L[i].1) rv).toArray) 1 rfl TF.t27 (vw_r hpx (followH_ok hrk)) | exact st.reads (v := rv) (b := b7) (c := (vwC x.pin (followH x.head L[i].1) rv).toArray) 2 rfl TF.t27 (vw_r hpx (followH_ok hrk)) | exact st.reads (b := b7) (c := (vwC x.pin (followH x.head L[i].1) (.slice ra x.roots.length rc)).toArray) 1 rfl TF.t27 (vw_r hpx (followH_ok hrk)) | exact st.reads (b := b7) (c := (vwC x.pin (followH x.head L[i].1) (.slice ra x.roots.length rc)).toArray) 2 rfl TF.t27 (vw_r hpx (followH_ok hrk)))), trivial⟩ rfl ?_
              refine wl_lsOne (rtC L[i].1.root) Try.underlying27 TF.t55 TF.z55 (by decide) (by decide) (length_rtC hrk) rfl st rfl ?_
              intro b58 w st
              refine wl_nil ⟨rfl, ?_⟩
              refine fl_eff1 8 [5, 4, 3, 2, 0] [] (by kernel_rfl) ⟨obl_ld rfl rfl rfl (v_load rfl (by first | exact st.reads (v := rv) (b := b7) (c := (vwC x.pin (followH x.head L[i].1) rv).toArray) 1 rfl TF.t27 (vw_r hpx (followH_ok hrk)) | exact st.reads (v := rv) (b := b7) (c := (vwC x.pin (followH x.head L[i].1) rv).toArray) 2 rfl TF.t27 (vw_r hpx (followH_ok hrk)) | exact st.reads (b := b7) (c := (vwC x.pin (followH x.head L[i].1) (.slice ra x.roots.length rc)).toArray) 1 rfl TF.t27 (vw_r hpx (followH_ok hrk)) | exact st.reads (b := b7) (c := (vwC x.pin (followH x.head L[i].1) (.slice ra x.roots.length rc)).toArray) 2 rfl TF.t27 (vw_r hpx (followH_ok hrk)))), trivial⟩ rfl ?_
              refine wl_lsApp 2 (c := rtC) (e := L[i].1.root) st rfl Try.underlying27 TF.t55 TF.z55 rfl (length_rtC hrk) one_rtC rfl rfl (by omega) (by omega) rfl ?_
              intro rv2 w st hrv2
              refine wl_nil ⟨rfl, ?_⟩
              refine fl_val 9 rfl (fun _ => (v_fa TF.f29_2 rfl)) rfl (by kernel_rfl) ?_
              refine fl_eff1 10 [] [] (by kernel_rfl) trivial rfl ?_
              refine wl_store1 1 st rfl TF.t27 rfl (by conv => (lhs; whnf)) hrv2 (by rw [List.size_toArray, length_vwC hpx (followH_ok hrk)]; decide) ?_
              intro w st
              rw [show 0 + 97 = 97 from rfl, set_vwR hpx (followH_ok hrk)] at st
              refine wl_nil ⟨rfl, ?_⟩
              refine fl_nil (by kernel_rfl) trivial ?_
              refine block_go (then_go ?_)
              refine wc_region ?_
              refine wl_val (v_move' (by conv => (lhs; whnf))) rfl ?_
              refine wl_val (v_add' rfl rfl rfl (by first | omega | (dsimp only at *; omega)) (by first | omega | (dsimp only at *; omega))) rfl ?_
              refine wl_val (v_assign' (by conv => (lhs; whnf))) rfl ?_
              refine wl_nil ?_
              refine then_go ?_
              rw [hse, if_pos (Decidable.not_not.1 h67)] at hRx
              have hsv : lrnV x L[i].1 = ⟨x.pin, followH x.head L[i].1, x.roots ++ [L[i].1.root]⟩ := by rw [lrnV, if_neg hcond]
              refine ⟨q - 1, by simp; omega, i + 1, lrnV x L[i].1, rv2, _, by omega, rfl, rfl, rfl, rfl, hRx, by rw [ko3]; exact hpx, ko1, ko2, by omega, hl, ?_⟩
              rw [hsv]
              exact st.drop 0
          · refine stepE 10 (pure' := [4, 3, 2, 0]) (lds' := [5, 1]) rfl (by kernel_rfl) (by kernel_rfl) ?_
            refine wl_alloc TF.z26 st rfl ?_
            intro b10 w st
            refine wl_nil ⟨rfl, ?_⟩
            refine fl_eff1 6 [4, 3, 2, 0] [] (by kernel_rfl) ⟨obl_ld rfl rfl rfl (v_load rfl (hl.1.rd0 rfl hi (by decide) TF.t71 (v' := .agg (sgC L[i].1.root L[i].2).toArray) (getV_all (by rw [List.size_toArray]; exact h98)) st.im)), obl_ld rfl rfl rfl (v_load rfl (by first | exact st.reads (v := hdV x.head) 0 rfl TF.t26 (vw_h hpx hhx) | exact st.reads (v := hdV x.head) 1 rfl TF.t26 (vw_h hpx hhx))), trivial⟩ rfl ?_
            refine wl_call rfl (c_rfollow (s := L[i].1) st.im hhx ⟨_, rfl, hsk, hrk⟩) rfl ?_
            rintro v46 w ⟨t46, m3, hg3, hi3, rfl⟩
            have st := st.grown hg3 t46 hi3
            have hl := hl.mono hg3.le
            refine wl_nil ⟨rfl, ?_⟩
            refine fl_val 7 rfl (fun _ => (v_move' (by conv => (lhs; whnf)))) rfl (by kernel_rfl) ?_
            refine fl_val 8 rfl (fun _ => (v_extract rfl rfl)) rfl (by kernel_rfl) ?_
            refine fl_val 9 rfl (fun _ => (v_extract rfl rfl)) rfl (by kernel_rfl) ?_
            refine fl_eff1 11 [9] [] (by kernel_rfl) trivial rfl ?_
            refine wl_storeW (cs := (hdC (followH x.head L[i].1)).toArray) 0 st rfl TF.t26 rfl rfl (by rw [List.size_toArray, length_hdC (followH_ok hrk)]) rfl (fun u hu => one_hdC u (by simpa using hu)) ?_
            intro w st
            refine wl_nil ⟨rfl, ?_⟩
            refine fl_eff1 12 [] [] (by kernel_rfl) trivial rfl ?_
            refine wl_val (v_assign' (by conv => (lhs; whnf))) rfl ?_
            refine wl_nil ⟨rfl, ?_⟩
            refine fl_nil (by kernel_rfl) trivial ?_
            refine then_go ?_
            refine wc_seq ?_
            refine wc_seq ?_
            refine wc_region ?_
            refine wl_val (v_move' (by conv => (lhs; whnf))) rfl ?_
            refine wl_val (v_neq rfl rfl) rfl ?_
            refine wl_nil ?_
            refine then_go ?_
            refine wc_if rfl (fun h67 => ?_) (fun h67 => ?_)
            · refine wc_seq ?_
              refine wc_region ?_
              refine wl_val (v_build (c' := (vwC z32 hd0 (.slice none 0 0)).toArray) [] TF.z29 TF.p29 rfl rfl) rfl ?_
              refine wl_val (v_move' (by conv => (lhs; whnf))) rfl ?_
              refine wl_storeW (cs := (vwC z32 hd0 (.slice none 0 0)).toArray) 3 st rfl TF.t29 rfl rfl rfl rfl (fun u hu => one_vwC rfl u (by simpa using hu)) ?_
              intro w st
              refine wl_val (v_assign' (by conv => (lhs; whnf))) rfl ?_
              refine wl_nil ?_
              refine then_go ?_
              refine wc_ret (then_ret (block_ret (then_ret (then_ret (block_ret (then_ret ?_))))))
              rw [hse, if_neg h67] at hRx
              exact ret2c rfl (st.reads 3 rfl TF.t29 (getV_all rfl)) rfl ((st.keepOnly (l := []) (List.nil_sublist _)).out ⟨_, by rw [hRx]; rfl, by rw [hRx]; exact vw0_M⟩)
            · refine wc_skip ?_
              refine then_go ?_
              refine wc_seq ?_
              refine wc_region ?_
              refine wl_val (v_load rfl (st.reads (v := hdV (followH x.head L[i].1)) 0 rfl TF.t26 (getV_all (by rw [List.size_toArray, length_hdC (followH_ok hrk)])))) rfl ?_
              refine wl_val (v_fa TF.f29_1 rfl) rfl ?_
              refine wl_store (v := hdV (followH x.head L[i].1)) 1 st rfl TF.t26 rfl rfl (by simp [hdV, Value.cells, length_hdC (followH_ok hrk)]) (fun u hu => one_hdC u (by simpa [hdV, Value.cells] using hu)) (by rw [List.size_toArray, length_vwC hpx hhx]; decide) ?_
              intro w st
              rw [show (hdV (followH x.head L[i].1)).cells.toList = hdC (followH x.head L[i].1) by simp [hdV, Value.cells], show 0 + 32 = 32 from rfl, set_vwH hpx hhx (followH_ok hrk)] at st
              refine wl_nil ?_
              refine then_go ?_
              refine wc_draw TF.mixed ?_
              have st := st.pure (touch_drew _)
              refine fl_val 0 rfl (fun _ => (v_fa TF.f29_2 rfl)) rfl (by kernel_rfl) ?_
              refine fl_ld 1 rfl (v_load rfl (by first | exact st.reads (v := rv) (b := b7) (c := (vwC x.pin (followH x.head L[i].1) rv).toArray) 1 rfl TF.t27 (vw_r hpx (followH_ok hrk)) | exact st.reads (v := rv) (b := b7) (c := (vwC x.pin (followH x.head L[i].1) rv).toArray) 2 rfl TF.t27 (vw_r hpx (followH_ok hrk)) | exact st.reads (b := b7) (c := (vwC x.pin (followH x.head L[i].1) (.slice ra x.roots.length rc)).toArray) 1 rfl TF.t27 (vw_r hpx (followH_ok hrk)) | exact st.reads (b := b7) (c := (vwC x.pin (followH x.head L[i].1) (.slice ra x.roots.length rc)).toArray) 2 rfl TF.t27 (vw_r hpx (followH_ok hrk)))) (by kernel_rfl) ?_
              refine fl_val 2 rfl (fun _ => (v_move' (by conv => (lhs; whnf)))) rfl (by kernel_rfl) ?_
              refine fl_val 3 rfl (fun _ => (v_move' (by conv => (lhs; whnf)))) rfl (by kernel_rfl) ?_
              refine fl_val 4 rfl (fun _ => (v_ias i Try.underlying30 TF.t71 rfl rfl (by first | rfl | omega) (by first | omega | (dsimp only at *; omega)))) rfl (by kernel_rfl) ?_
              refine fl_val 5 rfl (fun _ => (v_fa TF.f71_0 rfl)) rfl (by kernel_rfl) ?_
              refine fl_ld 6 rfl (v_load rfl (hl.1.rd rfl hi (by decide) TF.t55 (v' := rtV L[i].1.root) (sg_rt hrk) st.im)) (by kernel_rfl) ?_
              refine fl_eff1 7 [5, 4, 3, 2, 0] [1] (by kernel_rfl) ⟨obl_ld rfl rfl rfl (v_load rfl (hl.1.rd rfl hi (by decide) TF.t55 (v' := rtV L[i].1.root) (sg_rt hrk) st.im)), obl_ld rfl rfl rfl (v_load rfl (by first | exact st.reads (v := rv) (b := b7) (c := (vwC x.pin (followH x.head L[i].1) rv).toArray) 1 rfl TF.t27 (vw_r hpx (followH_ok hrk)) | exact st.reads (v := rv) (b := b7) (c := (vwC x.pin (followH x.head L[i].1) rv).toArray) 2 rfl TF.t27 (vw_r hpx (followH_ok hrk)) | exact st.reads (b := b7) (c := (vwC x.pin (followH x.head L[i].1) (.slice ra x.roots.length rc)).toArray) 1 rfl TF.t27 (vw_r hpx (followH_ok hrk)) | exact st.reads (b := b7) (c := (vwC x.pin (followH x.head L[i].1) (.slice ra x.roots.length rc)).toArray) 2 rfl TF.t27 (vw_r hpx (followH_ok hrk)))), trivial⟩ rfl ?_
              refine wl_lsOne (rtC L[i].1.root) Try.underlying27 TF.t55 TF.z55 (by decide) (by decide) (length_rtC hrk) rfl st rfl ?_
              intro b58 w st
              refine wl_nil ⟨rfl, ?_⟩
              refine fl_eff1 8 [5, 4, 3, 2, 0] [] (by kernel_rfl) ⟨obl_ld rfl rfl rfl (v_load rfl (by first | exact st.reads (v := rv) (b := b7) (c := (vwC x.pin (followH x.head L[i].1) rv).toArray) 1 rfl TF.t27 (vw_r hpx (followH_ok hrk)) | exact st.reads (v := rv) (b := b7) (c := (vwC x.pin (followH x.head L[i].1) rv).toArray) 2 rfl TF.t27 (vw_r hpx (followH_ok hrk)) | exact st.reads (b := b7) (c := (vwC x.pin (followH x.head L[i].1) (.slice ra x.roots.length rc)).toArray) 1 rfl TF.t27 (vw_r hpx (followH_ok hrk)) | exact st.reads (b := b7) (c := (vwC x.pin (followH x.head L[i].1) (.slice ra x.roots.length rc)).toArray) 2 rfl TF.t27 (vw_r hpx (followH_ok hrk)))), trivial⟩ rfl ?_
              refine wl_lsApp 2 (c := rtC) (e := L[i].1.root) st rfl Try.underlying27 TF.t55 TF.z55 rfl (length_rtC hrk) one_rtC rfl rfl (by omega) (by omega) rfl ?_
              intro rv2 w st hrv2
              refine wl_nil ⟨rfl, ?_⟩
              refine fl_val 9 rfl (fun _ => (v_fa TF.f29_2 rfl)) rfl (by kernel_rfl) ?_
              refine fl_eff1 10 [] [] (by kernel_rfl) trivial rfl ?_
              refine wl_store1 1 st rfl TF.t27 rfl (by conv => (lhs; whnf)) hrv2 (by rw [List.size_toArray, length_vwC hpx (followH_ok hrk)]; decide) ?_
              intro w st
              rw [show 0 + 97 = 97 from rfl, set_vwR hpx (followH_ok hrk)] at st
              refine wl_nil ⟨rfl, ?_⟩
              refine fl_nil (by kernel_rfl) trivial ?_
              refine block_go (then_go ?_)
              refine wc_region ?_
              refine wl_val (v_move' (by conv => (lhs; whnf))) rfl ?_
              refine wl_val (v_add' rfl rfl rfl (by first | omega | (dsimp only at *; omega)) (by first | omega | (dsimp only at *; omega))) rfl ?_
              refine wl_val (v_assign' (by conv => (lhs; whnf))) rfl ?_
              refine wl_nil ?_
              refine then_go ?_
              rw [hse, if_pos (Decidable.not_not.1 h67)] at hRx
              have hsv : lrnV x L[i].1 = ⟨x.pin, followH x.head L[i].1, x.roots ++ [L[i].1.root]⟩ := by rw [lrnV, if_neg hcond]
              refine ⟨q - 1, by simp; omega, i + 1, lrnV x L[i].1, rv2, _, by omega, rfl, rfl, rfl, rfl, hRx, by rw [ko3]; exact hpx, ko1, ko2, by omega, hl, ?_⟩
              rw [hsv]
              exact st.drop 0
      · rw [show decide ((1 : Int) ≤ (L[i].1.root.epoch.toNat : Int)) = false from decide_eq_false hg2]
        refine wl_off rfl rfl rfl rfl ?_
        refine wl_off rfl rfl rfl rfl ?_
        refine wl_off rfl rfl rfl rfl ?_
        refine wl_off rfl rfl rfl rfl ?_
        refine wl_off rfl rfl rfl rfl ?_
        refine wl_off rfl rfl rfl rfl ?_
        refine wl_val (v_pick rfl) rfl ?_
        refine wl_nil ?_
        refine then_go ?_
        refine wc_false rfl ?_
        refine wc_skip ?_
        refine then_go ?_
        refine wc_seq ?_
        have hcond : ¬ (1 ≤ L[i].1.root.epoch.toNat ∧ L[i].1.root.epoch.toNat ≤ x.roots.length) := by omega
        have hse : lrnE x L[i].1 = followE x.head L[i].1 := by rw [lrnE, if_neg hcond]
        refine wc_draw TF.mixed ?_
        have st := st.pure (touch_drew _)
        refine fl_val 0 rfl (fun _ => (v_fa TF.f29_1 rfl)) rfl (by kernel_rfl) ?_
        refine fl_ld 1 rfl (v_load rfl (by first | exact st.reads (v := hdV x.head) 0 rfl TF.t26 (vw_h hpx hhx) | exact st.reads (v := hdV x.head) 1 rfl TF.t26 (vw_h hpx hhx))) (by kernel_rfl) ?_
        refine fl_val 2 rfl (fun _ => (v_move' (by conv => (lhs; whnf)))) rfl (by kernel_rfl) ?_
        refine fl_val 3 rfl (fun _ => (v_move' (by conv => (lhs; whnf)))) rfl (by kernel_rfl) ?_
        refine fl_val 4 rfl (fun _ => (v_ias i Try.underlying30 TF.t71 rfl rfl (by first | rfl | omega) (by first | omega | (dsimp only at *; omega)))) rfl (by kernel_rfl) ?_
        refine fl_ld 5 rfl (v_load rfl (hl.1.rd0 rfl hi (by decide) TF.t71 (v' := .agg (sgC L[i].1.root L[i].2).toArray) (getV_all (by rw [List.size_toArray]; exact h98)) st.im)) (by kernel_rfl) ?_
        refine fl_effs [6, 10] (by kernel_rfl) ⟨obl_ld rfl rfl rfl (v_load rfl (hl.1.rd0 rfl hi (by decide) TF.t71 (v' := .agg (sgC L[i].1.root L[i].2).toArray) (getV_all (by rw [List.size_toArray]; exact h98)) st.im)), obl_ld rfl rfl rfl (v_load rfl (by first | exact st.reads (v := hdV x.head) 0 rfl TF.t26 (vw_h hpx hhx) | exact st.reads (v := hdV x.head) 1 rfl TF.t26 (vw_h hpx hhx))), trivial⟩ (all2 ?_ ?_)
        · refine stepE 6 (pure' := [4, 3, 2, 0]) (lds' := []) rfl (by kernel_rfl) (by kernel_rfl) ?_
          refine wl_call rfl (c_rfollow (s := L[i].1) st.im hhx ⟨_, rfl, hsk, hrk⟩) rfl ?_
          rintro v46 w ⟨t46, m3, hg3, hi3, rfl⟩
          have st := st.grown hg3 t46 hi3
          have hl := hl.mono hg3.le
          refine wl_nil ⟨rfl, ?_⟩
          refine fl_val 7 rfl (fun _ => (v_move' (by conv => (lhs; whnf)))) rfl (by kernel_rfl) ?_
          refine fl_val 8 rfl (fun _ => (v_extract rfl rfl)) rfl (by kernel_rfl) ?_
          refine fl_val 9 rfl (fun _ => (v_extract rfl rfl)) rfl (by kernel_rfl) ?_
          refine fl_eff1 10 [9, 8, 7, 4, 3, 2, 0] [] (by kernel_rfl) trivial rfl ?_
          refine wl_alloc TF.z26 st rfl ?_
          intro b10 w st
          refine wl_nil ⟨rfl, ?_⟩
          refine fl_eff1 11 [9] [] (by kernel_rfl) trivial rfl ?_
          refine wl_storeW (cs := (hdC (followH x.head L[i].1)).toArray) 0 st rfl TF.t26 rfl rfl (by rw [List.size_toArray, length_hdC (followH_ok hrk)]) rfl (fun u hu => one_hdC u (by simpa using hu)) ?_
          intro w st
          refine wl_nil ⟨rfl, ?_⟩
          refine fl_eff1 12 [] [] (by kernel_rfl) trivial rfl ?_
          refine wl_val (v_assign' (by conv => (lhs; whnf))) rfl ?_
          refine wl_nil ⟨rfl, ?_⟩
          refine fl_nil (by kernel_rfl) trivial ?_
          refine then_go ?_
          refine wc_seq ?_
          refine wc_seq ?_
          refine wc_region ?_
          refine wl_val (v_move' (by conv => (lhs; whnf))) rfl ?_
          refine wl_val (v_neq rfl rfl) rfl ?_
          refine wl_nil ?_
          refine then_go ?_
          refine wc_if rfl (fun h67 => ?_) (fun h67 => ?_)
          · refine wc_seq ?_
            refine wc_region ?_
            refine wl_val (v_build (c' := (vwC z32 hd0 (.slice none 0 0)).toArray) [] TF.z29 TF.p29 rfl rfl) rfl ?_
            refine wl_val (v_move' (by conv => (lhs; whnf))) rfl ?_
            refine wl_storeW (cs := (vwC z32 hd0 (.slice none 0 0)).toArray) 3 st rfl TF.t29 rfl rfl rfl rfl (fun u hu => one_vwC rfl u (by simpa using hu)) ?_
            intro w st
            refine wl_val (v_assign' (by conv => (lhs; whnf))) rfl ?_
            refine wl_nil ?_
            refine then_go ?_
            refine wc_ret (then_ret (block_ret (then_ret (then_ret (block_ret (then_ret ?_))))))
            rw [hse, if_neg h67] at hRx
            exact ret2c rfl (st.reads 3 rfl TF.t29 (getV_all rfl)) rfl ((st.keepOnly (l := []) (List.nil_sublist _)).out ⟨_, by rw [hRx]; rfl, by rw [hRx]; exact vw0_M⟩)
          · refine wc_skip ?_
            refine then_go ?_
            refine wc_seq ?_
            refine wc_region ?_
            refine wl_val (v_load rfl (st.reads (v := hdV (followH x.head L[i].1)) 0 rfl TF.t26 (getV_all (by rw [List.size_toArray, length_hdC (followH_ok hrk)])))) rfl ?_
            refine wl_val (v_fa TF.f29_1 rfl) rfl ?_
            refine wl_store (v := hdV (followH x.head L[i].1)) 1 st rfl TF.t26 rfl rfl (by simp [hdV, Value.cells, length_hdC (followH_ok hrk)]) (fun u hu => one_hdC u (by simpa [hdV, Value.cells] using hu)) (by rw [List.size_toArray, length_vwC hpx hhx]; decide) ?_
            intro w st
            rw [show (hdV (followH x.head L[i].1)).cells.toList = hdC (followH x.head L[i].1) by simp [hdV, Value.cells], show 0 + 32 = 32 from rfl, set_vwH hpx hhx (followH_ok hrk)] at st
            refine wl_nil ?_
            refine then_go ?_
            refine wc_draw TF.mixed ?_
            have st := st.pure (touch_drew _)
            refine fl_val 0 rfl (fun _ => (v_fa TF.f29_2 rfl)) rfl (by kernel_rfl) ?_
            refine fl_ld 1 rfl (v_load rfl (by first | exact st.reads (v := rv) (b := b7) (c := (vwC x.pin (followH x.head L[i].1) rv).toArray) 1 rfl TF.t27 (vw_r hpx (followH_ok hrk)) | exact st.reads (v := rv) (b := b7) (c := (vwC x.pin (followH x.head L[i].1) rv).toArray) 2 rfl TF.t27 (vw_r hpx (followH_ok hrk)) | exact st.reads (b := b7) (c := (vwC x.pin (followH x.head L[i].1) (.slice ra x.roots.length rc)).toArray) 1 rfl TF.t27 (vw_r hpx (followH_ok hrk)) | exact st.reads (b := b7) (c := (vwC x.pin (followH x.head L[i].1) (.slice ra x.roots.length rc)).toArray) 2 rfl TF.t27 (vw_r hpx (followH_ok hrk)))) (by kernel_rfl) ?_
            refine fl_val 2 rfl (fun _ => (v_move' (by conv => (lhs; whnf)))) rfl (by kernel_rfl) ?_
            refine fl_val 3 rfl (fun _ => (v_move' (by conv => (lhs; whnf)))) rfl (by kernel_rfl) ?_
            refine fl_val 4 rfl (fun _ => (v_ias i Try.underlying30 TF.t71 rfl rfl (by first | rfl | omega) (by first | omega | (dsimp only at *; omega)))) rfl (by kernel_rfl) ?_
            refine fl_val 5 rfl (fun _ => (v_fa TF.f71_0 rfl)) rfl (by kernel_rfl) ?_
            refine fl_ld 6 rfl (v_load rfl (hl.1.rd rfl hi (by decide) TF.t55 (v' := rtV L[i].1.root) (sg_rt hrk) st.im)) (by kernel_rfl) ?_
            refine fl_eff1 7 [5, 4, 3, 2, 0] [1] (by kernel_rfl) ⟨obl_ld rfl rfl rfl (v_load rfl (hl.1.rd rfl hi (by decide) TF.t55 (v' := rtV L[i].1.root) (sg_rt hrk) st.im)), obl_ld rfl rfl rfl (v_load rfl (by first | exact st.reads (v := rv) (b := b7) (c := (vwC x.pin (followH x.head L[i].1) rv).toArray) 1 rfl TF.t27 (vw_r hpx (followH_ok hrk)) | exact st.reads (v := rv) (b := b7) (c := (vwC x.pin (followH x.head L[i].1) rv).toArray) 2 rfl TF.t27 (vw_r hpx (followH_ok hrk)) | exact st.reads (b := b7) (c := (vwC x.pin (followH x.head L[i].1) (.slice ra x.roots.length rc)).toArray) 1 rfl TF.t27 (vw_r hpx (followH_ok hrk)) | exact st.reads (b := b7) (c := (vwC x.pin (followH x.head L[i].1) (.slice ra x.roots.length rc)).toArray) 2 rfl TF.t27 (vw_r hpx (followH_ok hrk)))), trivial⟩ rfl ?_
            refine wl_lsOne (rtC L[i].1.root) Try.underlying27 TF.t55 TF.z55 (by decide) (by decide) (length_rtC hrk) rfl st rfl ?_
            intro b58 w st
            refine wl_nil ⟨rfl, ?_⟩
            refine fl_eff1 8 [5, 4, 3, 2, 0] [] (by kernel_rfl) ⟨obl_ld rfl rfl rfl (v_load rfl (by first | exact st.reads (v := rv) (b := b7) (c := (vwC x.pin (followH x.head L[i].1) rv).toArray) 1 rfl TF.t27 (vw_r hpx (followH_ok hrk)) | exact st.reads (v := rv) (b := b7) (c := (vwC x.pin (followH x.head L[i].1) rv).toArray) 2 rfl TF.t27 (vw_r hpx (followH_ok hrk)) | exact st.reads (b := b7) (c := (vwC x.pin (followH x.head L[i].1) (.slice ra x.roots.length rc)).toArray) 1 rfl TF.t27 (vw_r hpx (followH_ok hrk)) | exact st.reads (b := b7) (c := (vwC x.pin (followH x.head L[i].1) (.slice ra x.roots.length rc)).toArray) 2 rfl TF.t27 (vw_r hpx (followH_ok hrk)))), trivial⟩ rfl ?_
            refine wl_lsApp 2 (c := rtC) (e := L[i].1.root) st rfl Try.underlying27 TF.t55 TF.z55 rfl (length_rtC hrk) one_rtC rfl rfl (by omega) (by omega) rfl ?_
            intro rv2 w st hrv2
            refine wl_nil ⟨rfl, ?_⟩
            refine fl_val 9 rfl (fun _ => (v_fa TF.f29_2 rfl)) rfl (by kernel_rfl) ?_
            refine fl_eff1 10 [] [] (by kernel_rfl) trivial rfl ?_
            refine wl_store1 1 st rfl TF.t27 rfl (by conv => (lhs; whnf)) hrv2 (by rw [List.size_toArray, length_vwC hpx (followH_ok hrk)]; decide) ?_
            intro w st
            rw [show 0 + 97 = 97 from rfl, set_vwR hpx (followH_ok hrk)] at st
            refine wl_nil ⟨rfl, ?_⟩
            refine fl_nil (by kernel_rfl) trivial ?_
            refine block_go (then_go ?_)
            refine wc_region ?_
            refine wl_val (v_move' (by conv => (lhs; whnf))) rfl ?_
            refine wl_val (v_add' rfl rfl rfl (by first | omega | (dsimp only at *; omega)) (by first | omega | (dsimp only at *; omega))) rfl ?_
            refine wl_val (v_assign' (by conv => (lhs; whnf))) rfl ?_
            refine wl_nil ?_
            refine then_go ?_
            rw [hse, if_pos (Decidable.not_not.1 h67)] at hRx
            have hsv : lrnV x L[i].1 = ⟨x.pin, followH x.head L[i].1, x.roots ++ [L[i].1.root]⟩ := by rw [lrnV, if_neg hcond]
            refine ⟨q - 1, by simp; omega, i + 1, lrnV x L[i].1, rv2, _, by omega, rfl, rfl, rfl, rfl, hRx, by rw [ko3]; exact hpx, ko1, ko2, by omega, hl, ?_⟩
            rw [hsv]
            exact st.drop 0
        · refine stepE 10 (pure' := [4, 3, 2, 0]) (lds' := [5, 1]) rfl (by kernel_rfl) (by kernel_rfl) ?_
          refine wl_alloc TF.z26 st rfl ?_
          intro b10 w st
          refine wl_nil ⟨rfl, ?_⟩
          refine fl_eff1 6 [4, 3, 2, 0] [] (by kernel_rfl) ⟨obl_ld rfl rfl rfl (v_load rfl (hl.1.rd0 rfl hi (by decide) TF.t71 (v' := .agg (sgC L[i].1.root L[i].2).toArray) (getV_all (by rw [List.size_toArray]; exact h98)) st.im)), obl_ld rfl rfl rfl (v_load rfl (by first | exact st.reads (v := hdV x.head) 0 rfl TF.t26 (vw_h hpx hhx) | exact st.reads (v := hdV x.head) 1 rfl TF.t26 (vw_h hpx hhx))), trivial⟩ rfl ?_
          refine wl_call rfl (c_rfollow (s := L[i].1) st.im hhx ⟨_, rfl, hsk, hrk⟩) rfl ?_
          rintro v46 w ⟨t46, m3, hg3, hi3, rfl⟩
          have st := st.grown hg3 t46 hi3
          have hl := hl.mono hg3.le
          refine wl_nil ⟨rfl, ?_⟩
          refine fl_val 7 rfl (fun _ => (v_move' (by conv => (lhs; whnf)))) rfl (by kernel_rfl) ?_
          refine fl_val 8 rfl (fun _ => (v_extract rfl rfl)) rfl (by kernel_rfl) ?_
          refine fl_val 9 rfl (fun _ => (v_extract rfl rfl)) rfl (by kernel_rfl) ?_
          refine fl_eff1 11 [9] [] (by kernel_rfl) trivial rfl ?_
          refine wl_storeW (cs := (hdC (followH x.head L[i].1)).toArray) 0 st rfl TF.t26 rfl rfl (by rw [List.size_toArray, length_hdC (followH_ok hrk)]) rfl (fun u hu => one_hdC u (by simpa using hu)) ?_
          intro w st
          refine wl_nil ⟨rfl, ?_⟩
          refine fl_eff1 12 [] [] (by kernel_rfl) trivial rfl ?_
          refine wl_val (v_assign' (by conv => (lhs; whnf))) rfl ?_
          refine wl_nil ⟨rfl, ?_⟩
          refine fl_nil (by kernel_rfl) trivial ?_
          refine then_go ?_
          refine wc_seq ?_
          refine wc_seq ?_
          refine wc_region ?_
          refine wl_val (v_move' (by conv => (lhs; whnf))) rfl ?_
          refine wl_val (v_neq rfl rfl) rfl ?_
          refine wl_nil ?_
          refine then_go ?_
          refine wc_if rfl (fun h67 => ?_) (fun h67 => ?_)
          · refine wc_seq ?_
            refine wc_region ?_
            refine wl_val (v_build (c' := (vwC z32 hd0 (.slice none 0 0)).toArray) [] TF.z29 TF.p29 rfl rfl) rfl ?_
            refine wl_val (v_move' (by conv => (lhs; whnf))) rfl ?_
            refine wl_storeW (cs := (vwC z32 hd0 (.slice none 0 0)).toArray) 3 st rfl TF.t29 rfl rfl rfl rfl (fun u hu => one_vwC rfl u (by simpa using hu)) ?_
            intro w st
            refine wl_val (v_assign' (by conv => (lhs; whnf))) rfl ?_
            refine wl_nil ?_
            refine then_go ?_
            refine wc_ret (then_ret (block_ret (then_ret (then_ret (block_ret (then_ret ?_))))))
            rw [hse, if_neg h67] at hRx
            exact ret2c rfl (st.reads 3 rfl TF.t29 (getV_all rfl)) rfl ((st.keepOnly (l := []) (List.nil_sublist _)).out ⟨_, by rw [hRx]; rfl, by rw [hRx]; exact vw0_M⟩)
          · refine wc_skip ?_
            refine then_go ?_
            refine wc_seq ?_
            refine wc_region ?_
            refine wl_val (v_load rfl (st.reads (v := hdV (followH x.head L[i].1)) 0 rfl TF.t26 (getV_all (by rw [List.size_toArray, length_hdC (followH_ok hrk)])))) rfl ?_
            refine wl_val (v_fa TF.f29_1 rfl) rfl ?_
            refine wl_store (v := hdV (followH x.head L[i].1)) 1 st rfl TF.t26 rfl rfl (by simp [hdV, Value.cells, length_hdC (followH_ok hrk)]) (fun u hu => one_hdC u (by simpa [hdV, Value.cells] using hu)) (by rw [List.size_toArray, length_vwC hpx hhx]; decide) ?_
            intro w st
            rw [show (hdV (followH x.head L[i].1)).cells.toList = hdC (followH x.head L[i].1) by simp [hdV, Value.cells], show 0 + 32 = 32 from rfl, set_vwH hpx hhx (followH_ok hrk)] at st
            refine wl_nil ?_
            refine then_go ?_
            refine wc_draw TF.mixed ?_
            have st := st.pure (touch_drew _)
            refine fl_val 0 rfl (fun _ => (v_fa TF.f29_2 rfl)) rfl (by kernel_rfl) ?_
            refine fl_ld 1 rfl (v_load rfl (by first | exact st.reads (v := rv) (b := b7) (c := (vwC x.pin (followH x.head L[i].1) rv).toArray) 1 rfl TF.t27 (vw_r hpx (followH_ok hrk)) | exact st.reads (v := rv) (b := b7) (c := (vwC x.pin (followH x.head L[i].1) rv).toArray) 2 rfl TF.t27 (vw_r hpx (followH_ok hrk)) | exact st.reads (b := b7) (c := (vwC x.pin (followH x.head L[i].1) (.slice ra x.roots.length rc)).toArray) 1 rfl TF.t27 (vw_r hpx (followH_ok hrk)) | exact st.reads (b := b7) (c := (vwC x.pin (followH x.head L[i].1) (.slice ra x.roots.length rc)).toArray) 2 rfl TF.t27 (vw_r hpx (followH_ok hrk)))) (by kernel_rfl) ?_
            refine fl_val 2 rfl (fun _ => (v_move' (by conv => (lhs; whnf)))) rfl (by kernel_rfl) ?_
            refine fl_val 3 rfl (fun _ => (v_move' (by conv => (lhs; whnf)))) rfl (by kernel_rfl) ?_
            refine fl_val 4 rfl (fun _ => (v_ias i Try.underlying30 TF.t71 rfl rfl (by first | rfl | omega) (by first | omega | (dsimp only at *; omega)))) rfl (by kernel_rfl) ?_
            refine fl_val 5 rfl (fun _ => (v_fa TF.f71_0 rfl)) rfl (by kernel_rfl) ?_
            refine fl_ld 6 rfl (v_load rfl (hl.1.rd rfl hi (by decide) TF.t55 (v' := rtV L[i].1.root) (sg_rt hrk) st.im)) (by kernel_rfl) ?_
            refine fl_eff1 7 [5, 4, 3, 2, 0] [1] (by kernel_rfl) ⟨obl_ld rfl rfl rfl (v_load rfl (hl.1.rd rfl hi (by decide) TF.t55 (v' := rtV L[i].1.root) (sg_rt hrk) st.im)), obl_ld rfl rfl rfl (v_load rfl (by first | exact st.reads (v := rv) (b := b7) (c := (vwC x.pin (followH x.head L[i].1) rv).toArray) 1 rfl TF.t27 (vw_r hpx (followH_ok hrk)) | exact st.reads (v := rv) (b := b7) (c := (vwC x.pin (followH x.head L[i].1) rv).toArray) 2 rfl TF.t27 (vw_r hpx (followH_ok hrk)) | exact st.reads (b := b7) (c := (vwC x.pin (followH x.head L[i].1) (.slice ra x.roots.length rc)).toArray) 1 rfl TF.t27 (vw_r hpx (followH_ok hrk)) | exact st.reads (b := b7) (c := (vwC x.pin (followH x.head L[i].1) (.slice ra x.roots.length rc)).toArray) 2 rfl TF.t27 (vw_r hpx (followH_ok hrk)))), trivial⟩ rfl ?_
            refine wl_lsOne (rtC L[i].1.root) Try.underlying27 TF.t55 TF.z55 (by decide) (by decide) (length_rtC hrk) rfl st rfl ?_
            intro b58 w st
            refine wl_nil ⟨rfl, ?_⟩
            refine fl_eff1 8 [5, 4, 3, 2, 0] [] (by kernel_rfl) ⟨obl_ld rfl rfl rfl (v_load rfl (by first | exact st.reads (v := rv) (b := b7) (c := (vwC x.pin (followH x.head L[i].1) rv).toArray) 1 rfl TF.t27 (vw_r hpx (followH_ok hrk)) | exact st.reads (v := rv) (b := b7) (c := (vwC x.pin (followH x.head L[i].1) rv).toArray) 2 rfl TF.t27 (vw_r hpx (followH_ok hrk)) | exact st.reads (b := b7) (c := (vwC x.pin (followH x.head L[i].1) (.slice ra x.roots.length rc)).toArray) 1 rfl TF.t27 (vw_r hpx (followH_ok hrk)) | exact st.reads (b := b7) (c := (vwC x.pin (followH x.head L[i].1) (.slice ra x.roots.length rc)).toArray) 2 rfl TF.t27 (vw_r hpx (followH_ok hrk)))), trivial⟩ rfl ?_
            refine wl_lsApp 2 (c := rtC) (e := L[i].1.root) st rfl Try.underlying27 TF.t55 TF.z55 rfl (length_rtC hrk) one_rtC rfl rfl (by omega) (by omega) rfl ?_
            intro rv2 w st hrv2
            refine wl_nil ⟨rfl, ?_⟩
            refine fl_val 9 rfl (fun _ => (v_fa TF.f29_2 rfl)) rfl (by kernel_rfl) ?_
            refine fl_eff1 10 [] [] (by kernel_rfl) trivial rfl ?_
            refine wl_store1 1 st rfl TF.t27 rfl (by conv => (lhs; whnf)) hrv2 (by rw [List.size_toArray, length_vwC hpx (followH_ok hrk)]; decide) ?_
            intro w st
            rw [show 0 + 97 = 97 from rfl, set_vwR hpx (followH_ok hrk)] at st
            refine wl_nil ⟨rfl, ?_⟩
            refine fl_nil (by kernel_rfl) trivial ?_
            refine block_go (then_go ?_)
            refine wc_region ?_
            refine wl_val (v_move' (by conv => (lhs; whnf))) rfl ?_
            refine wl_val (v_add' rfl rfl rfl (by first | omega | (dsimp only at *; omega)) (by first | omega | (dsimp only at *; omega))) rfl ?_
            refine wl_val (v_assign' (by conv => (lhs; whnf))) rfl ?_
            refine wl_nil ?_
            refine then_go ?_
            rw [hse, if_pos (Decidable.not_not.1 h67)] at hRx
            have hsv : lrnV x L[i].1 = ⟨x.pin, followH x.head L[i].1, x.roots ++ [L[i].1.root]⟩ := by rw [lrnV, if_neg hcond]
            refine ⟨q - 1, by simp; omega, i + 1, lrnV x L[i].1, rv2, _, by omega, rfl, rfl, rfl, rfl, hRx, by rw [ko3]; exact hpx, ko1, ko2, by omega, hl, ?_⟩
            rw [hsv]
            exact st.drop 0
    · refine wc_exit (then_exit (then_exit (block_hit ?_)))
      refine then_go ?_
      refine wc_seq ?_
      refine wc_region ?_
      refine wl_val (v_load rfl (st.reads (v := .agg (vwC x.pin x.head rv).toArray) 0 rfl TF.t29 (getV_all (by rw [List.size_toArray, length_vwC hpx hhx])))) rfl ?_
      refine wl_storeW (cs := (vwC x.pin x.head rv).toArray) 2 st rfl TF.t29 rfl rfl (by rw [List.size_toArray, length_vwC hpx hhx]) (by rw [List.size_toArray, hz98]) (fun u hu => one_vwC (row_one (st.at (i := 1) rfl)) u (by simpa using hu)) ?_
      intro w st
      refine wl_val (v_assign' (by conv => (lhs; whnf))) rfl ?_
      refine wl_nil ?_
      refine then_go ?_
      refine wc_ret ?_
      have hiL : i = L.length := by omega
      subst hiL
      rw [List.drop_length, List.map_nil, learnG] at hRx
      have hrd := st.reads (v := .agg (vwC x.pin x.head rv).toArray) 2 rfl TF.t29 (getV_all (by rw [List.size_toArray, length_vwC hpx hhx]))
      obtain ⟨m4, hg4, hq4, st⟩ := st.keepLs (i := 1) rfl (fun t ht => length_rtC (hokx t ht))
      exact ret2c rfl hrd rfl ((st.keepOnly (l := []) (List.nil_sublist _)).out ⟨_, by rw [hRx]; rfl, by rw [hRx]; exact ⟨rv, rfl, hq4, hpx, hhx, hokx⟩⟩)
  refine fl_val 0 rfl (fun _ => (v_fa TF.f29_0 rfl)) rfl (by kernel_rfl) ?_
  refine fl_ld 1 rfl (v_load rfl (by first | exact st.reads (v := arr x0.pin) 1 rfl TF.t23 (vw_p hp) | exact st.reads (v := arr x0.pin) 2 rfl TF.t23 (vw_p hp) | exact st.reads (v := arr x0.pin) 3 rfl TF.t23 (vw_p hp))) (by kernel_rfl) ?_
  refine fl_val 2 rfl (fun _ => (v_fa TF.f29_1 rfl)) rfl (by kernel_rfl) ?_
  refine fl_ld 3 rfl (v_load rfl (by first | exact st.reads (v := hdV x0.head) 1 rfl TF.t26 (vw_h hp hh0) | exact st.reads (v := hdV x0.head) 2 rfl TF.t26 (vw_h hp hh0) | exact st.reads (v := hdV x0.head) 3 rfl TF.t26 (vw_h hp hh0))) (by kernel_rfl) ?_
  refine fl_val 4 rfl (fun _ => (v_move' (by conv => (lhs; whnf)))) rfl (by kernel_rfl) ?_
  refine fl_val 5 rfl (fun _ => (v_fa TF.f29_2 rfl)) rfl (by kernel_rfl) ?_
  refine fl_ld 6 rfl (v_load rfl (by first | exact st.reads (v := rv0) 1 rfl TF.t27 (vw_r hp hh0) | exact st.reads (v := rv0) 2 rfl TF.t27 (vw_r hp hh0) | exact st.reads (v := rv0) 3 rfl TF.t27 (vw_r hp hh0))) (by kernel_rfl) ?_
  refine fl_effs [7, 9] (by kernel_rfl) ⟨obl_ld rfl rfl rfl (v_load rfl (by first | exact st.reads (v := rv0) 1 rfl TF.t27 (vw_r hp hh0) | exact st.reads (v := rv0) 2 rfl TF.t27 (vw_r hp hh0) | exact st.reads (v := rv0) 3 rfl TF.t27 (vw_r hp hh0))), obl_ld rfl rfl rfl (v_load rfl (by first | exact st.reads (v := hdV x0.head) 1 rfl TF.t26 (vw_h hp hh0) | exact st.reads (v := hdV x0.head) 2 rfl TF.t26 (vw_h hp hh0) | exact st.reads (v := hdV x0.head) 3 rfl TF.t26 (vw_h hp hh0))), obl_ld rfl rfl rfl (v_load rfl (by first | exact st.reads (v := arr x0.pin) 1 rfl TF.t23 (vw_p hp) | exact st.reads (v := arr x0.pin) 2 rfl TF.t23 (vw_p hp) | exact st.reads (v := arr x0.pin) 3 rfl TF.t23 (vw_p hp))), trivial⟩ (all2 ?_ ?_)
  · refine stepE 7 (pure' := [5, 2, 0]) (lds' := [3, 1]) rfl (by kernel_rfl) (by kernel_rfl) ?_
    have st := nilRow st 55 97
    refine wl_append (news := x0.roots.flatMap rtC) 0 st rfl Try.underlying27 Try.underlying27 (.inr ⟨_, rfl⟩) TF.t55 TF.z55 rfl rfl rfl (hrt0.row.src st.im (fun u hu => by obtain ⟨t, _, h⟩ := List.mem_flatMap.1 hu; exact one_rtC u h)) (by omega) (by omega) rfl ?_
    intro rv w _ st
    rw [Nat.zero_add, List.nil_append] at st
    have hone : rv.oneCell' = true := row_one (st.at (i := 0) rfl)
    refine wl_nil ⟨rfl, ?_⟩
    refine fl_val 8 rfl (fun _ => (v_build (c' := (vwC x0.pin x0.head rv).toArray) [(0, arr x0.pin), (1, hdV x0.head), (2, rv)] TF.z29 TF.p29 rfl (fill_vw hp hh0 hone))) rfl (by kernel_rfl) ?_
    refine fl_eff1 9 [8, 5, 2, 0] [3, 1] (by kernel_rfl) ⟨obl_ld rfl rfl rfl (v_load rfl (by first | exact st.reads (v := hdV x0.head) 1 rfl TF.t26 (vw_h hp hh0) | exact st.reads (v := hdV x0.head) 2 rfl TF.t26 (vw_h hp hh0) | exact st.reads (v := hdV x0.head) 3 rfl TF.t26 (vw_h hp hh0))), obl_ld rfl rfl rfl (v_load rfl (by first | exact st.reads (v := arr x0.pin) 1 rfl TF.t23 (vw_p hp) | exact st.reads (v := arr x0.pin) 2 rfl TF.t23 (vw_p hp) | exact st.reads (v := arr x0.pin) 3 rfl TF.t23 (vw_p hp))), trivial⟩ rfl ?_
    refine wl_alloc TF.z29 st rfl ?_
    intro b7 w st
    refine wl_nil ⟨rfl, ?_⟩
    refine FL.permB [9, 8, 7, 6, 5, 4, 3, 2, 1, 0] [8, 5, 2, 0] [3, 1] (by kernel_rfl) ?_
    first
      | exact fin _ _ _ _ rfl rfl rfl rfl rfl rfl rfl rfl rfl rfl hone st
      | exact fin _ _ _ _ rfl rfl rfl rfl rfl rfl rfl rfl rfl rfl hone (st.perm (List.Perm.swap _ _ _))
  · refine stepE 9 (pure' := [5, 4, 2, 0]) (lds' := [6, 3, 1]) rfl (by kernel_rfl) (by kernel_rfl) ?_
    refine wl_alloc TF.z29 st rfl ?_
    intro b7 w st
    refine wl_nil ⟨rfl, ?_⟩
    refine fl_eff1 7 [5, 2, 0] [3, 1] (by kernel_rfl) ⟨obl_ld rfl rfl rfl (v_load rfl (by first | exact st.reads (v := rv0) 1 rfl TF.t27 (vw_r hp hh0) | exact st.reads (v := rv0) 2 rfl TF.t27 (vw_r hp hh0) | exact st.reads (v := rv0) 3 rfl TF.t27 (vw_r hp hh0))), obl_ld rfl rfl rfl (v_load rfl (by first | exact st.reads (v := hdV x0.head) 1 rfl TF.t26 (vw_h hp hh0) | exact st.reads (v := hdV x0.head) 2 rfl TF.t26 (vw_h hp hh0) | exact st.reads (v := hdV x0.head) 3 rfl TF.t26 (vw_h hp hh0))), obl_ld rfl rfl rfl (v_load rfl (by first | exact st.reads (v := arr x0.pin) 1 rfl TF.t23 (vw_p hp) | exact st.reads (v := arr x0.pin) 2 rfl TF.t23 (vw_p hp) | exact st.reads (v := arr x0.pin) 3 rfl TF.t23 (vw_p hp))), trivial⟩ rfl ?_
    have st := nilRow st 55 97
    refine wl_append (news := x0.roots.flatMap rtC) 0 st rfl Try.underlying27 Try.underlying27 (.inr ⟨_, rfl⟩) TF.t55 TF.z55 rfl rfl rfl (hrt0.row.src st.im (fun u hu => by obtain ⟨t, _, h⟩ := List.mem_flatMap.1 hu; exact one_rtC u h)) (by omega) (by omega) rfl ?_
    intro rv w _ st
    rw [Nat.zero_add, List.nil_append] at st
    have hone : rv.oneCell' = true := row_one (st.at (i := 0) rfl)
    refine wl_nil ⟨rfl, ?_⟩
    refine fl_val 8 rfl (fun _ => (v_build (c' := (vwC x0.pin x0.head rv).toArray) [(0, arr x0.pin), (1, hdV x0.head), (2, rv)] TF.z29 TF.p29 rfl (fill_vw hp hh0 hone))) rfl (by kernel_rfl) ?_
    refine FL.permB [9, 8, 7, 6, 5, 4, 3, 2, 1, 0] [8, 5, 2, 0] [3, 1] (by kernel_rfl) ?_
    first
      | exact fin _ _ _ _ rfl rfl rfl rfl rfl rfl rfl rfl rfl rfl hone st
      | exact fin _ _ _ _ rfl rfl rfl rfl rfl rfl rfl rfl rfl rfl hone (st.perm (List.Perm.swap _ _ _))
end
end Go.Proofs.Ytjjpakjgppmmdaa

/-
  Names, bindings, ways: which may be.
-/
namespace Go.Proofs.Ytjjpakjgppmmdaa
open Go Go.RowKit K SH PT

def nameCh (c : UInt8) : Prop := (97 ≤ c.toNat ∧ c.toNat ≤ 122) ∨ (48 ≤ c.toNat ∧ c.toNat ≤ 57) ∨ c.toNat = 46 ∨ c.toNat = 45
instance {c : UInt8} : Decidable (nameCh c) := by unfold nameCh; infer_instance
def okName (n : By) : Prop := (∀ c ∈ n, nameCh c) ∧ n ≠ [] ∧ n.length ≤ 32
instance {n : By} : Decidable (okName n) := by unfold okName; infer_instance

theorem strB_size (n : By) : (strB n).size = n.length := rfl

section
variable {P : Program} {r : Fr} {w : World} {ty : TypeId}
theorem v_nes {T U : TypeId} {x y : Operand} {a b : By} (hx : ev r x = .string (strB a)) (hy : ev r y = .string (strB b)) : Val P (.binOp .neq T x y U) ty r w (.bool (decide (¬ a = b))) w := by
  intro _ _ _ _
  simp only [execOp, eqGuard, hx, hy, binOp, Op.stringOp, strB_toList, Sem.run_bind, Sem.run_pure, Result.andThen_ok]
  by_cases h : a = b
  · subst h; simp
  · simp [h]
theorem v_idxs {T : TypeId} {x ix : Operand} {n : By} {i : Nat} (hT : P.underlying T = some .string) (hx : ev r x = .string (strB n)) (hi : ev r ix = .int .i64 i) (h : i < n.length) : Val P (.index T x ix) ty r w (u8 n[i]) w := by
  refine v_index_str hT hx hi (by omega) ?_
  rw [Int.toNat_natCast, getElem?_pos (strB n) i h]
  rfl
theorem v_geB {T U : TypeId} {x y : Operand} {k : IntKind} {a b : Int} {z : Bool} (hx : ev r x = .int k a) (hy : ev r y = .int k b) (h : z = decide (b ≤ a)) : Val P (.binOp .geq T x y U) ty r w (.bool z) w := by rw [h]; exact v_geq hx hy
theorem v_leB {T U : TypeId} {x y : Operand} {k : IntKind} {a b : Int} {z : Bool} (hx : ev r x = .int k a) (hy : ev r y = .int k b) (h : z = decide (a ≤ b)) : Val P (.binOp .leq T x y U) ty r w (.bool z) w := by rw [h]; exact v_leq hx hy
theorem v_eqB {T U : TypeId} {x y : Operand} {k : IntKind} {a b : Int} {z : Bool} (hx : ev r x = .int k a) (hy : ev r y = .int k b) (h : z = decide (a = b)) : Val P (.binOp .eql T x y U) ty r w (.bool z) w := by rw [h]; exact v_eql hx hy
theorem v_neB {T U : TypeId} {x y : Operand} {k : IntKind} {a b : Int} {z : Bool} (hx : ev r x = .int k a) (hy : ev r y = .int k b) (h : z = decide (¬ a = b)) : Val P (.binOp .neq T x y U) ty r w (.bool z) w := by rw [h]; exact v_neq hx hy
end

section
variable {m : Mem} {wI : World}

theorem c_recname {n : By} (him : Im m wI) (hn : n.length ≤ 9223372036854775807) : Ret Try.prog 73 #[.string (strB n)] wI fun v' w' => Tch wI w' [] [] ∧ v' = .bool (decide (okName n)) := by
  have st := St.start him
  have hsz := strB_size n
  refine ret_of Try.call73 Try.func73 rfl Try.ntmps73 Try.results73 rfl ?_
  refine wc_seq ?_
  refine wc_region ?_
  refine wl_val (v_assign' (by conv => (lhs; whnf))) rfl ?_
  refine wl_nil ?_
  refine then_go ?_
  refine wc_seq ?_
  refine wc_seq ?_
  refine wc_region ?_
  refine wl_val (v_assign' (by conv => (lhs; whnf))) rfl ?_
  refine wl_nil ?_
  refine then_go ?_
  refine wc_block ?_
  refine wc_loop (S := Nat) (fun q r w' => ∃ (i : Nat), q + i = n.length ∧ r 0 = .string (strB n) ∧ r 3 = .int .i64 i ∧ (∀ c ∈ n.take i, nameCh c) ∧ St m m [] wI w' []) id n.length ⟨0, by omega, rfl, rfl, by simp, st⟩ ?_
  rintro q r w2 ⟨i, hqi, g0, g3, hall, st⟩
  refine wc_o 0 g0 (wc_o 3 g3 ?_)
  refine wc_seq ?_
  refine wc_seq ?_
  refine wc_region ?_
  refine wl_val (v_move' (by conv => (lhs; whnf))) rfl ?_
  refine wl_val (v_move' (by conv => (lhs; whnf))) rfl ?_
  refine wl_val (v_len_str Try.underlying9 rfl) rfl ?_
  refine wl_val (v_lss rfl rfl) rfl ?_
  refine wl_nil ?_
  refine then_go ?_
  refine wc_if rfl (fun h8 => ?_) (fun h8 => ?_)
  · refine wc_skip ?_
    refine then_go ?_
    refine wc_seq ?_
    refine wc_block ?_
    refine wc_seq ?_
    have hi : i < n.length := by omega
    refine wc_region ?_
    refine wl_val (v_move' (by conv => (lhs; whnf))) rfl ?_
    refine wl_val (v_move' (by conv => (lhs; whnf))) rfl ?_
    refine wl_val (v_idxs Try.underlying9 rfl rfl hi) rfl ?_
    refine wl_val (v_assign' (by conv => (lhs; whnf))) rfl ?_
    refine wl_nil ?_
    refine then_go ?_
    refine wc_seq ?_
    by_cases hA : 97 ≤ n[i].toNat ∧ n[i].toNat ≤ 122
    · refine wc_region ?_
      refine wl_val (v_move' (by conv => (lhs; whnf))) rfl ?_
      refine wl_val (by first | exact v_geB (z := true) rfl rfl (decide_eq_true (by omega)).symm | exact v_geB (z := false) rfl rfl (decide_eq_false (by omega)).symm) rfl ?_
      refine wl_val (v_move' (by conv => (lhs; whnf))) rfl ?_
      refine wl_on rfl rfl ?_
      refine wl_val (v_move' (by conv => (lhs; whnf))) rfl ?_
      refine wl_on rfl rfl ?_
      refine wl_val (by first | exact v_leB (z := true) rfl rfl (decide_eq_true (by omega)).symm | exact v_leB (z := false) rfl rfl (decide_eq_false (by omega)).symm) rfl ?_
      refine wl_val (v_pick rfl) rfl ?_
      refine wl_val (v_move' (by conv => (lhs; whnf))) rfl ?_
      refine wl_off rfl rfl rfl rfl ?_
      refine wl_off rfl rfl rfl rfl ?_
      refine wl_off rfl rfl rfl rfl ?_
      refine offU rfl rfl rfl ?_
      refine offU rfl rfl rfl ?_
      refine wl_off rfl rfl rfl rfl ?_
      refine wl_val (v_pick rfl) rfl ?_
      refine wl_val (v_move' (by conv => (lhs; whnf))) rfl ?_
      refine wl_off rfl rfl rfl rfl ?_
      refine wl_off rfl rfl rfl rfl ?_
      refine wl_val (v_pick rfl) rfl ?_
      refine wl_val (v_move' (by conv => (lhs; whnf))) rfl ?_
      refine wl_off rfl rfl rfl rfl ?_
      refine wl_off rfl rfl rfl rfl ?_
      refine wl_val (v_pick rfl) rfl ?_
      refine wl_val (v_not rfl) rfl ?_
      refine wl_nil ?_
      refine then_go ?_
      refine wc_false rfl ?_
      refine wc_skip ?_
      refine block_go (then_go ?_)
      refine wc_region ?_
      refine wl_val (v_move' (by conv => (lhs; whnf))) rfl ?_
      refine wl_val (v_add' rfl rfl rfl (by first | omega | (dsimp only at *; omega)) (by first | omega | (dsimp only at *; omega))) rfl ?_
      refine wl_val (v_assign' (by conv => (lhs; whnf))) rfl ?_
      refine wl_nil ?_
      refine then_go ?_
      have hch : nameCh n[i] := by unfold nameCh; omega
      refine ⟨q - 1, by simp; omega, i + 1, by omega, rfl, rfl, fun c hc => ?_, st⟩
      rw [List.take_succ_eq_append_getElem hi] at hc
      rcases List.mem_append.1 hc with h | h
      · exact hall c h
      · simp at h; rw [h]; exact hch
    · by_cases hB : 48 ≤ n[i].toNat ∧ n[i].toNat ≤ 57
      · refine wc_region ?_
        refine wl_val (v_move' (by conv => (lhs; whnf))) rfl ?_
        refine wl_val (by first | exact v_geB (z := true) rfl rfl (decide_eq_true (by omega)).symm | exact v_geB (z := false) rfl rfl (decide_eq_false (by omega)).symm) rfl ?_
        refine wl_val (v_move' (by conv => (lhs; whnf))) rfl ?_
        refine wl_off rfl rfl rfl rfl ?_
        refine wl_off rfl rfl rfl rfl ?_
        refine wl_val (v_pick rfl) rfl ?_
        refine wl_val (v_move' (by conv => (lhs; whnf))) rfl ?_
        refine wl_on rfl rfl ?_
        refine wl_val (v_move' (by conv => (lhs; whnf))) rfl ?_
        refine wl_on rfl rfl ?_
        refine wl_val (by first | exact v_geB (z := true) rfl rfl (decide_eq_true (by omega)).symm | exact v_geB (z := false) rfl rfl (decide_eq_false (by omega)).symm) rfl ?_
        refine wl_on rfl rfl ?_
        refine wl_val (v_move' (by conv => (lhs; whnf))) rfl ?_
        refine wl_on rfl rfl ?_
        refine wl_val (v_move' (by conv => (lhs; whnf))) rfl ?_
        refine wl_on rfl rfl ?_
        refine wl_val (by first | exact v_leB (z := true) rfl rfl (decide_eq_true (by omega)).symm | exact v_leB (z := false) rfl rfl (decide_eq_false (by omega)).symm) rfl ?_
        refine wl_on rfl rfl ?_
        refine wl_val (v_pick rfl) rfl ?_
        refine wl_val (v_pick rfl) rfl ?_
        refine wl_val (v_move' (by conv => (lhs; whnf))) rfl ?_
        refine wl_off rfl rfl rfl rfl ?_
        refine wl_off rfl rfl rfl rfl ?_
        refine wl_val (v_pick rfl) rfl ?_
        refine wl_val (v_move' (by conv => (lhs; whnf))) rfl ?_
        refine wl_off rfl rfl rfl rfl ?_
        refine wl_off rfl rfl rfl rfl ?_
        refine wl_val (v_pick rfl) rfl ?_
        refine wl_val (v_not rfl) rfl ?_
        refine wl_nil ?_
        refine then_go ?_
        refine wc_false rfl ?_
        refine wc_skip ?_
        refine block_go (then_go ?_)
        refine wc_region ?_
        refine wl_val (v_move' (by conv => (lhs; whnf))) rfl ?_
        refine wl_val (v_add' rfl rfl rfl (by first | omega | (dsimp only at *; omega)) (by first | omega | (dsimp only at *; omega))) rfl ?_
        refine wl_val (v_assign' (by conv => (lhs; whnf))) rfl ?_
        refine wl_nil ?_
        refine then_go ?_
        have hch : nameCh n[i] := by unfold nameCh; omega
        refine ⟨q - 1, by simp; omega, i + 1, by omega, rfl, rfl, fun c hc => ?_, st⟩
        rw [List.take_succ_eq_append_getElem hi] at hc
        rcases List.mem_append.1 hc with h | h
        · exact hall c h
        · simp at h; rw [h]; exact hch
      · by_cases hC : n[i].toNat = 46
        · refine wc_region ?_
          refine wl_val (v_move' (by conv => (lhs; whnf))) rfl ?_
          refine wl_val (by first | exact v_geB (z := true) rfl rfl (decide_eq_true (by omega)).symm | exact v_geB (z := false) rfl rfl (decide_eq_false (by omega)).symm) rfl ?_
          refine wl_val (v_move' (by conv => (lhs; whnf))) rfl ?_
          refine wl_off rfl rfl rfl rfl ?_
          refine wl_off rfl rfl rfl rfl ?_
          refine wl_val (v_pick rfl) rfl ?_
          refine wl_val (v_move' (by conv => (lhs; whnf))) rfl ?_
          refine wl_on rfl rfl ?_
          refine wl_val (v_move' (by conv => (lhs; whnf))) rfl ?_
          refine wl_on rfl rfl ?_
          refine wl_val (by first | exact v_geB (z := true) rfl rfl (decide_eq_true (by omega)).symm | exact v_geB (z := false) rfl rfl (decide_eq_false (by omega)).symm) rfl ?_
          refine wl_on rfl rfl ?_
          refine wl_val (v_move' (by conv => (lhs; whnf))) rfl ?_
          refine wl_off rfl rfl rfl rfl ?_
          refine wl_off rfl rfl rfl rfl ?_
          refine wl_on rfl rfl ?_
          refine wl_val (v_pick rfl) rfl ?_
          refine wl_val (v_pick rfl) rfl ?_
          refine wl_val (v_move' (by conv => (lhs; whnf))) rfl ?_
          refine wl_on rfl rfl ?_
          refine wl_val (v_move' (by conv => (lhs; whnf))) rfl ?_
          refine wl_on rfl rfl ?_
          refine wl_val (by first | exact v_eqB (z := true) rfl rfl (decide_eq_true (by omega)).symm | exact v_eqB (z := false) rfl rfl (decide_eq_false (by omega)).symm) rfl ?_
          refine wl_val (v_pick rfl) rfl ?_
          refine wl_val (v_move' (by conv => (lhs; whnf))) rfl ?_
          refine wl_off rfl rfl rfl rfl ?_
          refine wl_off rfl rfl rfl rfl ?_
          refine wl_val (v_pick rfl) rfl ?_
          refine wl_val (v_not rfl) rfl ?_
          refine wl_nil ?_
          refine then_go ?_
          refine wc_false rfl ?_
          refine wc_skip ?_
          refine block_go (then_go ?_)
          refine wc_region ?_
          refine wl_val (v_move' (by conv => (lhs; whnf))) rfl ?_
          refine wl_val (v_add' rfl rfl rfl (by first | omega | (dsimp only at *; omega)) (by first | omega | (dsimp only at *; omega))) rfl ?_
          refine wl_val (v_assign' (by conv => (lhs; whnf))) rfl ?_
          refine wl_nil ?_
          refine then_go ?_
          have hch : nameCh n[i] := by unfold nameCh; omega
          refine ⟨q - 1, by simp; omega, i + 1, by omega, rfl, rfl, fun c hc => ?_, st⟩
          rw [List.take_succ_eq_append_getElem hi] at hc
          rcases List.mem_append.1 hc with h | h
          · exact hall c h
          · simp at h; rw [h]; exact hch
        · by_cases hE : n[i].toNat = 45
          · refine wc_region ?_
            refine wl_val (v_move' (by conv => (lhs; whnf))) rfl ?_
            refine wl_val (by first | exact v_geB (z := true) rfl rfl (decide_eq_true (by omega)).symm | exact v_geB (z := false) rfl rfl (decide_eq_false (by omega)).symm) rfl ?_
            refine wl_val (v_move' (by conv => (lhs; whnf))) rfl ?_
            refine wl_off rfl rfl rfl rfl ?_
            refine wl_off rfl rfl rfl rfl ?_
            refine wl_val (v_pick rfl) rfl ?_
            refine wl_val (v_move' (by conv => (lhs; whnf))) rfl ?_
            refine wl_on rfl rfl ?_
            refine wl_val (v_move' (by conv => (lhs; whnf))) rfl ?_
            refine wl_on rfl rfl ?_
            refine wl_val (by first | exact v_geB (z := true) rfl rfl (decide_eq_true (by omega)).symm | exact v_geB (z := false) rfl rfl (decide_eq_false (by omega)).symm) rfl ?_
            refine wl_on rfl rfl ?_
            refine wl_val (v_move' (by conv => (lhs; whnf))) rfl ?_
            refine wl_off rfl rfl rfl rfl ?_
            refine wl_off rfl rfl rfl rfl ?_
            refine wl_on rfl rfl ?_
            refine wl_val (v_pick rfl) rfl ?_
            refine wl_val (v_pick rfl) rfl ?_
            refine wl_val (v_move' (by conv => (lhs; whnf))) rfl ?_
            refine wl_on rfl rfl ?_
            refine wl_val (v_move' (by conv => (lhs; whnf))) rfl ?_
            refine wl_on rfl rfl ?_
            refine wl_val (by first | exact v_eqB (z := true) rfl rfl (decide_eq_true (by omega)).symm | exact v_eqB (z := false) rfl rfl (decide_eq_false (by omega)).symm) rfl ?_
            refine wl_val (v_pick rfl) rfl ?_
            refine wl_val (v_move' (by conv => (lhs; whnf))) rfl ?_
            refine wl_on rfl rfl ?_
            refine wl_val (v_move' (by conv => (lhs; whnf))) rfl ?_
            refine wl_on rfl rfl ?_
            refine wl_val (by first | exact v_eqB (z := true) rfl rfl (decide_eq_true (by omega)).symm | exact v_eqB (z := false) rfl rfl (decide_eq_false (by omega)).symm) rfl ?_
            refine wl_val (v_pick rfl) rfl ?_
            refine wl_val (v_not rfl) rfl ?_
            refine wl_nil ?_
            refine then_go ?_
            refine wc_false rfl ?_
            refine wc_skip ?_
            refine block_go (then_go ?_)
            refine wc_region ?_
            refine wl_val (v_move' (by conv => (lhs; whnf))) rfl ?_
            refine wl_val (v_add' rfl rfl rfl (by first | omega | (dsimp only at *; omega)) (by first | omega | (dsimp only at *; omega))) rfl ?_
            refine wl_val (v_assign' (by conv => (lhs; whnf))) rfl ?_
            refine wl_nil ?_
            refine then_go ?_
            have hch : nameCh n[i] := by unfold nameCh; omega
            refine ⟨q - 1, by simp; omega, i + 1, by omega, rfl, rfl, fun c hc => ?_, st⟩
            rw [List.take_succ_eq_append_getElem hi] at hc
            rcases List.mem_append.1 hc with h | h
            · exact hall c h
            · simp at h; rw [h]; exact hch
          · by_cases hF : 122 < n[i].toNat
            · refine wc_region ?_
              refine wl_val (v_move' (by conv => (lhs; whnf))) rfl ?_
              refine wl_val (by first | exact v_geB (z := true) rfl rfl (decide_eq_true (by omega)).symm | exact v_geB (z := false) rfl rfl (decide_eq_false (by omega)).symm) rfl ?_
              refine wl_val (v_move' (by conv => (lhs; whnf))) rfl ?_
              refine wl_on rfl rfl ?_
              refine wl_val (v_move' (by conv => (lhs; whnf))) rfl ?_
              refine wl_on rfl rfl ?_
              refine wl_val (by first | exact v_leB (z := true) rfl rfl (decide_eq_true (by omega)).symm | exact v_leB (z := false) rfl rfl (decide_eq_false (by omega)).symm) rfl ?_
              refine wl_val (v_pick rfl) rfl ?_
              refine wl_val (v_move' (by conv => (lhs; whnf))) rfl ?_
              refine wl_on rfl rfl ?_
              refine wl_val (v_move' (by conv => (lhs; whnf))) rfl ?_
              refine wl_on rfl rfl ?_
              refine wl_val (by first | exact v_geB (z := true) rfl rfl (decide_eq_true (by omega)).symm | exact v_geB (z := false) rfl rfl (decide_eq_false (by omega)).symm) rfl ?_
              refine wl_on rfl rfl ?_
              refine wl_val (v_move' (by conv => (lhs; whnf))) rfl ?_
              refine wl_on rfl rfl ?_
              refine wl_val (v_move' (by conv => (lhs; whnf))) rfl ?_
              refine wl_on rfl rfl ?_
              refine wl_val (by first | exact v_leB (z := true) rfl rfl (decide_eq_true (by omega)).symm | exact v_leB (z := false) rfl rfl (decide_eq_false (by omega)).symm) rfl ?_
              refine wl_on rfl rfl ?_
              refine wl_val (v_pick rfl) rfl ?_
              refine wl_val (v_pick rfl) rfl ?_
              refine wl_val (v_move' (by conv => (lhs; whnf))) rfl ?_
              refine wl_on rfl rfl ?_
              refine wl_val (v_move' (by conv => (lhs; whnf))) rfl ?_
              refine wl_on rfl rfl ?_
              refine wl_val (by first | exact v_eqB (z := true) rfl rfl (decide_eq_true (by omega)).symm | exact v_eqB (z := false) rfl rfl (decide_eq_false (by omega)).symm) rfl ?_
              refine wl_val (v_pick rfl) rfl ?_
              refine wl_val (v_move' (by conv => (lhs; whnf))) rfl ?_
              refine wl_on rfl rfl ?_
              refine wl_val (v_move' (by conv => (lhs; whnf))) rfl ?_
              refine wl_on rfl rfl ?_
              refine wl_val (by first | exact v_eqB (z := true) rfl rfl (decide_eq_true (by omega)).symm | exact v_eqB (z := false) rfl rfl (decide_eq_false (by omega)).symm) rfl ?_
              refine wl_val (v_pick rfl) rfl ?_
              refine wl_val (v_not rfl) rfl ?_
              refine wl_nil ?_
              refine then_go ?_
              refine wc_true rfl ?_
              refine wc_seq ?_
              refine wc_region ?_
              refine wl_val (v_assign' (by conv => (lhs; whnf))) rfl ?_
              refine wl_nil ?_
              refine then_go ?_
              refine wc_ret (block_ret (then_ret (then_ret (block_ret (then_ret ?_)))))
              exact ret1 rfl ⟨st.touch, by rw [show decide (okName n) = false from decide_eq_false (fun hc => by rcases hc.1 _ (List.getElem_mem hi) with h | h | h | h <;> omega)]; rfl⟩
            · by_cases hG : 58 ≤ n[i].toNat
              · refine wc_region ?_
                refine wl_val (v_move' (by conv => (lhs; whnf))) rfl ?_
                refine wl_val (by first | exact v_geB (z := true) rfl rfl (decide_eq_true (by omega)).symm | exact v_geB (z := false) rfl rfl (decide_eq_false (by omega)).symm) rfl ?_
                refine wl_val (v_move' (by conv => (lhs; whnf))) rfl ?_
                refine wl_off rfl rfl rfl rfl ?_
                refine wl_off rfl rfl rfl rfl ?_
                refine wl_val (v_pick rfl) rfl ?_
                refine wl_val (v_move' (by conv => (lhs; whnf))) rfl ?_
                refine wl_on rfl rfl ?_
                refine wl_val (v_move' (by conv => (lhs; whnf))) rfl ?_
                refine wl_on rfl rfl ?_
                refine wl_val (by first | exact v_geB (z := true) rfl rfl (decide_eq_true (by omega)).symm | exact v_geB (z := false) rfl rfl (decide_eq_false (by omega)).symm) rfl ?_
                refine wl_on rfl rfl ?_
                refine wl_val (v_move' (by conv => (lhs; whnf))) rfl ?_
                refine wl_on rfl rfl ?_
                refine wl_val (v_move' (by conv => (lhs; whnf))) rfl ?_
                refine wl_on rfl rfl ?_
                refine wl_val (by first | exact v_leB (z := true) rfl rfl (decide_eq_true (by omega)).symm | exact v_leB (z := false) rfl rfl (decide_eq_false (by omega)).symm) rfl ?_
                refine wl_on rfl rfl ?_
                refine wl_val (v_pick rfl) rfl ?_
                refine wl_val (v_pick rfl) rfl ?_
                refine wl_val (v_move' (by conv => (lhs; whnf))) rfl ?_
                refine wl_on rfl rfl ?_
                refine wl_val (v_move' (by conv => (lhs; whnf))) rfl ?_
                refine wl_on rfl rfl ?_
                refine wl_val (by first | exact v_eqB (z := true) rfl rfl (decide_eq_true (by omega)).symm | exact v_eqB (z := false) rfl rfl (decide_eq_false (by omega)).symm) rfl ?_
                refine wl_val (v_pick rfl) rfl ?_
                refine wl_val (v_move' (by conv => (lhs; whnf))) rfl ?_
                refine wl_on rfl rfl ?_
                refine wl_val (v_move' (by conv => (lhs; whnf))) rfl ?_
                refine wl_on rfl rfl ?_
                refine wl_val (by first | exact v_eqB (z := true) rfl rfl (decide_eq_true (by omega)).symm | exact v_eqB (z := false) rfl rfl (decide_eq_false (by omega)).symm) rfl ?_
                refine wl_val (v_pick rfl) rfl ?_
                refine wl_val (v_not rfl) rfl ?_
                refine wl_nil ?_
                refine then_go ?_
                refine wc_true rfl ?_
                refine wc_seq ?_
                refine wc_region ?_
                refine wl_val (v_assign' (by conv => (lhs; whnf))) rfl ?_
                refine wl_nil ?_
                refine then_go ?_
                refine wc_ret (block_ret (then_ret (then_ret (block_ret (then_ret ?_)))))
                exact ret1 rfl ⟨st.touch, by rw [show decide (okName n) = false from decide_eq_false (fun hc => by rcases hc.1 _ (List.getElem_mem hi) with h | h | h | h <;> omega)]; rfl⟩
              · refine wc_region ?_
                refine wl_val (v_move' (by conv => (lhs; whnf))) rfl ?_
                refine wl_val (by first | exact v_geB (z := true) rfl rfl (decide_eq_true (by omega)).symm | exact v_geB (z := false) rfl rfl (decide_eq_false (by omega)).symm) rfl ?_
                refine wl_val (v_move' (by conv => (lhs; whnf))) rfl ?_
                refine wl_off rfl rfl rfl rfl ?_
                refine wl_off rfl rfl rfl rfl ?_
                refine wl_val (v_pick rfl) rfl ?_
                refine wl_val (v_move' (by conv => (lhs; whnf))) rfl ?_
                refine wl_on rfl rfl ?_
                refine wl_val (v_move' (by conv => (lhs; whnf))) rfl ?_
                refine wl_on rfl rfl ?_
                refine wl_val (by first | exact v_geB (z := true) rfl rfl (decide_eq_true (by omega)).symm | exact v_geB (z := false) rfl rfl (decide_eq_false (by omega)).symm) rfl ?_
                refine wl_on rfl rfl ?_
                refine wl_val (v_move' (by conv => (lhs; whnf))) rfl ?_
                refine wl_off rfl rfl rfl rfl ?_
                refine wl_off rfl rfl rfl rfl ?_
                refine wl_on rfl rfl ?_
                refine wl_val (v_pick rfl) rfl ?_
                refine wl_val (v_pick rfl) rfl ?_
                refine wl_val (v_move' (by conv => (lhs; whnf))) rfl ?_
                refine wl_on rfl rfl ?_
                refine wl_val (v_move' (by conv => (lhs; whnf))) rfl ?_
                refine wl_on rfl rfl ?_
                refine wl_val (by first | exact v_eqB (z := true) rfl rfl (decide_eq_true (by omega)).symm | exact v_eqB (z := false) rfl rfl (decide_eq_false (by omega)).symm) rfl ?_
                refine wl_val (v_pick rfl) rfl ?_
                refine wl_val (v_move' (by conv => (lhs; whnf))) rfl ?_
                refine wl_on rfl rfl ?_
                refine wl_val (v_move' (by conv => (lhs; whnf))) rfl ?_
                refine wl_on rfl rfl ?_
                refine wl_val (by first | exact v_eqB (z := true) rfl rfl (decide_eq_true (by omega)).symm | exact v_eqB (z := false) rfl rfl (decide_eq_false (by omega)).symm) rfl ?_
                refine wl_val (v_pick rfl) rfl ?_
                refine wl_val (v_not rfl) rfl ?_
                refine wl_nil ?_
                refine then_go ?_
                refine wc_true rfl ?_
                refine wc_seq ?_
                refine wc_region ?_
                refine wl_val (v_assign' (by conv => (lhs; whnf))) rfl ?_
                refine wl_nil ?_
                refine then_go ?_
                refine wc_ret (block_ret (then_ret (then_ret (block_ret (then_ret ?_)))))
                exact ret1 rfl ⟨st.touch, by rw [show decide (okName n) = false from decide_eq_false (fun hc => by rcases hc.1 _ (List.getElem_mem hi) with h | h | h | h <;> omega)]; rfl⟩
  · refine wc_exit (then_exit (then_exit (block_hit ?_)))
    refine then_go ?_
    refine wc_seq ?_
    refine wc_region ?_
    refine wl_val (v_move' (by conv => (lhs; whnf))) rfl ?_
    refine wl_val (v_nes (b := []) rfl rfl) rfl ?_
    refine wl_val (v_move' (by conv => (lhs; whnf))) rfl ?_
    by_cases hg2 : ¬ n = []
    · rw [show decide (¬ n = []) = true from decide_eq_true hg2]
      refine wl_on rfl rfl ?_
      refine wl_val (v_move' (by conv => (lhs; whnf))) rfl ?_
      refine wl_on rfl rfl ?_
      refine wl_val (v_len_str Try.underlying9 rfl) rfl ?_
      refine wl_on rfl rfl ?_
      refine wl_val (v_leq rfl rfl) rfl ?_
      refine wl_val (v_pick rfl) rfl ?_
      refine wl_val (v_assign' (by conv => (lhs; whnf))) rfl ?_
      refine wl_nil ?_
      refine then_go ?_
      refine wc_ret ?_
      have hiN : i = n.length := by omega
      subst hiN
      rw [List.take_length] at hall
      refine ret1 rfl ⟨st.touch, ?_⟩
      first
        | (have e : decide (okName n) = decide ((n.length : Int) ≤ 32) := decide_eq_decide.2 ⟨fun h => by have := h.2.2; omega, fun h => ⟨hall, hg2, by omega⟩⟩
           rw [e]; rfl)
        | (rw [show decide (okName n) = false from decide_eq_false (fun hc => hg2 hc.2.1)]; rfl)
    · rw [show decide (¬ n = []) = false from decide_eq_false hg2]
      refine wl_off rfl rfl rfl rfl ?_
      refine wl_off rfl rfl rfl rfl ?_
      refine wl_off rfl rfl rfl rfl ?_
      refine wl_val (v_pick rfl) rfl ?_
      refine wl_val (v_assign' (by conv => (lhs; whnf))) rfl ?_
      refine wl_nil ?_
      refine then_go ?_
      refine wc_ret ?_
      have hiN : i = n.length := by omega
      subst hiN
      rw [List.take_length] at hall
      refine ret1 rfl ⟨st.touch, ?_⟩
      first
        | (have e : decide (okName n) = decide ((n.length : Int) ≤ 32) := decide_eq_decide.2 ⟨fun h => by have := h.2.2; omega, fun h => ⟨hall, hg2, by omega⟩⟩
           rw [e]; rfl)
        | (rw [show decide (okName n) = false from decide_eq_false (fun hc => hg2 hc.2.1)]; rfl)

theorem c_r5name {n : By} (him : Im m wI) (hn : n.length ≤ 9223372036854775807) : Ret Try.prog 52 #[.string (strB n)] wI fun v' w' => Tch wI w' [] [] ∧ v' = .bool (decide (okName n)) := by
  have st := St.start him
  have hsz := strB_size n
  refine ret_of Try.call52 Try.func52 rfl Try.ntmps52 Try.results52 rfl ?_
  refine wc_seq ?_
  refine wc_region ?_
  refine wl_val (v_assign' (by conv => (lhs; whnf))) rfl ?_
  refine wl_nil ?_
  refine then_go ?_
  refine wc_seq ?_
  refine wc_seq ?_
  refine wc_region ?_
  refine wl_val (v_move' (by conv => (lhs; whnf))) rfl ?_
  refine wl_val (v_len_str Try.underlying9 rfl) rfl ?_
  refine wl_val (v_lss rfl rfl) rfl ?_
  refine wl_val (v_move' (by conv => (lhs; whnf))) rfl ?_
  by_cases hg3 : ((strB n).size : Int) < 1
  · rw [show decide (((strB n).size : Int) < 1) = true from decide_eq_true hg3]
    refine wl_off rfl rfl rfl rfl ?_
    refine wl_off rfl rfl rfl rfl ?_
    refine wl_off rfl rfl rfl rfl ?_
    refine wl_val (v_pick rfl) rfl ?_
    refine wl_nil ?_
    refine then_go ?_
    refine wc_true rfl ?_
    refine wc_seq ?_
    refine wc_region ?_
    refine wl_val (v_assign' (by conv => (lhs; whnf))) rfl ?_
    refine wl_nil ?_
    refine then_go ?_
    refine wc_ret (then_ret ?_)
    exact ret1 rfl ⟨st.touch, by rw [show decide (okName n) = false from decide_eq_false (fun hc => hc.2.1 (List.eq_nil_of_length_eq_zero (by omega)))]; rfl⟩
  · rw [show decide (((strB n).size : Int) < 1) = false from decide_eq_false hg3]
    refine wl_on rfl rfl ?_
    refine wl_val (v_move' (by conv => (lhs; whnf))) rfl ?_
    refine wl_on rfl rfl ?_
    refine wl_val (v_len_str Try.underlying9 rfl) rfl ?_
    refine wl_on rfl rfl ?_
    refine wl_val (v_gtr rfl rfl) rfl ?_
    refine wl_val (v_pick rfl) rfl ?_
    refine wl_nil ?_
    refine then_go ?_
    refine wc_if rfl (fun h14 => ?_) (fun h14 => ?_)
    · refine wc_seq ?_
      refine wc_region ?_
      refine wl_val (v_assign' (by conv => (lhs; whnf))) rfl ?_
      refine wl_nil ?_
      refine then_go ?_
      refine wc_ret (then_ret ?_)
      exact ret1 rfl ⟨st.touch, by rw [show decide (okName n) = false from decide_eq_false (fun hc => by have := hc.2.2; omega)]; rfl⟩
    · refine wc_skip ?_
      refine then_go ?_
      refine wc_seq ?_
      refine wc_seq ?_
      refine wc_region ?_
      refine wl_val (v_assign' (by conv => (lhs; whnf))) rfl ?_
      refine wl_nil ?_
      refine then_go ?_
      refine wc_block ?_
      refine wc_loop (S := Nat) (fun q r w' => ∃ (i : Nat), q + i = n.length ∧ r 0 = .string (strB n) ∧ r 3 = .int .i64 i ∧ (∀ c ∈ n.take i, nameCh c) ∧ St m m [] wI w' []) id n.length ⟨0, by omega, rfl, rfl, by simp, st⟩ ?_
      rintro q r w2 ⟨i, hqi, g0, g3, hall, st⟩
      refine wc_o 0 g0 (wc_o 3 g3 ?_)
      refine wc_seq ?_
      refine wc_seq ?_
      refine wc_region ?_
      refine wl_val (v_move' (by conv => (lhs; whnf))) rfl ?_
      refine wl_val (v_move' (by conv => (lhs; whnf))) rfl ?_
      refine wl_val (v_len_str Try.underlying9 rfl) rfl ?_
      refine wl_val (v_lss rfl rfl) rfl ?_
      refine wl_nil ?_
      refine then_go ?_
      refine wc_if rfl (fun h18 => ?_) (fun h18 => ?_)
      · refine wc_skip ?_
        refine then_go ?_
        refine wc_seq ?_
        refine wc_block ?_
        refine wc_seq ?_
        have hi : i < n.length := by omega
        refine wc_region ?_
        refine wl_val (v_move' (by conv => (lhs; whnf))) rfl ?_
        refine wl_val (v_move' (by conv => (lhs; whnf))) rfl ?_
        refine wl_val (v_idxs Try.underlying9 rfl rfl hi) rfl ?_
        refine wl_val (v_assign' (by conv => (lhs; whnf))) rfl ?_
        refine wl_nil ?_
        refine then_go ?_
        refine wc_seq ?_
        by_cases hA : 97 ≤ n[i].toNat ∧ n[i].toNat ≤ 122
        · refine wc_region ?_
          refine wl_val (v_move' (by conv => (lhs; whnf))) rfl ?_
          refine wl_val (by first | exact v_geB (z := true) rfl rfl (decide_eq_true (by omega)).symm | exact v_geB (z := false) rfl rfl (decide_eq_false (by omega)).symm) rfl ?_
          refine wl_val (v_move' (by conv => (lhs; whnf))) rfl ?_
          refine wl_on rfl rfl ?_
          refine wl_val (v_move' (by conv => (lhs; whnf))) rfl ?_
          refine wl_on rfl rfl ?_
          refine wl_val (by first | exact v_leB (z := true) rfl rfl (decide_eq_true (by omega)).symm | exact v_leB (z := false) rfl rfl (decide_eq_false (by omega)).symm) rfl ?_
          refine wl_val (v_pick rfl) rfl ?_
          refine wl_val (v_assign' (by conv => (lhs; whnf))) rfl ?_
          refine wl_nil ?_
          refine then_go ?_
          refine wc_seq ?_
          refine wc_region ?_
          refine wl_val (v_move' (by conv => (lhs; whnf))) rfl ?_
          refine wl_val (by first | exact v_geB (z := true) rfl rfl (decide_eq_true (by omega)).symm | exact v_geB (z := false) rfl rfl (decide_eq_false (by omega)).symm) rfl ?_
          refine wl_val (v_move' (by conv => (lhs; whnf))) rfl ?_
          refine wl_on rfl rfl ?_
          refine wl_val (v_move' (by conv => (lhs; whnf))) rfl ?_
          refine wl_on rfl rfl ?_
          refine wl_val (by first | exact v_leB (z := true) rfl rfl (decide_eq_true (by omega)).symm | exact v_leB (z := false) rfl rfl (decide_eq_false (by omega)).symm) rfl ?_
          refine wl_val (v_pick rfl) rfl ?_
          refine wl_val (v_assign' (by conv => (lhs; whnf))) rfl ?_
          refine wl_nil ?_
          refine then_go ?_
          refine wc_seq ?_
          refine wc_region ?_
          refine wl_val (v_move' (by conv => (lhs; whnf))) rfl ?_
          refine wl_val (v_not rfl) rfl ?_
          refine wl_val (v_move' (by conv => (lhs; whnf))) rfl ?_
          refine wl_off rfl rfl rfl rfl ?_
          refine wl_off rfl rfl rfl rfl ?_
          refine wl_val (v_pick rfl) rfl ?_
          refine wl_val (v_move' (by conv => (lhs; whnf))) rfl ?_
          refine wl_off rfl rfl rfl rfl ?_
          refine wl_off rfl rfl rfl rfl ?_
          refine wl_val (v_pick rfl) rfl ?_
          refine wl_val (v_move' (by conv => (lhs; whnf))) rfl ?_
          refine wl_off rfl rfl rfl rfl ?_
          refine wl_off rfl rfl rfl rfl ?_
          refine wl_val (v_pick rfl) rfl ?_
          refine wl_nil ?_
          refine then_go ?_
          refine wc_false rfl ?_
          refine wc_skip ?_
          refine block_go (then_go ?_)
          refine wc_region ?_
          refine wl_val (v_move' (by conv => (lhs; whnf))) rfl ?_
          refine wl_val (v_add' rfl rfl rfl (by first | omega | (dsimp only at *; omega)) (by first | omega | (dsimp only at *; omega))) rfl ?_
          refine wl_val (v_assign' (by conv => (lhs; whnf))) rfl ?_
          refine wl_nil ?_
          refine then_go ?_
          have hch : nameCh n[i] := by unfold nameCh; omega
          refine ⟨q - 1, by simp; omega, i + 1, by omega, rfl, rfl, fun c hc => ?_, st⟩
          rw [List.take_succ_eq_append_getElem hi] at hc
          rcases List.mem_append.1 hc with h | h
          · exact hall c h
          · simp at h; rw [h]; exact hch
        · by_cases hB : 48 ≤ n[i].toNat ∧ n[i].toNat ≤ 57
          · refine wc_region ?_
            refine wl_val (v_move' (by conv => (lhs; whnf))) rfl ?_
            refine wl_val (by first | exact v_geB (z := true) rfl rfl (decide_eq_true (by omega)).symm | exact v_geB (z := false) rfl rfl (decide_eq_false (by omega)).symm) rfl ?_
            refine wl_val (v_move' (by conv => (lhs; whnf))) rfl ?_
            refine wl_off rfl rfl rfl rfl ?_
            refine wl_off rfl rfl rfl rfl ?_
            refine wl_val (v_pick rfl) rfl ?_
            refine wl_val (v_assign' (by conv => (lhs; whnf))) rfl ?_
            refine wl_nil ?_
            refine then_go ?_
            refine wc_seq ?_
            refine wc_region ?_
            refine wl_val (v_move' (by conv => (lhs; whnf))) rfl ?_
            refine wl_val (by first | exact v_geB (z := true) rfl rfl (decide_eq_true (by omega)).symm | exact v_geB (z := false) rfl rfl (decide_eq_false (by omega)).symm) rfl ?_
            refine wl_val (v_move' (by conv => (lhs; whnf))) rfl ?_
            refine wl_on rfl rfl ?_
            refine wl_val (v_move' (by conv => (lhs; whnf))) rfl ?_
            refine wl_on rfl rfl ?_
            refine wl_val (by first | exact v_leB (z := true) rfl rfl (decide_eq_true (by omega)).symm | exact v_leB (z := false) rfl rfl (decide_eq_false (by omega)).symm) rfl ?_
            refine wl_val (v_pick rfl) rfl ?_
            refine wl_val (v_assign' (by conv => (lhs; whnf))) rfl ?_
            refine wl_nil ?_
            refine then_go ?_
            refine wc_seq ?_
            refine wc_region ?_
            refine wl_val (v_move' (by conv => (lhs; whnf))) rfl ?_
            refine wl_val (v_not rfl) rfl ?_
            refine wl_val (v_move' (by conv => (lhs; whnf))) rfl ?_
            refine wl_on rfl rfl ?_
            refine wl_val (v_move' (by conv => (lhs; whnf))) rfl ?_
            refine wl_on rfl rfl ?_
            refine wl_val (v_not rfl) rfl ?_
            refine wl_val (v_pick rfl) rfl ?_
            refine wl_val (v_move' (by conv => (lhs; whnf))) rfl ?_
            refine wl_off rfl rfl rfl rfl ?_
            refine wl_off rfl rfl rfl rfl ?_
            refine wl_val (v_pick rfl) rfl ?_
            refine wl_val (v_move' (by conv => (lhs; whnf))) rfl ?_
            refine wl_off rfl rfl rfl rfl ?_
            refine wl_off rfl rfl rfl rfl ?_
            refine wl_val (v_pick rfl) rfl ?_
            refine wl_nil ?_
            refine then_go ?_
            refine wc_false rfl ?_
            refine wc_skip ?_
            refine block_go (then_go ?_)
            refine wc_region ?_
            refine wl_val (v_move' (by conv => (lhs; whnf))) rfl ?_
            refine wl_val (v_add' rfl rfl rfl (by first | omega | (dsimp only at *; omega)) (by first | omega | (dsimp only at *; omega))) rfl ?_
            refine wl_val (v_assign' (by conv => (lhs; whnf))) rfl ?_
            refine wl_nil ?_
            refine then_go ?_
            have hch : nameCh n[i] := by unfold nameCh; omega
            refine ⟨q - 1, by simp; omega, i + 1, by omega, rfl, rfl, fun c hc => ?_, st⟩
            rw [List.take_succ_eq_append_getElem hi] at hc
            rcases List.mem_append.1 hc with h | h
            · exact hall c h
            · simp at h; rw [h]; exact hch
          · by_cases hC : n[i].toNat = 46
            · refine wc_region ?_
              refine wl_val (v_move' (by conv => (lhs; whnf))) rfl ?_
              refine wl_val (by first | exact v_geB (z := true) rfl rfl (decide_eq_true (by omega)).symm | exact v_geB (z := false) rfl rfl (decide_eq_false (by omega)).symm) rfl ?_
              refine wl_val (v_move' (by conv => (lhs; whnf))) rfl ?_
              refine wl_off rfl rfl rfl rfl ?_
              refine wl_off rfl rfl rfl rfl ?_
              refine wl_val (v_pick rfl) rfl ?_
              refine wl_val (v_assign' (by conv => (lhs; whnf))) rfl ?_
              refine wl_nil ?_
              refine then_go ?_
              refine wc_seq ?_
              refine wc_region ?_
              refine wl_val (v_move' (by conv => (lhs; whnf))) rfl ?_
              refine wl_val (by first | exact v_geB (z := true) rfl rfl (decide_eq_true (by omega)).symm | exact v_geB (z := false) rfl rfl (decide_eq_false (by omega)).symm) rfl ?_
              refine wl_val (v_move' (by conv => (lhs; whnf))) rfl ?_
              refine wl_off rfl rfl rfl rfl ?_
              refine wl_off rfl rfl rfl rfl ?_
              refine wl_val (v_pick rfl) rfl ?_
              refine wl_val (v_assign' (by conv => (lhs; whnf))) rfl ?_
              refine wl_nil ?_
              refine then_go ?_
              refine wc_seq ?_
              refine wc_region ?_
              refine wl_val (v_move' (by conv => (lhs; whnf))) rfl ?_
              refine wl_val (v_not rfl) rfl ?_
              refine wl_val (v_move' (by conv => (lhs; whnf))) rfl ?_
              refine wl_on rfl rfl ?_
              refine wl_val (v_move' (by conv => (lhs; whnf))) rfl ?_
              refine wl_on rfl rfl ?_
              refine wl_val (v_not rfl) rfl ?_
              refine wl_val (v_pick rfl) rfl ?_
              refine wl_val (v_move' (by conv => (lhs; whnf))) rfl ?_
              refine wl_on rfl rfl ?_
              refine wl_val (v_move' (by conv => (lhs; whnf))) rfl ?_
              refine wl_on rfl rfl ?_
              refine wl_val (by first | exact v_neB (z := true) rfl rfl (decide_eq_true (by omega)).symm | exact v_neB (z := false) rfl rfl (decide_eq_false (by omega)).symm) rfl ?_
              refine wl_val (v_pick rfl) rfl ?_
              refine wl_val (v_move' (by conv => (lhs; whnf))) rfl ?_
              refine wl_off rfl rfl rfl rfl ?_
              refine wl_off rfl rfl rfl rfl ?_
              refine wl_val (v_pick rfl) rfl ?_
              refine wl_nil ?_
              refine then_go ?_
              refine wc_false rfl ?_
              refine wc_skip ?_
              refine block_go (then_go ?_)
              refine wc_region ?_
              refine wl_val (v_move' (by conv => (lhs; whnf))) rfl ?_
              refine wl_val (v_add' rfl rfl rfl (by first | omega | (dsimp only at *; omega)) (by first | omega | (dsimp only at *; omega))) rfl ?_
              refine wl_val (v_assign' (by conv => (lhs; whnf))) rfl ?_
              refine wl_nil ?_
              refine then_go ?_
              have hch : nameCh n[i] := by unfold nameCh; omega
              refine ⟨q - 1, by simp; omega, i + 1, by omega, rfl, rfl, fun c hc => ?_, st⟩
              rw [List.take_succ_eq_append_getElem hi] at hc
              rcases List.mem_append.1 hc with h | h
              · exact hall c h
              · simp at h; rw [h]; exact hch
            · by_cases hE : n[i].toNat = 45
              · refine wc_region ?_
                refine wl_val (v_move' (by conv => (lhs; whnf))) rfl ?_
                refine wl_val (by first | exact v_geB (z := true) rfl rfl (decide_eq_true (by omega)).symm | exact v_geB (z := false) rfl rfl (decide_eq_false (by omega)).symm) rfl ?_
                refine wl_val (v_move' (by conv => (lhs; whnf))) rfl ?_
                refine wl_off rfl rfl rfl rfl ?_
                refine wl_off rfl rfl rfl rfl ?_
                refine wl_val (v_pick rfl) rfl ?_
                refine wl_val (v_assign' (by conv => (lhs; whnf))) rfl ?_
                refine wl_nil ?_
                refine then_go ?_
                refine wc_seq ?_
                refine wc_region ?_
                refine wl_val (v_move' (by conv => (lhs; whnf))) rfl ?_
                refine wl_val (by first | exact v_geB (z := true) rfl rfl (decide_eq_true (by omega)).symm | exact v_geB (z := false) rfl rfl (decide_eq_false (by omega)).symm) rfl ?_
                refine wl_val (v_move' (by conv => (lhs; whnf))) rfl ?_
                refine wl_off rfl rfl rfl rfl ?_
                refine wl_off rfl rfl rfl rfl ?_
                refine wl_val (v_pick rfl) rfl ?_
                refine wl_val (v_assign' (by conv => (lhs; whnf))) rfl ?_
                refine wl_nil ?_
                refine then_go ?_
                refine wc_seq ?_
                refine wc_region ?_
                refine wl_val (v_move' (by conv => (lhs; whnf))) rfl ?_
                refine wl_val (v_not rfl) rfl ?_
                refine wl_val (v_move' (by conv => (lhs; whnf))) rfl ?_
                refine wl_on rfl rfl ?_
                refine wl_val (v_move' (by conv => (lhs; whnf))) rfl ?_
                refine wl_on rfl rfl ?_
                refine wl_val (v_not rfl) rfl ?_
                refine wl_val (v_pick rfl) rfl ?_
                refine wl_val (v_move' (by conv => (lhs; whnf))) rfl ?_
                refine wl_on rfl rfl ?_
                refine wl_val (v_move' (by conv => (lhs; whnf))) rfl ?_
                refine wl_on rfl rfl ?_
                refine wl_val (by first | exact v_neB (z := true) rfl rfl (decide_eq_true (by omega)).symm | exact v_neB (z := false) rfl rfl (decide_eq_false (by omega)).symm) rfl ?_
                refine wl_val (v_pick rfl) rfl ?_
                refine wl_val (v_move' (by conv => (lhs; whnf))) rfl ?_
                refine wl_on rfl rfl ?_
                refine wl_val (v_move' (by conv => (lhs; whnf))) rfl ?_
                refine wl_on rfl rfl ?_
                refine wl_val (by first | exact v_neB (z := true) rfl rfl (decide_eq_true (by omega)).symm | exact v_neB (z := false) rfl rfl (decide_eq_false (by omega)).symm) rfl ?_
                refine wl_val (v_pick rfl) rfl ?_
                refine wl_nil ?_
                refine then_go ?_
                refine wc_false rfl ?_
                refine wc_skip ?_
                refine block_go (then_go ?_)
                refine wc_region ?_
                refine wl_val (v_move' (by conv => (lhs; whnf))) rfl ?_
                refine wl_val (v_add' rfl rfl rfl (by first | omega | (dsimp only at *; omega)) (by first | omega | (dsimp only at *; omega))) rfl ?_
                refine wl_val (v_assign' (by conv => (lhs; whnf))) rfl ?_
                refine wl_nil ?_
                refine then_go ?_
                have hch : nameCh n[i] := by unfold nameCh; omega
                refine ⟨q - 1, by simp; omega, i + 1, by omega, rfl, rfl, fun c hc => ?_, st⟩
                rw [List.take_succ_eq_append_getElem hi] at hc
                rcases List.mem_append.1 hc with h | h
                · exact hall c h
                · simp at h; rw [h]; exact hch
              · by_cases hF : 122 < n[i].toNat
                · refine wc_region ?_
                  refine wl_val (v_move' (by conv => (lhs; whnf))) rfl ?_
                  refine wl_val (by first | exact v_geB (z := true) rfl rfl (decide_eq_true (by omega)).symm | exact v_geB (z := false) rfl rfl (decide_eq_false (by omega)).symm) rfl ?_
                  refine wl_val (v_move' (by conv => (lhs; whnf))) rfl ?_
                  refine wl_on rfl rfl ?_
                  refine wl_val (v_move' (by conv => (lhs; whnf))) rfl ?_
                  refine wl_on rfl rfl ?_
                  refine wl_val (by first | exact v_leB (z := true) rfl rfl (decide_eq_true (by omega)).symm | exact v_leB (z := false) rfl rfl (decide_eq_false (by omega)).symm) rfl ?_
                  refine wl_val (v_pick rfl) rfl ?_
                  refine wl_val (v_assign' (by conv => (lhs; whnf))) rfl ?_
                  refine wl_nil ?_
                  refine then_go ?_
                  refine wc_seq ?_
                  refine wc_region ?_
                  refine wl_val (v_move' (by conv => (lhs; whnf))) rfl ?_
                  refine wl_val (by first | exact v_geB (z := true) rfl rfl (decide_eq_true (by omega)).symm | exact v_geB (z := false) rfl rfl (decide_eq_false (by omega)).symm) rfl ?_
                  refine wl_val (v_move' (by conv => (lhs; whnf))) rfl ?_
                  refine wl_on rfl rfl ?_
                  refine wl_val (v_move' (by conv => (lhs; whnf))) rfl ?_
                  refine wl_on rfl rfl ?_
                  refine wl_val (by first | exact v_leB (z := true) rfl rfl (decide_eq_true (by omega)).symm | exact v_leB (z := false) rfl rfl (decide_eq_false (by omega)).symm) rfl ?_
                  refine wl_val (v_pick rfl) rfl ?_
                  refine wl_val (v_assign' (by conv => (lhs; whnf))) rfl ?_
                  refine wl_nil ?_
                  refine then_go ?_
                  refine wc_seq ?_
                  refine wc_region ?_
                  refine wl_val (v_move' (by conv => (lhs; whnf))) rfl ?_
                  refine wl_val (v_not rfl) rfl ?_
                  refine wl_val (v_move' (by conv => (lhs; whnf))) rfl ?_
                  refine wl_on rfl rfl ?_
                  refine wl_val (v_move' (by conv => (lhs; whnf))) rfl ?_
                  refine wl_on rfl rfl ?_
                  refine wl_val (v_not rfl) rfl ?_
                  refine wl_val (v_pick rfl) rfl ?_
                  refine wl_val (v_move' (by conv => (lhs; whnf))) rfl ?_
                  refine wl_on rfl rfl ?_
                  refine wl_val (v_move' (by conv => (lhs; whnf))) rfl ?_
                  refine wl_on rfl rfl ?_
                  refine wl_val (by first | exact v_neB (z := true) rfl rfl (decide_eq_true (by omega)).symm | exact v_neB (z := false) rfl rfl (decide_eq_false (by omega)).symm) rfl ?_
                  refine wl_val (v_pick rfl) rfl ?_
                  refine wl_val (v_move' (by conv => (lhs; whnf))) rfl ?_
                  refine wl_on rfl rfl ?_
                  refine wl_val (v_move' (by conv => (lhs; whnf))) rfl ?_
                  refine wl_on rfl rfl ?_
                  refine wl_val (by first | exact v_neB (z := true) rfl rfl (decide_eq_true (by omega)).symm | exact v_neB (z := false) rfl rfl (decide_eq_false (by omega)).symm) rfl ?_
                  refine wl_val (v_pick rfl) rfl ?_
                  refine wl_nil ?_
                  refine then_go ?_
                  refine wc_true rfl ?_
                  refine wc_seq ?_
                  refine wc_region ?_
                  refine wl_val (v_assign' (by conv => (lhs; whnf))) rfl ?_
                  refine wl_nil ?_
                  refine then_go ?_
                  refine wc_ret (block_ret (then_ret (then_ret (block_ret (then_ret ?_)))))
                  exact ret1 rfl ⟨st.touch, by rw [show decide (okName n) = false from decide_eq_false (fun hc => by rcases hc.1 _ (List.getElem_mem hi) with h | h | h | h <;> omega)]; rfl⟩
                · by_cases hG : 58 ≤ n[i].toNat
                  · refine wc_region ?_
                    refine wl_val (v_move' (by conv => (lhs; whnf))) rfl ?_
                    refine wl_val (by first | exact v_geB (z := true) rfl rfl (decide_eq_true (by omega)).symm | exact v_geB (z := false) rfl rfl (decide_eq_false (by omega)).symm) rfl ?_
                    refine wl_val (v_move' (by conv => (lhs; whnf))) rfl ?_
                    refine wl_off rfl rfl rfl rfl ?_
                    refine wl_off rfl rfl rfl rfl ?_
                    refine wl_val (v_pick rfl) rfl ?_
                    refine wl_val (v_assign' (by conv => (lhs; whnf))) rfl ?_
                    refine wl_nil ?_
                    refine then_go ?_
                    refine wc_seq ?_
                    refine wc_region ?_
                    refine wl_val (v_move' (by conv => (lhs; whnf))) rfl ?_
                    refine wl_val (by first | exact v_geB (z := true) rfl rfl (decide_eq_true (by omega)).symm | exact v_geB (z := false) rfl rfl (decide_eq_false (by omega)).symm) rfl ?_
                    refine wl_val (v_move' (by conv => (lhs; whnf))) rfl ?_
                    refine wl_on rfl rfl ?_
                    refine wl_val (v_move' (by conv => (lhs; whnf))) rfl ?_
                    refine wl_on rfl rfl ?_
                    refine wl_val (by first | exact v_leB (z := true) rfl rfl (decide_eq_true (by omega)).symm | exact v_leB (z := false) rfl rfl (decide_eq_false (by omega)).symm) rfl ?_
                    refine wl_val (v_pick rfl) rfl ?_
                    refine wl_val (v_assign' (by conv => (lhs; whnf))) rfl ?_
                    refine wl_nil ?_
                    refine then_go ?_
                    refine wc_seq ?_
                    refine wc_region ?_
                    refine wl_val (v_move' (by conv => (lhs; whnf))) rfl ?_
                    refine wl_val (v_not rfl) rfl ?_
                    refine wl_val (v_move' (by conv => (lhs; whnf))) rfl ?_
                    refine wl_on rfl rfl ?_
                    refine wl_val (v_move' (by conv => (lhs; whnf))) rfl ?_
                    refine wl_on rfl rfl ?_
                    refine wl_val (v_not rfl) rfl ?_
                    refine wl_val (v_pick rfl) rfl ?_
                    refine wl_val (v_move' (by conv => (lhs; whnf))) rfl ?_
                    refine wl_on rfl rfl ?_
                    refine wl_val (v_move' (by conv => (lhs; whnf))) rfl ?_
                    refine wl_on rfl rfl ?_
                    refine wl_val (by first | exact v_neB (z := true) rfl rfl (decide_eq_true (by omega)).symm | exact v_neB (z := false) rfl rfl (decide_eq_false (by omega)).symm) rfl ?_
                    refine wl_val (v_pick rfl) rfl ?_
                    refine wl_val (v_move' (by conv => (lhs; whnf))) rfl ?_
                    refine wl_on rfl rfl ?_
                    refine wl_val (v_move' (by conv => (lhs; whnf))) rfl ?_
                    refine wl_on rfl rfl ?_
                    refine wl_val (by first | exact v_neB (z := true) rfl rfl (decide_eq_true (by omega)).symm | exact v_neB (z := false) rfl rfl (decide_eq_false (by omega)).symm) rfl ?_
                    refine wl_val (v_pick rfl) rfl ?_
                    refine wl_nil ?_
                    refine then_go ?_
                    refine wc_true rfl ?_
                    refine wc_seq ?_
                    refine wc_region ?_
                    refine wl_val (v_assign' (by conv => (lhs; whnf))) rfl ?_
                    refine wl_nil ?_
                    refine then_go ?_
                    refine wc_ret (block_ret (then_ret (then_ret (block_ret (then_ret ?_)))))
                    exact ret1 rfl ⟨st.touch, by rw [show decide (okName n) = false from decide_eq_false (fun hc => by rcases hc.1 _ (List.getElem_mem hi) with h | h | h | h <;> omega)]; rfl⟩
                  · refine wc_region ?_
                    refine wl_val (v_move' (by conv => (lhs; whnf))) rfl ?_
                    refine wl_val (by first | exact v_geB (z := true) rfl rfl (decide_eq_true (by omega)).symm | exact v_geB (z := false) rfl rfl (decide_eq_false (by omega)).symm) rfl ?_
                    refine wl_val (v_move' (by conv => (lhs; whnf))) rfl ?_
                    refine wl_off rfl rfl rfl rfl ?_
                    refine wl_off rfl rfl rfl rfl ?_
                    refine wl_val (v_pick rfl) rfl ?_
                    refine wl_val (v_assign' (by conv => (lhs; whnf))) rfl ?_
                    refine wl_nil ?_
                    refine then_go ?_
                    refine wc_seq ?_
                    refine wc_region ?_
                    refine wl_val (v_move' (by conv => (lhs; whnf))) rfl ?_
                    refine wl_val (by first | exact v_geB (z := true) rfl rfl (decide_eq_true (by omega)).symm | exact v_geB (z := false) rfl rfl (decide_eq_false (by omega)).symm) rfl ?_
                    refine wl_val (v_move' (by conv => (lhs; whnf))) rfl ?_
                    refine wl_off rfl rfl rfl rfl ?_
                    refine wl_off rfl rfl rfl rfl ?_
                    refine wl_val (v_pick rfl) rfl ?_
                    refine wl_val (v_assign' (by conv => (lhs; whnf))) rfl ?_
                    refine wl_nil ?_
                    refine then_go ?_
                    refine wc_seq ?_
                    refine wc_region ?_
                    refine wl_val (v_move' (by conv => (lhs; whnf))) rfl ?_
                    refine wl_val (v_not rfl) rfl ?_
                    refine wl_val (v_move' (by conv => (lhs; whnf))) rfl ?_
                    refine wl_on rfl rfl ?_
                    refine wl_val (v_move' (by conv => (lhs; whnf))) rfl ?_
                    refine wl_on rfl rfl ?_
                    refine wl_val (v_not rfl) rfl ?_
                    refine wl_val (v_pick rfl) rfl ?_
                    refine wl_val (v_move' (by conv => (lhs; whnf))) rfl ?_
                    refine wl_on rfl rfl ?_
                    refine wl_val (v_move' (by conv => (lhs; whnf))) rfl ?_
                    refine wl_on rfl rfl ?_
                    refine wl_val (by first | exact v_neB (z := true) rfl rfl (decide_eq_true (by omega)).symm | exact v_neB (z := false) rfl rfl (decide_eq_false (by omega)).symm) rfl ?_
                    refine wl_val (v_pick rfl) rfl ?_
                    refine wl_val (v_move' (by conv => (lhs; whnf))) rfl ?_
                    refine wl_on rfl rfl ?_
                    refine wl_val (v_move' (by conv => (lhs; whnf))) rfl ?_
                    refine wl_on rfl rfl ?_
                    refine wl_val (by first | exact v_neB (z := true) rfl rfl (decide_eq_true (by omega)).symm | exact v_neB (z := false) rfl rfl (decide_eq_false (by omega)).symm) rfl ?_
                    refine wl_val (v_pick rfl) rfl ?_
                    refine wl_nil ?_
                    refine then_go ?_
                    refine wc_true rfl ?_
                    refine wc_seq ?_
                    refine wc_region ?_
                    refine wl_val (v_assign' (by conv => (lhs; whnf))) rfl ?_
                    refine wl_nil ?_
                    refine then_go ?_
                    refine wc_ret (block_ret (then_ret (then_ret (block_ret (then_ret ?_)))))
                    exact ret1 rfl ⟨st.touch, by rw [show decide (okName n) = false from decide_eq_false (fun hc => by rcases hc.1 _ (List.getElem_mem hi) with h | h | h | h <;> omega)]; rfl⟩
      · refine wc_exit (then_exit (then_exit (block_hit ?_)))
        refine then_go ?_
        refine wc_seq ?_
        refine wc_region ?_
        refine wl_val (v_assign' (by conv => (lhs; whnf))) rfl ?_
        refine wl_nil ?_
        refine then_go ?_
        refine wc_ret ?_
        have hiN : i = n.length := by omega
        subst hiN
        rw [List.take_length] at hall
        have hne : n ≠ [] := by intro e; rw [e] at hg3; exact hg3 (by decide)
        exact ret1 rfl ⟨st.touch, by rw [show decide (okName n) = true from decide_eq_true ⟨hall, hne, by omega⟩]; rfl⟩
end
end Go.Proofs.Ytjjpakjgppmmdaa

/-
  Bindings and ways that may be; what is hashed of a way's end.
-/
namespace Go.Proofs.Ytjjpakjgppmmdaa
open Go Go.RowKit K SH PT

structure Bd where
  name : By
  key : By
  serial : UInt64
  deriving DecidableEq

def bdC (b : Bd) (kv : Value) : List Value := [.string (strB b.name), kv, u64 b.serial]
def BdM (m : Mem) (v : Value) (b : Bd) : Prop := ∃ kv, v = .agg (bdC b kv).toArray ∧ SlM m kv 1 b.key.length (bs b.key) ∧ b.name.length ≤ 9223372036854775807
theorem BdM.mono {m m' : Mem} {v : Value} {b : Bd} (h : BdM m v b) (hm : ∀ k o, m k = some o → m' k = some o) : BdM m' v b := by
  obtain ⟨kv, h1, h2, h3⟩ := h
  exact ⟨kv, h1, h2.mono hm, h3⟩

def checkE (n key : By) : Int := if ¬ okName n then 4 else if key.length = 0 ∨ 64 < key.length then 5 else 0

def rightP (p : Prf) : Prop := p.S.length ≤ 256 ∧ (p.E = 1 ∨ p.E = 0 ∧ p.I = z32 ∧ p.V = z32)
instance {p : Prf} : Decidable (rightP p) := by unfold rightP; infer_instance

def endB (p : Prf) : By := if p.E = 1 then 76 :: (p.I ++ p.V) else [69]

section
variable {m : Mem} {wI : World}

theorem c_reccheck {v : Value} {b : Bd} (him : Im m wI) (hb : BdM m v b) : Ret Try.prog 48 #[v] wI fun v' w' => Tch wI w' [] [] ∧ v' = .int .i64 (checkE b.name b.key) := by
  have st := St.start him
  obtain ⟨kv, rfl, hk, hn⟩ := hb
  obtain ⟨_, ka, kc, rfl, _⟩ := id hk
  refine ret_of Try.call48 Try.func48 rfl Try.ntmps48 Try.results48 rfl ?_
  refine wc_seq ?_
  refine wc_region ?_
  refine wl_box (v := .agg (bdC b (.slice ka b.key.length kc)).toArray) rfl st rfl ?_
  intro b1 w st
  refine wl_val (v_assign' (by conv => (lhs; whnf))) rfl ?_
  refine wl_nil ?_
  refine then_go ?_
  refine wc_seq ?_
  refine wc_block ?_
  refine wc_seq ?_
  refine wc_region ?_
  refine wl_val (v_fa TF.f43_0 rfl) rfl ?_
  refine wl_val (v_load rfl (st.reads (v := .string (strB b.name)) 0 rfl TF.t9 rfl)) rfl ?_
  refine wl_call rfl (c_recname st.im hn) rfl ?_
  rintro v6 w ⟨t6, rfl⟩
  have st := st.pure t6
  refine wl_val (v_not rfl) rfl ?_
  refine wl_val (v_assign' (by conv => (lhs; whnf))) rfl ?_
  refine wl_nil ?_
  refine then_go ?_
  refine wc_cond rfl (fun h3 => ?_) (fun h3 => ?_)
  · refine wc_seq ?_
    refine wc_region ?_
    refine wl_val (v_assign' (by conv => (lhs; whnf))) rfl ?_
    refine wl_nil ?_
    refine then_go ?_
    refine wc_ret (block_ret (then_ret ?_))
    have hno : ¬ okName b.name := by simpa using h3
    exact ret1 rfl ⟨(st.keepOnly (l := []) (List.nil_sublist _)).touch, by rw [checkE, if_pos hno]; rfl⟩
  · refine wc_seq ?_
    refine wc_region ?_
    refine wl_val (v_fa TF.f43_1 rfl) rfl ?_
    refine wl_val (v_load rfl (st.reads (v := .slice ka b.key.length kc) 0 rfl TF.t41 rfl)) rfl ?_
    refine wl_val (v_len_s Try.underlying41 rfl) rfl ?_
    refine wl_val (v_eql rfl rfl) rfl ?_
    refine wl_val (v_move' (by conv => (lhs; whnf))) rfl ?_
    by_cases hg4 : (b.key.length : Int) = 0
    · rw [show decide ((b.key.length : Int) = 0) = true from decide_eq_true hg4]
      refine wl_off rfl rfl rfl rfl ?_
      refine wl_off rfl rfl rfl rfl ?_
      refine wl_off rfl rfl rfl rfl ?_
      refine wl_off rfl rfl rfl rfl ?_
      refine wl_val (v_pick rfl) rfl ?_
      refine wl_val (v_assign' (by conv => (lhs; whnf))) rfl ?_
      refine wl_nil ?_
      refine then_go ?_
      refine wc_true rfl ?_
      refine wc_seq ?_
      refine wc_region ?_
      refine wl_val (v_assign' (by conv => (lhs; whnf))) rfl ?_
      refine wl_nil ?_
      refine then_go ?_
      refine wc_ret (block_ret (then_ret ?_))
      have hyes : okName b.name := by simpa using h3
      exact ret1 rfl ⟨(st.keepOnly (l := []) (List.nil_sublist _)).touch, by rw [checkE, if_neg (not_not_intro hyes), if_pos (.inl (by omega))]; rfl⟩
    · rw [show decide ((b.key.length : Int) = 0) = false from decide_eq_false hg4]
      refine wl_on rfl rfl ?_
      refine wl_val (v_fa TF.f43_1 rfl) rfl ?_
      refine wl_on rfl rfl ?_
      refine wl_val (v_load rfl (st.reads (v := .slice ka b.key.length kc) 0 rfl TF.t41 rfl)) rfl ?_
      refine wl_on rfl rfl ?_
      refine wl_val (v_len_s Try.underlying41 rfl) rfl ?_
      refine wl_on rfl rfl ?_
      refine wl_val (v_gtr rfl rfl) rfl ?_
      refine wl_val (v_pick rfl) rfl ?_
      refine wl_val (v_assign' (by conv => (lhs; whnf))) rfl ?_
      refine wl_nil ?_
      refine then_go ?_
      refine wc_if rfl (fun h8 => ?_) (fun h8 => ?_)
      · refine wc_seq ?_
        refine wc_region ?_
        refine wl_val (v_assign' (by conv => (lhs; whnf))) rfl ?_
        refine wl_nil ?_
        refine then_go ?_
        refine wc_ret (block_ret (then_ret ?_))
        have hyes : okName b.name := by simpa using h3
        exact ret1 rfl ⟨(st.keepOnly (l := []) (List.nil_sublist _)).touch, by rw [checkE, if_neg (not_not_intro hyes), if_pos (.inr (by omega))]; rfl⟩
      · refine wc_skip ?_
        refine block_go (then_go ?_)
        refine wc_seq ?_
        refine wc_region ?_
        refine wl_val (v_assign' (by conv => (lhs; whnf))) rfl ?_
        refine wl_nil ?_
        refine then_go ?_
        refine wc_ret ?_
        have hyes : okName b.name := by simpa using h3
        exact ret1 rfl ⟨(st.keepOnly (l := []) (List.nil_sublist _)).touch, by rw [checkE, if_neg (not_not_intro hyes), if_neg (by omega)]; rfl⟩

theorem c_r5check {kv : Value} {n key : By} (him : Im m wI) (hk : SlM m kv 1 key.length (bs key)) (hn : n.length ≤ 9223372036854775807) : Ret Try.prog 55 #[.string (strB n), kv] wI fun v' w' => Tch wI w' [] [] ∧ v' = .int .i64 (checkE n key) := by
  have st := St.start him
  obtain ⟨_, ka, kc, rfl, _⟩ := id hk
  refine ret_of Try.call55 Try.func55 rfl Try.ntmps55 Try.results55 rfl ?_
  refine wc_seq ?_
  refine wc_region ?_
  refine wl_val (v_assign' (by conv => (lhs; whnf))) rfl ?_
  refine wl_nil ?_
  refine then_go ?_
  refine wc_seq ?_
  refine wc_seq ?_
  refine wc_region ?_
  refine wl_val (v_move' (by conv => (lhs; whnf))) rfl ?_
  refine wl_call rfl (c_r5name st.im hn) rfl ?_
  rintro v6 w ⟨t6, rfl⟩
  have st := st.pure t6
  refine wl_val (v_not rfl) rfl ?_
  refine wl_nil ?_
  refine then_go ?_
  refine wc_cond rfl (fun h7 => ?_) (fun h7 => ?_)
  · refine wc_seq ?_
    refine wc_region ?_
    refine wl_val (v_assign' (by conv => (lhs; whnf))) rfl ?_
    refine wl_nil ?_
    refine then_go ?_
    refine wc_ret (then_ret ?_)
    have hno : ¬ okName n := by simpa using h7
    exact ret1 rfl ⟨st.touch, by rw [checkE, if_pos hno]; rfl⟩
  · refine wc_skip ?_
    refine then_go ?_
    refine wc_seq ?_
    refine wc_seq ?_
    refine wc_region ?_
    refine wl_val (v_move' (by conv => (lhs; whnf))) rfl ?_
    refine wl_val (v_len_s Try.underlying41 rfl) rfl ?_
    refine wl_val (v_lss rfl rfl) rfl ?_
    refine wl_val (v_move' (by conv => (lhs; whnf))) rfl ?_
    by_cases hg3 : (key.length : Int) < 1
    · rw [show decide ((key.length : Int) < 1) = true from decide_eq_true hg3]
      refine wl_off rfl rfl rfl rfl ?_
      refine wl_off rfl rfl rfl rfl ?_
      refine wl_off rfl rfl rfl rfl ?_
      refine wl_val (v_pick rfl) rfl ?_
      refine wl_nil ?_
      refine then_go ?_
      refine wc_true rfl ?_
      refine wc_seq ?_
      refine wc_region ?_
      refine wl_val (v_assign' (by conv => (lhs; whnf))) rfl ?_
      refine wl_nil ?_
      refine then_go ?_
      refine wc_ret (then_ret ?_)
      have hyes : okName n := by simpa using h7
      exact ret1 rfl ⟨st.touch, by rw [checkE, if_neg (not_not_intro hyes), if_pos (.inl (by omega))]; rfl⟩
    · rw [show decide ((key.length : Int) < 1) = false from decide_eq_false hg3]
      refine wl_on rfl rfl ?_
      refine wl_val (v_move' (by conv => (lhs; whnf))) rfl ?_
      refine wl_on rfl rfl ?_
      refine wl_val (v_len_s Try.underlying41 rfl) rfl ?_
      refine wl_on rfl rfl ?_
      refine wl_val (v_gtr rfl rfl) rfl ?_
      refine wl_val (v_pick rfl) rfl ?_
      refine wl_nil ?_
      refine then_go ?_
      refine wc_if rfl (fun h15 => ?_) (fun h15 => ?_)
      · refine wc_seq ?_
        refine wc_region ?_
        refine wl_val (v_assign' (by conv => (lhs; whnf))) rfl ?_
        refine wl_nil ?_
        refine then_go ?_
        refine wc_ret (then_ret ?_)
        have hyes : okName n := by simpa using h7
        exact ret1 rfl ⟨st.touch, by rw [checkE, if_neg (not_not_intro hyes), if_pos (.inr (by omega))]; rfl⟩
      · refine wc_skip ?_
        refine then_go ?_
        refine wc_seq ?_
        refine wc_region ?_
        refine wl_val (v_assign' (by conv => (lhs; whnf))) rfl ?_
        refine wl_nil ?_
        refine then_go ?_
        refine wc_ret ?_
        have hyes : okName n := by simpa using h7
        exact ret1 rfl ⟨st.touch, by rw [checkE, if_neg (not_not_intro hyes), if_neg (by omega)]; rfl⟩

theorem v_z32 {r : Fr} {w : World} {ty : TypeId} : Val Try.prog (.build 23 #[]) ty r w (arr z32) w :=
  v_build_a (c' := (bs z32).toArray) [] TF.z23 Try.underlying23 TF.t5 rfl rfl

theorem c_right {v : Value} {p : Prf} (him : Im m wI) (hp : PrM m v p) : Ret Try.prog 74 #[v] wI fun v' w' => Tch wI w' [] [] ∧ v' = .bool (decide (rightP p)) := by
  have st := St.start him
  obtain ⟨sv, rfl, hs, hI, hV⟩ := hp
  obtain ⟨sa, sc, rfl⟩ := hs.sl
  refine ret_of Try.call74 Try.func74 rfl Try.ntmps74 Try.results74 rfl ?_
  refine wc_seq ?_
  refine wc_region ?_
  refine wl_box (v := .agg (prC (.slice sa p.S.length sc) p.E p.I p.V)) rfl st rfl ?_
  intro b1 w st
  refine wl_val (v_assign' (by conv => (lhs; whnf))) rfl ?_
  refine wl_nil ?_
  refine then_go ?_
  refine wc_seq ?_
  refine wc_region ?_
  refine wl_val (v_fa TF.f40_2 rfl) rfl ?_
  refine wl_val (v_load rfl (st.reads (v := arr p.I) 0 rfl TF.t23 (prC_I hI))) rfl ?_
  refine wl_val v_z32 rfl ?_
  refine wl_val (v_eqD rfl rfl hI rfl) rfl ?_
  refine wl_val (v_move' (by conv => (lhs; whnf))) rfl ?_
  by_cases hg4 : p.I = z32
  · rw [show decide (p.I = z32) = true from decide_eq_true hg4]
    refine wl_on rfl rfl ?_
    refine wl_val (v_fa TF.f40_3 rfl) rfl ?_
    refine wl_on rfl rfl ?_
    refine wl_val (v_load rfl (st.reads (v := arr p.V) 0 rfl TF.t23 (prC_V hI hV))) rfl ?_
    refine wl_on rfl rfl ?_
    refine wl_val v_z32 rfl ?_
    refine wl_on rfl rfl ?_
    refine wl_val (v_eqD rfl rfl hV rfl) rfl ?_
    refine wl_val (v_pick rfl) rfl ?_
    refine wl_val (v_assign' (by conv => (lhs; whnf))) rfl ?_
    refine wl_nil ?_
    refine then_go ?_
    refine wc_seq ?_
    have hI0 := hg4
    refine wc_region ?_
    refine wl_val (v_fa TF.f40_0 rfl) rfl ?_
    refine wl_val (v_load rfl (st.reads (v := .slice sa p.S.length sc) 0 rfl TF.t38 prC_S)) rfl ?_
    refine wl_val (v_len_s Try.underlying38 rfl) rfl ?_
    refine wl_val (v_leq rfl rfl) rfl ?_
    refine wl_val (v_move' (by conv => (lhs; whnf))) rfl ?_
    by_cases hg4 : (p.S.length : Int) ≤ 256
    · rw [show decide ((p.S.length : Int) ≤ 256) = true from decide_eq_true hg4]
      refine wl_on rfl rfl ?_
      refine wl_val (v_fa TF.f40_1 rfl) rfl ?_
      refine wl_on rfl rfl ?_
      refine wl_val (v_load rfl (st.reads (v := .int .i64 p.E) 0 rfl TF.t3 prC_E)) rfl ?_
      refine wl_on rfl rfl ?_
      refine wl_val (v_eql rfl rfl) rfl ?_
      refine wl_on rfl rfl ?_
      refine wl_val (v_move' (by conv => (lhs; whnf))) rfl ?_
      by_cases hg8 : p.E = 1
      · rw [show decide (p.E = 1) = true from decide_eq_true hg8]
        refine wl_off rfl rfl rfl rfl ?_
        refine wl_off rfl rfl rfl rfl ?_
        refine wl_off rfl rfl rfl rfl ?_
        refine wl_off rfl rfl rfl rfl ?_
        refine offU rfl rfl rfl ?_
        refine wl_off rfl rfl rfl rfl ?_
        refine wl_on rfl rfl ?_
        refine wl_val (v_pick rfl) rfl ?_
        refine wl_val (v_pick rfl) rfl ?_
        refine wl_val (v_assign' (by conv => (lhs; whnf))) rfl ?_
        refine wl_nil ?_
        refine then_go ?_
        refine wc_ret ?_
        exact ret1 rfl ⟨(st.keepOnly (l := []) (List.nil_sublist _)).touch, by rw [show decide (rightP p) = true from decide_eq_true ⟨by omega, .inl hg8⟩]; rfl⟩
      · rw [show decide (p.E = 1) = false from decide_eq_false hg8]
        refine wl_on rfl rfl ?_
        refine wl_val (v_fa TF.f40_1 rfl) rfl ?_
        refine wl_on rfl rfl ?_
        refine wl_val (v_load rfl (st.reads (v := .int .i64 p.E) 0 rfl TF.t3 prC_E)) rfl ?_
        refine wl_on rfl rfl ?_
        refine wl_val (v_eql rfl rfl) rfl ?_
        refine wl_on rfl rfl ?_
        refine wl_val (v_move' (by conv => (lhs; whnf))) rfl ?_
        by_cases hg12 : p.E = 0
        · rw [show decide (p.E = 0) = true from decide_eq_true hg12]
          refine wl_on rfl rfl ?_
          refine wl_val (v_move' (by conv => (lhs; whnf))) rfl ?_
          refine wl_on rfl rfl ?_
          refine wl_val (v_pick rfl) rfl ?_
          refine wl_on rfl rfl ?_
          refine wl_val (v_pick rfl) rfl ?_
          refine wl_val (v_pick rfl) rfl ?_
          refine wl_val (v_assign' (by conv => (lhs; whnf))) rfl ?_
          refine wl_nil ?_
          refine then_go ?_
          refine wc_ret ?_
          exact ret1 rfl ⟨(st.keepOnly (l := []) (List.nil_sublist _)).touch, by rw [show decide (rightP p) = decide (p.V = z32) from decide_eq_decide.2 ⟨fun h => (h.2.resolve_left hg8).2.2, fun h => ⟨by omega, .inr ⟨hg12, hI0, h⟩⟩⟩]; rfl⟩
        · rw [show decide (p.E = 0) = false from decide_eq_false hg12]
          refine wl_off rfl rfl rfl rfl ?_
          refine wl_on rfl rfl ?_
          refine wl_val (v_pick rfl) rfl ?_
          refine wl_on rfl rfl ?_
          refine wl_val (v_pick rfl) rfl ?_
          refine wl_val (v_pick rfl) rfl ?_
          refine wl_val (v_assign' (by conv => (lhs; whnf))) rfl ?_
          refine wl_nil ?_
          refine then_go ?_
          refine wc_ret ?_
          exact ret1 rfl ⟨(st.keepOnly (l := []) (List.nil_sublist _)).touch, by rw [show decide (rightP p) = false from decide_eq_false (fun h => hg12 (h.2.resolve_left hg8).1)]; rfl⟩
    · rw [show decide ((p.S.length : Int) ≤ 256) = false from decide_eq_false hg4]
      refine wl_off rfl rfl rfl rfl ?_
      refine wl_off rfl rfl rfl rfl ?_
      refine wl_off rfl rfl rfl rfl ?_
      refine wl_off rfl rfl rfl rfl ?_
      refine offU rfl rfl rfl ?_
      refine offU rfl rfl rfl ?_
      refine offU rfl rfl rfl ?_
      refine offU rfl rfl rfl ?_
      refine offU rfl rfl rfl ?_
      refine offU rfl rfl rfl ?_
      refine wl_off rfl rfl rfl rfl ?_
      refine wl_val (v_pick rfl) rfl ?_
      refine wl_val (v_assign' (by conv => (lhs; whnf))) rfl ?_
      refine wl_nil ?_
      refine then_go ?_
      refine wc_ret ?_
      exact ret1 rfl ⟨(st.keepOnly (l := []) (List.nil_sublist _)).touch, by rw [show decide (rightP p) = false from decide_eq_false (fun h => by have := h.1; omega)]; rfl⟩
  · rw [show decide (p.I = z32) = false from decide_eq_false hg4]
    refine wl_off rfl rfl rfl rfl ?_
    refine wl_off rfl rfl rfl rfl ?_
    refine wl_off rfl rfl rfl rfl ?_
    refine wl_off rfl rfl rfl rfl ?_
    refine wl_val (v_pick rfl) rfl ?_
    refine wl_val (v_assign' (by conv => (lhs; whnf))) rfl ?_
    refine wl_nil ?_
    refine then_go ?_
    refine wc_seq ?_
    have hI0 := hg4
    refine wc_region ?_
    refine wl_val (v_fa TF.f40_0 rfl) rfl ?_
    refine wl_val (v_load rfl (st.reads (v := .slice sa p.S.length sc) 0 rfl TF.t38 prC_S)) rfl ?_
    refine wl_val (v_len_s Try.underlying38 rfl) rfl ?_
    refine wl_val (v_leq rfl rfl) rfl ?_
    refine wl_val (v_move' (by conv => (lhs; whnf))) rfl ?_
    by_cases hg4 : (p.S.length : Int) ≤ 256
    · rw [show decide ((p.S.length : Int) ≤ 256) = true from decide_eq_true hg4]
      refine wl_on rfl rfl ?_
      refine wl_val (v_fa TF.f40_1 rfl) rfl ?_
      refine wl_on rfl rfl ?_
      refine wl_val (v_load rfl (st.reads (v := .int .i64 p.E) 0 rfl TF.t3 prC_E)) rfl ?_
      refine wl_on rfl rfl ?_
      refine wl_val (v_eql rfl rfl) rfl ?_
      refine wl_on rfl rfl ?_
      refine wl_val (v_move' (by conv => (lhs; whnf))) rfl ?_
      by_cases hg8 : p.E = 1
      · rw [show decide (p.E = 1) = true from decide_eq_true hg8]
        refine wl_off rfl rfl rfl rfl ?_
        refine wl_off rfl rfl rfl rfl ?_
        refine wl_off rfl rfl rfl rfl ?_
        refine wl_off rfl rfl rfl rfl ?_
        refine offU rfl rfl rfl ?_
        refine wl_off rfl rfl rfl rfl ?_
        refine wl_on rfl rfl ?_
        refine wl_val (v_pick rfl) rfl ?_
        refine wl_val (v_pick rfl) rfl ?_
        refine wl_val (v_assign' (by conv => (lhs; whnf))) rfl ?_
        refine wl_nil ?_
        refine then_go ?_
        refine wc_ret ?_
        exact ret1 rfl ⟨(st.keepOnly (l := []) (List.nil_sublist _)).touch, by rw [show decide (rightP p) = true from decide_eq_true ⟨by omega, .inl hg8⟩]; rfl⟩
      · rw [show decide (p.E = 1) = false from decide_eq_false hg8]
        refine wl_on rfl rfl ?_
        refine wl_val (v_fa TF.f40_1 rfl) rfl ?_
        refine wl_on rfl rfl ?_
        refine wl_val (v_load rfl (st.reads (v := .int .i64 p.E) 0 rfl TF.t3 prC_E)) rfl ?_
        refine wl_on rfl rfl ?_
        refine wl_val (v_eql rfl rfl) rfl ?_
        refine wl_on rfl rfl ?_
        refine wl_val (v_move' (by conv => (lhs; whnf))) rfl ?_
        by_cases hg12 : p.E = 0
        · rw [show decide (p.E = 0) = true from decide_eq_true hg12]
          refine wl_on rfl rfl ?_
          refine wl_val (v_move' (by conv => (lhs; whnf))) rfl ?_
          refine wl_on rfl rfl ?_
          refine wl_val (v_pick rfl) rfl ?_
          refine wl_on rfl rfl ?_
          refine wl_val (v_pick rfl) rfl ?_
          refine wl_val (v_pick rfl) rfl ?_
          refine wl_val (v_assign' (by conv => (lhs; whnf))) rfl ?_
          refine wl_nil ?_
          refine then_go ?_
          refine wc_ret ?_
          exact ret1 rfl ⟨(st.keepOnly (l := []) (List.nil_sublist _)).touch, by rw [show decide (rightP p) = false from decide_eq_false (fun h => hI0 (h.2.resolve_left hg8).2.1)]; rfl⟩
        · rw [show decide (p.E = 0) = false from decide_eq_false hg12]
          refine wl_off rfl rfl rfl rfl ?_
          refine wl_on rfl rfl ?_
          refine wl_val (v_pick rfl) rfl ?_
          refine wl_on rfl rfl ?_
          refine wl_val (v_pick rfl) rfl ?_
          refine wl_val (v_pick rfl) rfl ?_
          refine wl_val (v_assign' (by conv => (lhs; whnf))) rfl ?_
          refine wl_nil ?_
          refine then_go ?_
          refine wc_ret ?_
          exact ret1 rfl ⟨(st.keepOnly (l := []) (List.nil_sublist _)).touch, by rw [show decide (rightP p) = false from decide_eq_false (fun h => hg12 (h.2.resolve_left hg8).1)]; rfl⟩
    · rw [show decide ((p.S.length : Int) ≤ 256) = false from decide_eq_false hg4]
      refine wl_off rfl rfl rfl rfl ?_
      refine wl_off rfl rfl rfl rfl ?_
      refine wl_off rfl rfl rfl rfl ?_
      refine wl_off rfl rfl rfl rfl ?_
      refine offU rfl rfl rfl ?_
      refine offU rfl rfl rfl ?_
      refine offU rfl rfl rfl ?_
      refine offU rfl rfl rfl ?_
      refine offU rfl rfl rfl ?_
      refine offU rfl rfl rfl ?_
      refine wl_off rfl rfl rfl rfl ?_
      refine wl_val (v_pick rfl) rfl ?_
      refine wl_val (v_assign' (by conv => (lhs; whnf))) rfl ?_
      refine wl_nil ?_
      refine then_go ?_
      refine wc_ret ?_
      exact ret1 rfl ⟨(st.keepOnly (l := []) (List.nil_sublist _)).touch, by rw [show decide (rightP p) = false from decide_eq_false (fun h => by have := h.1; omega)]; rfl⟩

theorem c_rright {v : Value} {p : Prf} (him : Im m wI) (hp : PrM m v p) : Ret Try.prog 77 #[v] wI fun v' w' => Tch wI w' [] [] ∧ v' = .bool (decide (rightP p)) := by
  have st := St.start him
  obtain ⟨sv, rfl, hs, hI, hV⟩ := hp
  obtain ⟨sa, sc, rfl⟩ := hs.sl
  refine ret_of Try.call77 Try.func77 rfl Try.ntmps77 Try.results77 rfl ?_
  refine wc_seq ?_
  refine wc_region ?_
  refine wl_box (v := .agg (prC (.slice sa p.S.length sc) p.E p.I p.V)) rfl st rfl ?_
  intro b1 w st
  refine wl_val (v_assign' (by conv => (lhs; whnf))) rfl ?_
  refine wl_nil ?_
  refine then_go ?_
  refine wc_seq ?_
  refine wc_seq ?_
  refine wc_region ?_
  refine wl_val (v_fa TF.f40_0 rfl) rfl ?_
  refine wl_val (v_load rfl (st.reads (v := .slice sa p.S.length sc) 0 rfl TF.t38 prC_S)) rfl ?_
  refine wl_val (v_len_s Try.underlying38 rfl) rfl ?_
  refine wl_val (v_gtr rfl rfl) rfl ?_
  refine wl_val (v_move' (by conv => (lhs; whnf))) rfl ?_
  by_cases hg4 : (256 : Int) < (p.S.length : Int)
  · rw [show decide ((256 : Int) < (p.S.length : Int)) = true from decide_eq_true hg4]
    refine wl_off rfl rfl rfl rfl ?_
    refine wl_off rfl rfl rfl rfl ?_
    refine wl_off rfl rfl rfl rfl ?_
    refine wl_off rfl rfl rfl rfl ?_
    refine offU rfl rfl rfl ?_
    refine offU rfl rfl rfl ?_
    refine offU rfl rfl rfl ?_
    refine wl_off rfl rfl rfl rfl ?_
    refine wl_val (v_pick rfl) rfl ?_
    refine wl_nil ?_
    refine then_go ?_
    refine wc_true rfl ?_
    refine wc_seq ?_
    refine wc_region ?_
    refine wl_val (v_assign' (by conv => (lhs; whnf))) rfl ?_
    refine wl_nil ?_
    refine then_go ?_
    refine wc_ret (then_ret ?_)
    refine ret1 rfl ⟨(st.keepOnly (l := []) (List.nil_sublist _)).touch, ?_⟩
    first
      | (rw [show decide (rightP p) = false from decide_eq_false (fun h => by have := h.1; omega)]; rfl)
      | (rw [show decide (rightP p) = true from decide_eq_true ⟨by omega, .inl (by omega)⟩]; rfl)
      | (rw [show decide (rightP p) = decide (p.V = z32) from decide_eq_decide.2 ⟨fun h => (h.2.resolve_left (by omega)).2.2, fun h => ⟨by omega, .inr ⟨by omega, hg8, h⟩⟩⟩]; rfl)
      | (rw [show decide (rightP p) = false from decide_eq_false (fun h => hg8 (h.2.resolve_left (by omega)).2.1)]; rfl)
      | (rw [show decide (rightP p) = false from decide_eq_false (fun h => by rcases h.2 with h2 | ⟨h2, _⟩ <;> omega)]; rfl)
  · rw [show decide ((256 : Int) < (p.S.length : Int)) = false from decide_eq_false hg4]
    refine wl_on rfl rfl ?_
    refine wl_val (v_fa TF.f40_1 rfl) rfl ?_
    refine wl_on rfl rfl ?_
    refine wl_val (v_load rfl (st.reads (v := .int .i64 p.E) 0 rfl TF.t3 prC_E)) rfl ?_
    refine wl_on rfl rfl ?_
    refine wl_val (v_neq rfl rfl) rfl ?_
    refine wl_on rfl rfl ?_
    refine wl_val (v_move' (by conv => (lhs; whnf))) rfl ?_
    by_cases hg8 : ¬ p.E = 0
    · rw [show decide (¬ p.E = 0) = true from decide_eq_true hg8]
      refine wl_on rfl rfl ?_
      refine wl_val (v_fa TF.f40_1 rfl) rfl ?_
      refine wl_on rfl rfl ?_
      refine wl_val (v_load rfl (st.reads (v := .int .i64 p.E) 0 rfl TF.t3 prC_E)) rfl ?_
      refine wl_on rfl rfl ?_
      refine wl_val (v_neq rfl rfl) rfl ?_
      refine wl_on rfl rfl ?_
      refine wl_val (v_pick rfl) rfl ?_
      refine wl_val (v_pick rfl) rfl ?_
      refine wl_nil ?_
      refine then_go ?_
      refine wc_if rfl (fun h16 => ?_) (fun h16 => ?_)
      · refine wc_seq ?_
        refine wc_region ?_
        refine wl_val (v_assign' (by conv => (lhs; whnf))) rfl ?_
        refine wl_nil ?_
        refine then_go ?_
        refine wc_ret (then_ret ?_)
        refine ret1 rfl ⟨(st.keepOnly (l := []) (List.nil_sublist _)).touch, ?_⟩
        first
          | (rw [show decide (rightP p) = false from decide_eq_false (fun h => by have := h.1; omega)]; rfl)
          | (rw [show decide (rightP p) = true from decide_eq_true ⟨by omega, .inl (by omega)⟩]; rfl)
          | (rw [show decide (rightP p) = decide (p.V = z32) from decide_eq_decide.2 ⟨fun h => (h.2.resolve_left (by omega)).2.2, fun h => ⟨by omega, .inr ⟨by omega, hg8, h⟩⟩⟩]; rfl)
          | (rw [show decide (rightP p) = false from decide_eq_false (fun h => hg8 (h.2.resolve_left (by omega)).2.1)]; rfl)
          | (rw [show decide (rightP p) = false from decide_eq_false (fun h => by rcases h.2 with h2 | ⟨h2, _⟩ <;> omega)]; rfl)
      · refine wc_skip ?_
        refine then_go ?_
        refine wc_seq ?_
        refine wc_region ?_
        refine wl_val (v_fa TF.f40_1 rfl) rfl ?_
        refine wl_val (v_load rfl (st.reads (v := .int .i64 p.E) 0 rfl TF.t3 prC_E)) rfl ?_
        refine wl_val (v_eql rfl rfl) rfl ?_
        refine wl_val (v_move' (by conv => (lhs; whnf))) rfl ?_
        by_cases hg3 : p.E = 1
        · rw [show decide (p.E = 1) = true from decide_eq_true hg3]
          refine wl_off rfl rfl rfl rfl ?_
          refine wl_off rfl rfl rfl rfl ?_
          refine wl_off rfl rfl rfl rfl ?_
          refine wl_off rfl rfl rfl rfl ?_
          refine wl_off rfl rfl rfl rfl ?_
          refine offU rfl rfl rfl ?_
          refine offU rfl rfl rfl ?_
          refine offU rfl rfl rfl ?_
          refine offU rfl rfl rfl ?_
          refine wl_off rfl rfl rfl rfl ?_
          refine wl_val (v_pick rfl) rfl ?_
          refine wl_val (v_assign' (by conv => (lhs; whnf))) rfl ?_
          refine wl_nil ?_
          refine then_go ?_
          refine wc_ret ?_
          refine ret1 rfl ⟨(st.keepOnly (l := []) (List.nil_sublist _)).touch, ?_⟩
          first
            | (rw [show decide (rightP p) = false from decide_eq_false (fun h => by have := h.1; omega)]; rfl)
            | (rw [show decide (rightP p) = true from decide_eq_true ⟨by omega, .inl (by omega)⟩]; rfl)
            | (rw [show decide (rightP p) = decide (p.V = z32) from decide_eq_decide.2 ⟨fun h => (h.2.resolve_left (by omega)).2.2, fun h => ⟨by omega, .inr ⟨by omega, hg8, h⟩⟩⟩]; rfl)
            | (rw [show decide (rightP p) = false from decide_eq_false (fun h => hg8 (h.2.resolve_left (by omega)).2.1)]; rfl)
            | (rw [show decide (rightP p) = false from decide_eq_false (fun h => by rcases h.2 with h2 | ⟨h2, _⟩ <;> omega)]; rfl)
        · rw [show decide (p.E = 1) = false from decide_eq_false hg3]
          refine wl_on rfl rfl ?_
          refine wl_val (v_fa TF.f40_2 rfl) rfl ?_
          refine wl_on rfl rfl ?_
          refine wl_val (v_load rfl (st.reads (v := arr p.I) 0 rfl TF.t23 (prC_I hI))) rfl ?_
          refine wl_on rfl rfl ?_
          refine wl_val v_z32 rfl ?_
          refine wl_on rfl rfl ?_
          refine wl_val (v_eqD rfl rfl hI rfl) rfl ?_
          refine wl_on rfl rfl ?_
          refine wl_val (v_move' (by conv => (lhs; whnf))) rfl ?_
          by_cases hg8 : p.I = z32
          · rw [show decide (p.I = z32) = true from decide_eq_true hg8]
            refine wl_on rfl rfl ?_
            refine wl_val (v_fa TF.f40_3 rfl) rfl ?_
            refine wl_on rfl rfl ?_
            refine wl_val (v_load rfl (st.reads (v := arr p.V) 0 rfl TF.t23 (prC_V hI hV))) rfl ?_
            refine wl_on rfl rfl ?_
            refine wl_val v_z32 rfl ?_
            refine wl_on rfl rfl ?_
            refine wl_val (v_eqD rfl rfl hV rfl) rfl ?_
            refine wl_on rfl rfl ?_
            refine wl_val (v_pick rfl) rfl ?_
            refine wl_val (v_pick rfl) rfl ?_
            refine wl_val (v_assign' (by conv => (lhs; whnf))) rfl ?_
            refine wl_nil ?_
            refine then_go ?_
            refine wc_ret ?_
            refine ret1 rfl ⟨(st.keepOnly (l := []) (List.nil_sublist _)).touch, ?_⟩
            first
              | (rw [show decide (rightP p) = false from decide_eq_false (fun h => by have := h.1; omega)]; rfl)
              | (rw [show decide (rightP p) = true from decide_eq_true ⟨by omega, .inl (by omega)⟩]; rfl)
              | (rw [show decide (rightP p) = decide (p.V = z32) from decide_eq_decide.2 ⟨fun h => (h.2.resolve_left (by omega)).2.2, fun h => ⟨by omega, .inr ⟨by omega, hg8, h⟩⟩⟩]; rfl)
              | (rw [show decide (rightP p) = false from decide_eq_false (fun h => hg8 (h.2.resolve_left (by omega)).2.1)]; rfl)
              | (rw [show decide (rightP p) = false from decide_eq_false (fun h => by rcases h.2 with h2 | ⟨h2, _⟩ <;> omega)]; rfl)
          · rw [show decide (p.I = z32) = false from decide_eq_false hg8]
            refine wl_off rfl rfl rfl rfl ?_
            refine wl_off rfl rfl rfl rfl ?_
            refine wl_off rfl rfl rfl rfl ?_
            refine wl_off rfl rfl rfl rfl ?_
            refine wl_on rfl rfl ?_
            refine wl_val (v_pick rfl) rfl ?_
            refine wl_val (v_pick rfl) rfl ?_
            refine wl_val (v_assign' (by conv => (lhs; whnf))) rfl ?_
            refine wl_nil ?_
            refine then_go ?_
            refine wc_ret ?_
            refine ret1 rfl ⟨(st.keepOnly (l := []) (List.nil_sublist _)).touch, ?_⟩
            first
              | (rw [show decide (rightP p) = false from decide_eq_false (fun h => by have := h.1; omega)]; rfl)
              | (rw [show decide (rightP p) = true from decide_eq_true ⟨by omega, .inl (by omega)⟩]; rfl)
              | (rw [show decide (rightP p) = decide (p.V = z32) from decide_eq_decide.2 ⟨fun h => (h.2.resolve_left (by omega)).2.2, fun h => ⟨by omega, .inr ⟨by omega, hg8, h⟩⟩⟩]; rfl)
              | (rw [show decide (rightP p) = false from decide_eq_false (fun h => hg8 (h.2.resolve_left (by omega)).2.1)]; rfl)
              | (rw [show decide (rightP p) = false from decide_eq_false (fun h => by rcases h.2 with h2 | ⟨h2, _⟩ <;> omega)]; rfl)
    · rw [show decide (¬ p.E = 0) = false from decide_eq_false hg8]
      refine wl_off rfl rfl rfl rfl ?_
      refine wl_off rfl rfl rfl rfl ?_
      refine wl_off rfl rfl rfl rfl ?_
      refine wl_on rfl rfl ?_
      refine wl_val (v_pick rfl) rfl ?_
      refine wl_val (v_pick rfl) rfl ?_
      refine wl_nil ?_
      refine then_go ?_
      refine wc_false rfl ?_
      refine wc_skip ?_
      refine then_go ?_
      refine wc_seq ?_
      refine wc_region ?_
      refine wl_val (v_fa TF.f40_1 rfl) rfl ?_
      refine wl_val (v_load rfl (st.reads (v := .int .i64 p.E) 0 rfl TF.t3 prC_E)) rfl ?_
      refine wl_val (v_eql rfl rfl) rfl ?_
      refine wl_val (v_move' (by conv => (lhs; whnf))) rfl ?_
      by_cases hg3 : p.E = 1
      · rw [show decide (p.E = 1) = true from decide_eq_true hg3]
        refine wl_off rfl rfl rfl rfl ?_
        refine wl_off rfl rfl rfl rfl ?_
        refine wl_off rfl rfl rfl rfl ?_
        refine wl_off rfl rfl rfl rfl ?_
        refine wl_off rfl rfl rfl rfl ?_
        refine offU rfl rfl rfl ?_
        refine offU rfl rfl rfl ?_
        refine offU rfl rfl rfl ?_
        refine offU rfl rfl rfl ?_
        refine wl_off rfl rfl rfl rfl ?_
        refine wl_val (v_pick rfl) rfl ?_
        refine wl_val (v_assign' (by conv => (lhs; whnf))) rfl ?_
        refine wl_nil ?_
        refine then_go ?_
        refine wc_ret ?_
        refine ret1 rfl ⟨(st.keepOnly (l := []) (List.nil_sublist _)).touch, ?_⟩
        first
          | (rw [show decide (rightP p) = false from decide_eq_false (fun h => by have := h.1; omega)]; rfl)
          | (rw [show decide (rightP p) = true from decide_eq_true ⟨by omega, .inl (by omega)⟩]; rfl)
          | (rw [show decide (rightP p) = decide (p.V = z32) from decide_eq_decide.2 ⟨fun h => (h.2.resolve_left (by omega)).2.2, fun h => ⟨by omega, .inr ⟨by omega, hg8, h⟩⟩⟩]; rfl)
          | (rw [show decide (rightP p) = false from decide_eq_false (fun h => hg8 (h.2.resolve_left (by omega)).2.1)]; rfl)
          | (rw [show decide (rightP p) = false from decide_eq_false (fun h => by rcases h.2 with h2 | ⟨h2, _⟩ <;> omega)]; rfl)
      · rw [show decide (p.E = 1) = false from decide_eq_false hg3]
        refine wl_on rfl rfl ?_
        refine wl_val (v_fa TF.f40_2 rfl) rfl ?_
        refine wl_on rfl rfl ?_
        refine wl_val (v_load rfl (st.reads (v := arr p.I) 0 rfl TF.t23 (prC_I hI))) rfl ?_
        refine wl_on rfl rfl ?_
        refine wl_val v_z32 rfl ?_
        refine wl_on rfl rfl ?_
        refine wl_val (v_eqD rfl rfl hI rfl) rfl ?_
        refine wl_on rfl rfl ?_
        refine wl_val (v_move' (by conv => (lhs; whnf))) rfl ?_
        by_cases hg8 : p.I = z32
        · rw [show decide (p.I = z32) = true from decide_eq_true hg8]
          refine wl_on rfl rfl ?_
          refine wl_val (v_fa TF.f40_3 rfl) rfl ?_
          refine wl_on rfl rfl ?_
          refine wl_val (v_load rfl (st.reads (v := arr p.V) 0 rfl TF.t23 (prC_V hI hV))) rfl ?_
          refine wl_on rfl rfl ?_
          refine wl_val v_z32 rfl ?_
          refine wl_on rfl rfl ?_
          refine wl_val (v_eqD rfl rfl hV rfl) rfl ?_
          refine wl_on rfl rfl ?_
          refine wl_val (v_pick rfl) rfl ?_
          refine wl_val (v_pick rfl) rfl ?_
          refine wl_val (v_assign' (by conv => (lhs; whnf))) rfl ?_
          refine wl_nil ?_
          refine then_go ?_
          refine wc_ret ?_
          refine ret1 rfl ⟨(st.keepOnly (l := []) (List.nil_sublist _)).touch, ?_⟩
          first
            | (rw [show decide (rightP p) = false from decide_eq_false (fun h => by have := h.1; omega)]; rfl)
            | (rw [show decide (rightP p) = true from decide_eq_true ⟨by omega, .inl (by omega)⟩]; rfl)
            | (rw [show decide (rightP p) = decide (p.V = z32) from decide_eq_decide.2 ⟨fun h => (h.2.resolve_left (by omega)).2.2, fun h => ⟨by omega, .inr ⟨by omega, hg8, h⟩⟩⟩]; rfl)
            | (rw [show decide (rightP p) = false from decide_eq_false (fun h => hg8 (h.2.resolve_left (by omega)).2.1)]; rfl)
            | (rw [show decide (rightP p) = false from decide_eq_false (fun h => by rcases h.2 with h2 | ⟨h2, _⟩ <;> omega)]; rfl)
        · rw [show decide (p.I = z32) = false from decide_eq_false hg8]
          refine wl_off rfl rfl rfl rfl ?_
          refine wl_off rfl rfl rfl rfl ?_
          refine wl_off rfl rfl rfl rfl ?_
          refine wl_off rfl rfl rfl rfl ?_
          refine wl_on rfl rfl ?_
          refine wl_val (v_pick rfl) rfl ?_
          refine wl_val (v_pick rfl) rfl ?_
          refine wl_val (v_assign' (by conv => (lhs; whnf))) rfl ?_
          refine wl_nil ?_
          refine then_go ?_
          refine wc_ret ?_
          refine ret1 rfl ⟨(st.keepOnly (l := []) (List.nil_sublist _)).touch, ?_⟩
          first
            | (rw [show decide (rightP p) = false from decide_eq_false (fun h => by have := h.1; omega)]; rfl)
            | (rw [show decide (rightP p) = true from decide_eq_true ⟨by omega, .inl (by omega)⟩]; rfl)
            | (rw [show decide (rightP p) = decide (p.V = z32) from decide_eq_decide.2 ⟨fun h => (h.2.resolve_left (by omega)).2.2, fun h => ⟨by omega, .inr ⟨by omega, hg8, h⟩⟩⟩]; rfl)
            | (rw [show decide (rightP p) = false from decide_eq_false (fun h => hg8 (h.2.resolve_left (by omega)).2.1)]; rfl)
            | (rw [show decide (rightP p) = false from decide_eq_false (fun h => by rcases h.2 with h2 | ⟨h2, _⟩ <;> omega)]; rfl)

theorem c_end {v : Value} {p : Prf} (him : Im m wI) (hp : PrM m v p) : Ret Try.prog 82 #[v] wI fun v' w' => Out m wI w' fun m' => SlM m' v' 1 (endB p).length (bs (endB p)) := by
  have st := St.start him
  obtain ⟨sv, rfl, hs, hI, hV⟩ := hp
  refine ret_of Try.call82 Try.func82 rfl Try.ntmps82 Try.results82 rfl ?_
  refine wc_seq ?_
  refine wc_region ?_
  refine wl_box (v := .agg (prC sv p.E p.I p.V)) rfl st rfl ?_
  intro b1 w st
  refine wl_val (v_assign' (by conv => (lhs; whnf))) rfl ?_
  refine wl_nil ?_
  refine then_go ?_
  refine wc_seq ?_
  refine wc_seq ?_
  refine wc_region ?_
  refine wl_val (v_fa TF.f40_1 rfl) rfl ?_
  refine wl_val (v_load rfl (st.reads (v := .int .i64 p.E) 0 rfl TF.t3 prC_E)) rfl ?_
  refine wl_val (v_eql rfl rfl) rfl ?_
  refine wl_nil ?_
  refine then_go ?_
  refine wc_if rfl (fun h5 => ?_) (fun h5 => ?_)
  · refine wc_seq ?_
    refine wc_region ?_
    refine wl_val (v_fa TF.f40_2 rfl) rfl ?_
    refine wl_val (v_load rfl (st.reads (v := arr p.I) 0 rfl TF.t23 (prC_I hI))) rfl ?_
    refine wl_val (v_fa TF.f40_3 rfl) rfl ?_
    refine wl_val (v_load rfl (st.reads (v := arr p.V) 0 rfl TF.t23 (prC_V hI hV))) rfl ?_
    refine wl_call rfl (c_leafb st.im hI hV) rfl ?_
    rintro v10 w ⟨t10, m1, hg1, hi1, hb⟩
    have st := st.grown hg1 t10 hi1
    refine wl_val (v_assign' (by conv => (lhs; whnf))) rfl ?_
    refine wl_nil ?_
    refine then_go ?_
    refine wc_ret (then_ret ?_)
    exact ret1 rfl ((st.keepOnly (l := []) (List.nil_sublist _)).out (by rw [endB, if_pos h5]; exact hb))
  · refine wc_skip ?_
    refine then_go ?_
    refine wc_seq ?_
    refine wc_region ?_
    refine wl_call rfl (c_emptyb st.im) rfl ?_
    rintro v11 w ⟨t11, m1, hg1, hi1, hb⟩
    have st := st.grown hg1 t11 hi1
    refine wl_val (v_assign' (by conv => (lhs; whnf))) rfl ?_
    refine wl_nil ?_
    refine then_go ?_
    refine wc_ret ?_
    exact ret1 rfl ((st.keepOnly (l := []) (List.nil_sublist _)).out (by rw [endB, if_neg h5]; exact hb))
end
end Go.Proofs.Ytjjpakjgppmmdaa

/-
  How many bits two digests have in common: the reference's; Under.
-/
namespace Go.Proofs.Ytjjpakjgppmmdaa
open Go Go.RowKit K SH PT

section
variable {P : Program} {r : Fr} {w : World} {ty : TypeId}
theorem v_ltB {T U : TypeId} {x y : Operand} {k : IntKind} {a b : Int} {z : Bool} (hx : ev r x = .int k a) (hy : ev r y = .int k b) (h : z = decide (a < b)) : Val P (.binOp .lss T x y U) ty r w (.bool z) w := by rw [h]; exact v_lss hx hy
end

theorem bitI_lt {d : By} {k : Nat} (h : k < 256) : bitI d k = bit d k := by
  unfold bitI
  rw [if_pos (by omega)]
  simp

section
variable {m : Mem} {wI : World}

theorem c_rcommon {a b : By} (him : Im m wI) (ha : a.length = 32) (hb : b.length = 32) : Ret Try.prog 94 #[arr a, arr b] wI fun v w' => Tch wI w' [] [] ∧ v = .int .i64 (common a b) := by
  have st := St.start him
  refine ret_of Try.call94 Try.func94 rfl Try.ntmps94 Try.results94 rfl ?_
  refine wc_seq ?_
  refine wc_region ?_
  refine wl_box (v := arr a) rfl st rfl ?_
  intro b2 w st
  refine wl_box (v := arr b) rfl st rfl ?_
  intro b3 w st
  refine wl_val (v_assign' (by conv => (lhs; whnf))) rfl ?_
  refine wl_nil ?_
  refine then_go ?_
  refine wc_seq ?_
  refine wc_region ?_
  refine wl_val (v_assign' (by conv => (lhs; whnf))) rfl ?_
  refine wl_nil ?_
  refine then_go ?_
  refine wc_seq ?_
  refine wc_block ?_
  refine wc_loop (S := Nat) (fun q r w' => ∃ (i : Nat), q + i = 256 ∧ r 2 = .pointer (some ⟨b2, 0, none⟩) ∧ r 3 = .pointer (some ⟨b3, 0, none⟩) ∧ r 5 = .int .i64 i ∧ comF a b q i = common a b ∧ St m m [] wI w' [K.blk b3 (arr b).cells 23, K.blk b2 (arr a).cells 23]) id 256 ⟨0, rfl, rfl, rfl, rfl, rfl, st⟩ ?_
  rintro q r w2 ⟨i, hqi, g2, g3, g5, hc, st⟩
  refine wc_o 2 g2 (wc_o 3 g3 (wc_o 5 g5 ?_))
  refine wc_seq ?_
  refine wc_seq ?_
  by_cases hi : i < 256
  · refine wc_draw TF.mixed ?_
    have st := st.pure (touch_drew _)
    refine fl_val 0 rfl (fun _ => (v_move' (by conv => (lhs; whnf)))) rfl (by kernel_rfl) ?_
    refine fl_val 1 rfl (fun _ => (v_ltB (z := true) rfl rfl (decide_eq_true (by omega)).symm)) rfl (by kernel_rfl) ?_
    refine fl_val 2 rfl (fun _ => (v_move' (by conv => (lhs; whnf)))) rfl (by kernel_rfl) ?_
    refine fl_ond 3 rfl rfl rfl rfl (v_load rfl (st.reads (v := arr a) 1 rfl TF.t23 (getV_all (by rw [size_arr, ha])))) rfl (by kernel_rfl) ?_
    refine fl_on 4 rfl rfl rfl rfl (fun _ => (v_move' (by conv => (lhs; whnf)))) rfl (by kernel_rfl) ?_
    refine fl_ond 6 rfl rfl rfl rfl (v_load rfl (st.reads (v := arr b) 0 rfl TF.t23 (getV_all (by rw [size_arr, hb])))) rfl (by kernel_rfl) ?_
    refine fl_on 7 rfl rfl rfl rfl (fun _ => (v_move' (by conv => (lhs; whnf)))) rfl (by kernel_rfl) ?_
    refine fl_eff1 5 [7, 1, 0] [6] (by kernel_rfl) ⟨obl_on rfl rfl rfl rfl rfl (v_load rfl (st.reads (v := arr b) 0 rfl TF.t23 (getV_all (by rw [size_arr, hb])))), obl_on rfl rfl rfl rfl rfl (v_load rfl (st.reads (v := arr a) 1 rfl TF.t23 (getV_all (by rw [size_arr, ha])))), trivial⟩ rfl ?_
    refine wl_on rfl rfl ?_
    refine wl_call rfl (c_rbit st.im ha) rfl ?_
    rintro v11 w ⟨t11, rfl⟩
    have st := st.pure t11
    rw [bitI_lt hi]
    refine wl_nil ⟨rfl, ?_⟩
    refine fl_eff1 8 [1, 0] [] (by kernel_rfl) ⟨obl_on rfl rfl rfl rfl rfl (v_load rfl (st.reads (v := arr b) 0 rfl TF.t23 (getV_all (by rw [size_arr, hb])))), trivial⟩ rfl ?_
    refine wl_on rfl rfl ?_
    refine wl_call rfl (c_rbit st.im hb) rfl ?_
    rintro v14 w ⟨t14, rfl⟩
    have st := st.pure t14
    rw [bitI_lt hi]
    refine wl_nil ⟨rfl, ?_⟩
    refine fl_on 9 rfl rfl rfl rfl (fun _ => (v_eqb Try.underlying4 rfl rfl)) rfl (by kernel_rfl) ?_
    refine fl_val 10 rfl (fun _ => (v_pick rfl)) rfl (by kernel_rfl) ?_
    refine fl_nil (by kernel_rfl) trivial ?_
    refine then_go ?_
    refine wc_cond rfl (fun h16 => ?_) (fun h16 => ?_)
    · refine wc_skip ?_
      refine then_go ?_
      refine wc_block ?_
      obtain ⟨q', rfl⟩ : ∃ q', q = q' + 1 := ⟨q - 1, by omega⟩
      rw [comF, if_pos (by simpa using (eq_of_beq h16).symm)] at hc
      refine wc_region ?_
      refine wl_val (v_move' (by conv => (lhs; whnf))) rfl ?_
      refine wl_val (v_add' rfl rfl rfl (by first | omega | (dsimp only at *; omega)) (by first | omega | (dsimp only at *; omega))) rfl ?_
      refine wl_val (v_assign' (by conv => (lhs; whnf))) rfl ?_
      refine wl_nil ?_
      refine block_go (then_go ?_)
      exact ⟨q', by simp, i + 1, by omega, rfl, rfl, rfl, hc, st⟩
    · refine wc_exit (then_exit (then_exit (block_hit ?_)))
      refine then_go ?_
      refine wc_seq ?_
      refine wc_region ?_
      refine wl_val (v_move' (by conv => (lhs; whnf))) rfl ?_
      refine wl_val (v_assign' (by conv => (lhs; whnf))) rfl ?_
      refine wl_nil ?_
      refine then_go ?_
      refine wc_ret ?_
      obtain ⟨q', rfl⟩ : ∃ q', q = q' + 1 := ⟨q - 1, by omega⟩
      rw [comF, if_neg (fun e => by rw [e] at h16; simp at h16)] at hc
      exact ret1 rfl ⟨(st.keepOnly (l := []) (List.nil_sublist _)).touch, by rw [← hc]; rfl⟩
  · refine wc_draw TF.mixed ?_
    have st := st.pure (touch_drew _)
    refine fl_val 0 rfl (fun _ => (v_move' (by conv => (lhs; whnf)))) rfl (by kernel_rfl) ?_
    refine fl_val 1 rfl (fun _ => (v_ltB (z := false) rfl rfl (decide_eq_false (by omega)).symm)) rfl (by kernel_rfl) ?_
    refine fl_val 2 rfl (fun _ => (v_move' (by conv => (lhs; whnf)))) rfl (by kernel_rfl) ?_
    refine fl_offd 3 rfl rfl rfl rfl rfl rfl (by kernel_rfl) ?_
    refine fl_off 4 rfl rfl rfl rfl rfl rfl (by kernel_rfl) ?_
    refine fl_offd 6 rfl rfl rfl rfl rfl rfl (by kernel_rfl) ?_
    refine fl_off 7 rfl rfl rfl rfl rfl rfl (by kernel_rfl) ?_
    refine fl_eff1 5 [7, 1, 0] [6] (by kernel_rfl) ⟨obl_off rfl rfl rfl rfl rfl rfl, obl_off rfl rfl rfl rfl rfl rfl, trivial⟩ rfl ?_
    refine wl_off rfl rfl rfl rfl ?_
    refine wl_nil ⟨rfl, ?_⟩
    refine fl_eff1 8 [1, 0] [] (by kernel_rfl) ⟨obl_off rfl rfl rfl rfl rfl rfl, trivial⟩ rfl ?_
    refine wl_off rfl rfl rfl rfl ?_
    refine wl_nil ⟨rfl, ?_⟩
    refine fl_off 9 rfl rfl rfl rfl rfl rfl (by kernel_rfl) ?_
    refine fl_val 10 rfl (fun _ => (v_pick rfl)) rfl (by kernel_rfl) ?_
    refine fl_nil (by kernel_rfl) trivial ?_
    refine then_go ?_
    refine wc_false rfl ?_
    refine wc_exit (then_exit (then_exit (block_hit ?_)))
    refine then_go ?_
    refine wc_seq ?_
    refine wc_region ?_
    refine wl_val (v_move' (by conv => (lhs; whnf))) rfl ?_
    refine wl_val (v_assign' (by conv => (lhs; whnf))) rfl ?_
    refine wl_nil ?_
    refine then_go ?_
    refine wc_ret ?_
    have hq0 : q = 0 := by omega
    subst hq0
    rw [comF] at hc
    exact ret1 rfl ⟨(st.keepOnly (l := []) (List.nil_sublist _)).touch, by rw [← hc]; rfl⟩

theorem c_under {a b : By} {n : Int} (him : Im m wI) (ha : a.length = 32) (hb : b.length = 32) : Ret Try.prog 75 #[arr a, arr b, .int .i64 n] wI fun v w' => Tch wI w' [] [] ∧ v = .bool (decide (n ≤ (common a b : Int))) := by
  have st := St.start him
  refine ret_of Try.call75 Try.func75 rfl Try.ntmps75 Try.results75 rfl ?_
  refine wc_seq ?_
  refine wc_region ?_
  refine wl_box (v := arr a) rfl st rfl ?_
  intro b3 w st
  refine wl_box (v := arr b) rfl st rfl ?_
  intro b4 w st
  refine wl_val (v_assign' (by conv => (lhs; whnf))) rfl ?_
  refine wl_nil ?_
  refine then_go ?_
  refine wc_seq ?_
  refine wc_region ?_
  refine wl_val (v_load rfl (st.reads (v := arr a) 1 rfl TF.t23 (getV_all (by rw [size_arr, ha])))) rfl ?_
  refine wl_val (v_load rfl (st.reads (v := arr b) 0 rfl TF.t23 (getV_all (by rw [size_arr, hb])))) rfl ?_
  refine wl_call rfl (c_common st.im ha hb) rfl ?_
  rintro v9 w ⟨t9, rfl⟩
  have st := st.pure t9
  refine wl_val (v_move' (by conv => (lhs; whnf))) rfl ?_
  refine wl_val (v_geq rfl rfl) rfl ?_
  refine wl_val (v_assign' (by conv => (lhs; whnf))) rfl ?_
  refine wl_nil ?_
  refine then_go ?_
  refine wc_ret ?_
  exact ret1 rfl ⟨(st.keepOnly (l := []) (List.nil_sublist _)).touch, rfl⟩

theorem c_runder {a b : By} {n : Int} (him : Im m wI) (ha : a.length = 32) (hb : b.length = 32) : Ret Try.prog 78 #[arr a, arr b, .int .i64 n] wI fun v w' => Tch wI w' [] [] ∧ v = .bool (decide (n ≤ (common a b : Int))) := by
  have st := St.start him
  refine ret_of Try.call78 Try.func78 rfl Try.ntmps78 Try.results78 rfl ?_
  refine wc_seq ?_
  refine wc_region ?_
  refine wl_box (v := arr a) rfl st rfl ?_
  intro b3 w st
  refine wl_box (v := arr b) rfl st rfl ?_
  intro b4 w st
  refine wl_val (v_assign' (by conv => (lhs; whnf))) rfl ?_
  refine wl_nil ?_
  refine then_go ?_
  refine wc_seq ?_
  refine wc_region ?_
  refine wl_val (v_load rfl (st.reads (v := arr a) 1 rfl TF.t23 (getV_all (by rw [size_arr, ha])))) rfl ?_
  refine wl_val (v_load rfl (st.reads (v := arr b) 0 rfl TF.t23 (getV_all (by rw [size_arr, hb])))) rfl ?_
  refine wl_call rfl (c_rcommon st.im ha hb) rfl ?_
  rintro v9 w ⟨t9, rfl⟩
  have st := st.pure t9
  refine wl_val (v_move' (by conv => (lhs; whnf))) rfl ?_
  refine wl_val (v_geq rfl rfl) rfl ?_
  refine wl_val (v_assign' (by conv => (lhs; whnf))) rfl ?_
  refine wl_nil ?_
  refine then_go ?_
  refine wc_ret ?_
  exact ret1 rfl ⟨(st.keepOnly (l := []) (List.nil_sublist _)).touch, rfl⟩
end
end Go.Proofs.Ytjjpakjgppmmdaa

/-
  A list of texts turned about; what is hashed along a way: the program's.
-/
namespace Go.Proofs.Ytjjpakjgppmmdaa
open Go Go.RowKit K SH PT

def revK (xs : List Value) (k : Nat) : List Value := (List.range xs.length).map fun j => if j < k ∨ xs.length - k ≤ j then xs.getD (xs.length - 1 - j) undef else xs.getD j undef

theorem length_revK {xs : List Value} {k : Nat} : (revK xs k).length = xs.length := by simp [revK]
theorem get_revK {xs : List Value} {k j : Nat} (h : j < xs.length) : (revK xs k)[j]? = some (if j < k ∨ xs.length - k ≤ j then xs.getD (xs.length - 1 - j) undef else xs.getD j undef) := by
  simp [revK, h]
theorem revK_zero {xs : List Value} : revK xs 0 = xs := by
  refine List.ext_getElem? fun j => ?_
  by_cases h : j < xs.length
  · rw [get_revK h, if_neg (by omega)]
    simp [List.getD, h]
  · rw [List.getElem?_eq_none (by rw [length_revK]; omega), List.getElem?_eq_none (by omega)]
theorem revK_end {xs : List Value} {k : Nat} (hk : xs.length ≤ 2 * k + 1) : revK xs k = xs.reverse := by
  refine List.ext_getElem? fun j => ?_
  by_cases h : j < xs.length
  · rw [get_revK h, List.getElem?_reverse h]
    by_cases hc : j < k ∨ xs.length - k ≤ j
    · rw [if_pos hc]
      simp [List.getD, show xs.length - 1 - j < xs.length by omega]
    · rw [if_neg hc, show xs.length - 1 - j = j by omega]
      simp [List.getD, h]
  · rw [List.getElem?_eq_none (by rw [length_revK]; omega), List.getElem?_eq_none (by simp; omega)]
theorem revK_step {xs sp : List Value} {k : Nat} (hk : k < xs.length - 1 - k) :
    ((revK xs k ++ sp).toArray.setIfInBounds k (xs.getD (xs.length - 1 - k) undef)).setIfInBounds (xs.length - 1 - k) (xs.getD k undef) = (revK xs (k + 1) ++ sp).toArray := by
  apply Array.ext'
  simp only [Array.toList_setIfInBounds]
  refine List.ext_getElem? fun j => ?_
  have hl : (revK xs k ++ sp).length = xs.length + sp.length := by rw [List.length_append, length_revK]
  by_cases h1 : j = xs.length - 1 - k
  · subst h1
    rw [List.getElem?_set_self (by simp only [List.length_set]; omega), List.getElem?_append_left (by rw [length_revK]; omega), get_revK (by omega), if_pos (by omega), show xs.length - 1 - (xs.length - 1 - k) = k by omega]
  · rw [List.getElem?_set_ne (by omega)]
    by_cases h2 : j = k
    · subst h2
      rw [List.getElem?_set_self (by omega), List.getElem?_append_left (by rw [length_revK]; omega), get_revK (by omega), if_pos (by omega)]
    · rw [List.getElem?_set_ne (by omega)]
      by_cases h3 : j < xs.length
      · rw [List.getElem?_append_left (by rw [length_revK]; omega), List.getElem?_append_left (by rw [length_revK]; omega), get_revK h3, get_revK h3]
        by_cases h4 : j < k ∨ xs.length - k ≤ j
        · rw [if_pos h4, if_pos (by omega)]
        · rw [if_neg h4, if_neg (by omega)]
      · rw [List.getElem?_append_right (by rw [length_revK]; omega), List.getElem?_append_right (by rw [length_revK]; omega), length_revK, length_revK]

section
variable {m : Mem} {wI : World}

theorem c_reverse {g cap : Nat} {xs sp : List Value} (him : Im m wI) (hE : (K.blk g (xs ++ sp).toArray 41).holds wI) (hm : m g = none) (h1 : ∀ u ∈ xs, u.oneCell' = true) (hn : xs.length ≤ 1000000) :
    Ret Try.prog 85 #[.slice (some ⟨g, 0, none⟩) xs.length cap] wI fun _ w' => Tch wI w' [g] [g] ∧ (K.blk g (xs.reverse ++ sp).toArray 41).holds w' := by
  have st := St.startE him hE (by simpa [K.blk] using hm)
  refine ret_of Try.call85 Try.func85 rfl Try.ntmps85 Try.results85 rfl ?_
  refine wc_seq ?_
  refine wc_region ?_
  refine wl_val (v_move' (by conv => (lhs; whnf))) rfl ?_
  refine wl_val (v_len_s Try.underlying102 rfl) rfl ?_
  refine wl_val (v_sub' (c := (xs.length : Int) - 1) rfl rfl rfl (by omega) (by omega)) rfl ?_
  refine wl_val (v_assign' (by conv => (lhs; whnf))) rfl ?_
  refine wl_val (v_assign' (by conv => (lhs; whnf))) rfl ?_
  refine wl_nil ?_
  refine then_go ?_
  refine wc_block ?_
  refine wc_loop (S := Nat) (fun q r w' => ∃ (k : Nat), q + k = xs.length ∧ r 0 = .slice (some ⟨g, 0, none⟩) xs.length cap ∧ r 2 = .int .i64 k ∧ r 3 = .int .i64 ((xs.length : Int) - 1 - k) ∧ St m m [g] wI w' [K.blk g (revK xs k ++ sp).toArray 41]) id xs.length ⟨0, by omega, rfl, rfl, by simp; rfl, by rw [revK_zero]; exact st⟩ ?_
  rintro q r w2 ⟨k, hqk, g0, g2, g3, st⟩
  refine wc_o 0 g0 (wc_o 2 g2 (wc_o 3 g3 ?_))
  refine wc_seq ?_
  refine wc_seq ?_
  refine wc_region ?_
  refine wl_val (v_move' (by conv => (lhs; whnf))) rfl ?_
  refine wl_val (v_move' (by conv => (lhs; whnf))) rfl ?_
  refine wl_val (v_lss rfl rfl) rfl ?_
  refine wl_nil ?_
  refine then_go ?_
  refine wc_if rfl (fun h9 => ?_) (fun h9 => ?_)
  · refine wc_skip ?_
    refine then_go ?_
    refine wc_seq ?_
    refine wc_block ?_
    have hk : k < xs.length - 1 - k := by omega
    have hl : (revK xs k ++ sp).length = xs.length + sp.length := by rw [List.length_append, length_revK]
    have ga : (revK xs k ++ sp)[xs.length - 1 - k]? = some (xs.getD (xs.length - 1 - k) undef) := by rw [List.getElem?_append_left (by rw [length_revK]; omega), get_revK (by omega), if_neg (by omega)]
    have gb : (revK xs k ++ sp)[k]? = some (xs.getD k undef) := by rw [List.getElem?_append_left (by rw [length_revK]; omega), get_revK (by omega), if_neg (by omega)]
    have oa : (xs.getD (xs.length - 1 - k) undef).oneCell' = true := h1 _ (by simp only [List.getD, List.getElem?_eq_getElem (show xs.length - 1 - k < xs.length by omega), Option.getD_some]; exact List.getElem_mem _)
    have ob : (xs.getD k undef).oneCell' = true := h1 _ (by simp only [List.getD, List.getElem?_eq_getElem (show k < xs.length by omega), Option.getD_some]; exact List.getElem_mem _)
    refine wc_draw TF.mixed ?_
    have st := st.pure (touch_drew _)
    refine fl_val 0 rfl (fun _ => (v_move' (by conv => (lhs; whnf)))) rfl (by kernel_rfl) ?_
    refine fl_val 1 rfl (fun _ => (v_move' (by conv => (lhs; whnf)))) rfl (by kernel_rfl) ?_
    refine fl_val 2 rfl (fun _ => (v_move' (by conv => (lhs; whnf)))) rfl (by kernel_rfl) ?_
    refine fl_val 3 rfl (fun _ => (v_move' (by conv => (lhs; whnf)))) rfl (by kernel_rfl) ?_
    refine fl_val 4 rfl (fun _ => (v_move' (by conv => (lhs; whnf)))) rfl (by kernel_rfl) ?_
    refine fl_val 5 rfl (fun _ => (v_move' (by conv => (lhs; whnf)))) rfl (by kernel_rfl) ?_
    refine fl_val 6 rfl (fun _ => (v_ias (xs.length - 1 - k) Try.underlying102 TF.t41 rfl rfl (by first | rfl | omega) (by first | omega | (dsimp only at *; omega)))) rfl (by kernel_rfl) ?_
    refine fl_ld 7 rfl (v_load rfl (st.reads (b := g) (c := (revK xs k ++ sp).toArray) (v := xs.getD (xs.length - 1 - k) undef) 0 rfl TF.t41 (by unfold getV; rw [if_neg (by simp), show 0 + (xs.length - 1 - k) * 1 = xs.length - 1 - k by omega]; exact ga))) (by kernel_rfl) ?_
    refine fl_val 8 rfl (fun _ => (v_move' (by conv => (lhs; whnf)))) rfl (by kernel_rfl) ?_
    refine fl_val 9 rfl (fun _ => (v_move' (by conv => (lhs; whnf)))) rfl (by kernel_rfl) ?_
    refine fl_val 10 rfl (fun _ => (v_ias k Try.underlying102 TF.t41 rfl rfl (by first | rfl | omega) (by first | omega | (dsimp only at *; omega)))) rfl (by kernel_rfl) ?_
    refine fl_ld 11 rfl (v_load rfl (st.reads (b := g) (c := (revK xs k ++ sp).toArray) (v := xs.getD k undef) 0 rfl TF.t41 (by unfold getV; rw [if_neg (by simp), show 0 + k * 1 = k by omega]; exact gb))) (by kernel_rfl) ?_
    refine fl_val 12 rfl (fun _ => (v_ias k Try.underlying102 TF.t41 rfl rfl (by first | rfl | omega) (by first | omega | (dsimp only at *; omega)))) rfl (by kernel_rfl) ?_
    refine fl_eff1 13 [10, 9, 8, 3, 2] [] (by kernel_rfl) ⟨obl_ld rfl rfl rfl (v_load rfl (st.reads (b := g) (c := (revK xs k ++ sp).toArray) (v := xs.getD k undef) 0 rfl TF.t41 (by unfold getV; rw [if_neg (by simp), show 0 + k * 1 = k by omega]; exact gb))), obl_ld rfl rfl rfl (v_load rfl (st.reads (b := g) (c := (revK xs k ++ sp).toArray) (v := xs.getD (xs.length - 1 - k) undef) 0 rfl TF.t41 (by unfold getV; rw [if_neg (by simp), show 0 + (xs.length - 1 - k) * 1 = xs.length - 1 - k by omega]; exact ga))), trivial⟩ rfl ?_
    refine wl_store1 (off := 0 + k * 1) 0 st rfl TF.t41 rfl rfl oa (by simp only [List.size_toArray]; omega) ?_
    intro w st
    refine wl_nil ⟨rfl, ?_⟩
    refine fl_val 14 rfl (fun _ => (v_ias (xs.length - 1 - k) Try.underlying102 TF.t41 rfl rfl (by first | rfl | omega) (by first | omega | (dsimp only at *; omega)))) rfl (by kernel_rfl) ?_
    refine fl_eff1 15 [] [] (by kernel_rfl) trivial rfl ?_
    refine wl_store1 (off := 0 + (xs.length - 1 - k) * 1) 0 st rfl TF.t41 rfl rfl ob (by simp only [Array.size_setIfInBounds, List.size_toArray]; omega) ?_
    intro w st
    rw [show 0 + k * 1 = k by omega, show 0 + (xs.length - 1 - k) * 1 = xs.length - 1 - k by omega] at st
    have st : St m m [g] wI w [K.blk g (revK xs (k + 1) ++ sp).toArray 41] := by rw [← revK_step hk]; exact st
    refine wl_nil ⟨rfl, ?_⟩
    refine fl_nil (by kernel_rfl) trivial ?_
    refine block_go (then_go ?_)
    refine wc_region ?_
    refine wl_val (v_move' (by conv => (lhs; whnf))) rfl ?_
    refine wl_val (v_add' (c := ((k + 1 : Nat) : Int)) rfl rfl (by omega) (by omega) (by omega)) rfl ?_
    refine wl_val (v_move' (by conv => (lhs; whnf))) rfl ?_
    refine wl_val (v_sub' (c := (xs.length : Int) - 1 - ((k + 1 : Nat) : Int)) rfl rfl (by omega) (by omega) (by omega)) rfl ?_
    refine wl_val (v_assign' (by conv => (lhs; whnf))) rfl ?_
    refine wl_val (v_assign' (by conv => (lhs; whnf))) rfl ?_
    refine wl_nil ?_
    refine then_go ?_
    exact ⟨q - 1, by simp; omega, k + 1, by omega, rfl, rfl, rfl, st⟩
  · refine wc_exit (then_exit (then_exit (block_hit ?_)))
    refine end0 ?_
    have hf := St.finish (Es := []) (l := [_]) st
    rw [revK_end (by omega)] at hf
    exact ⟨⟨hf.1.os, hf.1.tape, hf.1.output, hf.1.size, hf.1.block, fun j hj => hf.1.out j (by simpa [joinE, K.blk] using hj)⟩, by have := hf.2; simpa [joinE] using this⟩
end
end Go.Proofs.Ytjjpakjgppmmdaa
