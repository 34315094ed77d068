/-
  Proved here: for every input of bulk at most 1048576 the law StoreBatches returns true, and what it was handed reads behind the call as before. No condition.
-/
import Derived.Test.YtladpaehbolghaaGreatRows
import Derived.JoinedCond
import Derived.Test.YtladpaehbolghaaGreatBatches4

namespace Go.Proofs.YtladpaehbolghaaGreat
open Go Go.RowKit K SH GC JR OS
open DK hiding By
theorem bat_get {m : Mem} {v : Value} {o : Option (List Ac)} (h : BatOut m v o) : ∃ lv L, v = .tuple #[lv, .int .i64 (if o.isSome = true then 0 else 3 : Nat)] ∧ AcsM m lv L ∧ L.map (·.1) = o.getD [] := by
 cases o with
 | none => exact ⟨_, [], h, ⟨⟨SlM.nil, by simp⟩, by simp⟩, rfl⟩
 | some M =>
  obtain ⟨lv, L, h1, h2, h3⟩ := h
  exact ⟨lv, L, h1, h2, h3⟩
theorem bulk_ok : ∀ {L : List Ac}, (∀ a ∈ L, actOk a) → bulkA L ≤ L.length * 1048640
 | [], _ => by simp [bulkA]
 | a :: L, h => by
  have h1 := h a List.mem_cons_self
  have h2 := bulk_ok (L := L) fun b hb => h b (List.mem_cons_of_mem _ hb)
  rw [bulk_cons, List.length_cons]
  unfold actOk at h1
  omega
section
variable {m : Mem} {wI : World}
theorem c_storeBatches {lv bv : Value} {A : List AcT} {b : By} (him : Im m wI) (hA : AcsM m lv A) (hs : ShortA A) (hb : SlM m bv 1 b.length (bs b)) (hbl : b.length ≤ 1099511627776) :
  Ret Tryz.prog 3 #[lv, bv] wI fun v w' => Tch wI w' [] [] ∧ v = .bool true := by
 have st := St.start him
 refine ret_of Tryz.call3 Tryz.func3 rfl Tryz.ntmps3 Tryz.results3 rfl ?_
 refine wc_seq ?_
 refine wc_region ?_
 refine wl_val (v_assign' (by conv => (lhs; whnf))) rfl ?_
 refine wl_nil ?_
 refine then_go ?_
 refine wc_seq ?_
 refine wc_seq ?_
 refine wc_region ?_
 refine wl_val (v_move' (by conv => (lhs; whnf))) rfl ?_
 refine wl_call rfl (c_light st.im hA hs) rfl ?_
 rintro v13 w ⟨t13, cl, rfl, hlt⟩
 have st := st.pure t13
 refine wl_val (v_not rfl) rfl ?_
 refine wl_nil ?_
 refine then_go ?_
 refine wc_cond rfl (fun h14 => ?_) (fun h14 => ?_)
 ·refine wc_seq ?_
  refine wc_region ?_
  refine wl_call rfl (c_works15 st) rfl ?_
  rintro v15 w ⟨⟨m1, hmm1, st⟩, rfl⟩
  refine wl_val (v_assign' (by conv => (lhs; whnf))) rfl ?_
  refine wl_nil ?_
  refine then_go ?_
  refine wc_ret (then_ret ?_)
  exact ret1 rfl ⟨st.touch, rfl⟩
 ·refine wc_skip ?_
  refine then_go ?_
  refine wc_seq ?_
  obtain ⟨hl60, hbk⟩ := hlt (by simpa using h14)
  refine wc_region ?_
  refine wl_val (v_move' (by conv => (lhs; whnf))) rfl ?_
  refine wl_call rfl (c_chk st.im hA (by omega)) rfl ?_
  rintro v17 w ⟨t17, rfl⟩
  have st := st.pure t17
  refine wl_val (v_assign' (by conv => (lhs; whnf))) rfl ?_
  refine wl_nil ?_
  refine then_go ?_
  refine wc_seq ?_
  refine wc_region ?_
  refine wl_val (v_move' (by conv => (lhs; whnf))) rfl ?_
  refine wl_call rfl (c_readB st hb hbl) rfl ?_
  rintro v20 w ⟨m1, hmm1, ho1, st⟩
  obtain ⟨xv, X, rfl, hX, hXb⟩ := bat_get ho1
  refine wl_val (v_move' (by conv => (lhs; whnf))) rfl ?_
  refine wl_val (v_extract rfl rfl) rfl ?_
  refine wl_val (v_extract rfl rfl) rfl ?_
  refine wl_val (v_assign' (by conv => (lhs; whnf))) rfl ?_
  refine wl_val (v_assign' (by conv => (lhs; whnf))) rfl ?_
  refine wl_nil ?_
  refine then_go ?_
  refine wc_seq ?_
  refine wc_region ?_
  refine wl_val (v_move' (by conv => (lhs; whnf))) rfl ?_
  refine wl_call rfl (c_rreadB st.im (hb.mono hmm1) hbl) rfl ?_
  rintro v25 w ⟨t25, m2, hg2, hi2, ho2⟩
  have st := st.grown hg2 t25 hi2
  obtain ⟨yv, Y, rfl, hY, hYb⟩ := bat_get ho2
  have hX := hX.mono hg2.le
  have hmm2 : ∀ k o, m k = some o → m2 k = some o := fun k o h => hg2.le k o (hmm1 k o h)
  have hXl : X.length ≤ 4096 ∧ bulkA (X.map (·.1)) ≤ 10000000000 := by
   rw [hXb, ← List.length_map (f := (·.1)), hXb]
   cases h : batR b with
   | none => exact ⟨by simp, by simp [bulkA]⟩
   | some Z =>
    have hz := (batR_eq h).2
    have := bulk_ok hz.2.1
    have := hz.1
    exact ⟨hz.1, by show bulkA Z ≤ _; omega⟩
  refine wl_val (v_move' (by conv => (lhs; whnf))) rfl ?_
  refine wl_val (v_extract rfl rfl) rfl ?_
  refine wl_val (v_extract rfl rfl) rfl ?_
  refine wl_val (v_assign' (by conv => (lhs; whnf))) rfl ?_
  refine wl_val (v_assign' (by conv => (lhs; whnf))) rfl ?_
  refine wl_nil ?_
  refine then_go ?_
  refine wc_seq ?_
  refine wc_seq ?_
  refine wc_region ?_
  refine wl_val (v_move' (by conv => (lhs; whnf))) rfl ?_
  refine wl_val (v_move' (by conv => (lhs; whnf))) rfl ?_
  refine wl_call rfl (c_rchk st.im (hA.mono hmm2) (by omega)) rfl ?_
  rintro v30 w ⟨t30, rfl⟩
  have st := st.pure t30
  refine wl_val (v_neqF rfl rfl rfl) rfl ?_
  refine wl_val (v_move' (by conv => (lhs; whnf))) rfl ?_
  refine wl_on rfl rfl ?_
  refine wl_val (v_move' (by conv => (lhs; whnf))) rfl ?_
  refine wl_on rfl rfl ?_
  refine wl_val (v_move' (by conv => (lhs; whnf))) rfl ?_
  refine wl_on rfl rfl ?_
  refine wl_val (v_neqF rfl rfl rfl) rfl ?_
  refine wl_val (v_pick rfl) rfl ?_
  refine wl_val (v_move' (by conv => (lhs; whnf))) rfl ?_
  refine wl_on rfl rfl ?_
  refine wl_val (v_move' (by conv => (lhs; whnf))) rfl ?_
  refine wl_on rfl rfl ?_
  refine wl_val (v_move' (by conv => (lhs; whnf))) rfl ?_
  refine wl_on rfl rfl ?_
  refine wl_call rfl (c_sameacts st.im hX hY (by rw [hXb, hYb]) (by omega)) rfl ?_
  rintro v40 w ⟨t40, rfl⟩
  have st := st.pure t40
  refine wl_on rfl rfl ?_
  refine wl_val (v_not rfl) rfl ?_
  refine wl_val (v_pick rfl) rfl ?_
  refine wl_val (v_move' (by conv => (lhs; whnf))) rfl ?_
  refine wl_on rfl rfl ?_
  refine wl_val (v_move' (by conv => (lhs; whnf))) rfl ?_
  refine wl_on rfl rfl ?_
  refine wl_call rfl (c_batch st (hA.mono hmm2) (by omega) (by omega)) rfl ?_
  rintro v45 w ⟨m3, hmm3, st⟩
  obtain ⟨m4, hg4, hm4, st2⟩ := st.freezeR (i := 0) rfl (by simp)
  have hz := row_SlM (m := m4) (st.at (i := 0) rfl) hm4
  have st : St m m4 [] wI w [] := st2
  have hmm4 : ∀ k o, m k = some o → m4 k = some o := fun k o h => hg4.le k o (hmm3 k o (hmm2 k o h))
  have hX : AcsM m4 xv X := hX.mono fun k o h => hg4.le k o (hmm3 k o h)
  refine wl_on rfl rfl ?_
  refine wl_val (v_move' (by conv => (lhs; whnf))) rfl ?_
  refine wl_on rfl rfl ?_
  refine wl_call rfl (c_rbatch st.im (hA.mono hmm4) (by omega) (by omega)) rfl ?_
  rintro v47 w ⟨t47, m5, hg5, hi5, hz2⟩
  have st := st.grown hg5 t47 hi5
  refine wl_on rfl rfl ?_
  refine wl_call rfl (c_same17 st.im (hz.mono hg5.le) hz2) rfl ?_
  rintro v48 w ⟨t48, rfl⟩
  have st := st.pure t48
  rw [decide_eq_true rfl]
  refine wl_on rfl rfl ?_
  refine wl_val (v_not rfl) rfl ?_
  refine wl_val (v_pick rfl) rfl ?_
  refine wl_nil ?_
  refine then_go ?_
  refine wc_false rfl ?_
  refine wc_skip ?_
  refine then_go ?_
  refine wc_cut (fun r w' => ∃ m8, r 0 = lv ∧ r 5 = .int .i64 (chkL (A.map (·.1)) : Nat) ∧ (∀ k o, m k = some o → m8 k = some o) ∧ St m m8 [] wI w' []) ?_ ?_
  ·refine wc_seq ?_
   rcases hbr : batR b with _ | Z
   ·refine wc_region ?_
    refine wl_val (v_move' (by conv => (lhs; whnf))) rfl ?_
    refine wl_val (v_eqlF (by simp) rfl rfl) rfl ?_
    refine wl_val (v_move' (by conv => (lhs; whnf))) rfl ?_
    refine wl_off rfl rfl rfl rfl ?_
    refine wl_off rfl rfl rfl rfl ?_
    refine wl_off rfl rfl rfl rfl ?_
    refine wl_off rfl rfl rfl rfl ?_
    refine wl_off rfl rfl rfl rfl ?_
    refine wl_val (v_pick rfl) rfl ?_
    refine wl_nil ?_
    refine then_go ?_
    refine wc_false rfl ?_
    refine wc_skip ?_
    refine then_go ?_
    exact ⟨m5, rfl, rfl, fun k o h => hg5.le k o (hmm4 k o h), st⟩
   ·refine wc_region ?_
    refine wl_val (v_move' (by conv => (lhs; whnf))) rfl ?_
    refine wl_val (v_eqlT (by simp) rfl rfl) rfl ?_
    refine wl_val (v_move' (by conv => (lhs; whnf))) rfl ?_
    refine wl_on rfl rfl ?_
    refine wl_val (v_move' (by conv => (lhs; whnf))) rfl ?_
    refine wl_on rfl rfl ?_
    refine wl_call rfl (c_batch st (hX.mono hg5.le) (by omega) hXl.2) rfl ?_
    rintro v55 w ⟨m6, hmm6, st⟩
    have hZ : X.map (·.1) = Z := by rw [hXb, hbr]; rfl
    rw [hZ, ← (batR_eq hbr).1] at st
    obtain ⟨m7, hg7, hm7, st2⟩ := st.freezeR (i := 0) rfl (by simp)
    have hz3 := row_SlM (m := m7) (st.at (i := 0) rfl) hm7
    have st : St m m7 [] wI w [] := st2
    have hmm7 : ∀ k o, m4 k = some o → m7 k = some o := fun k o h => hg7.le k o (hmm6 k o (hg5.le k o h))
    refine wl_on rfl rfl ?_
    refine wl_val (v_move' (by conv => (lhs; whnf))) rfl ?_
    refine wl_on rfl rfl ?_
    refine wl_call rfl (c_same17 st.im hz3 (hb.mono fun k o h => hmm7 k o (hmm4 k o h))) rfl ?_
    rintro v57 w ⟨t57, rfl⟩
    have st := st.pure t57
    rw [decide_eq_true rfl]
    refine wl_on rfl rfl ?_
    refine wl_val (v_not rfl) rfl ?_
    refine wl_val (v_pick rfl) rfl ?_
    refine wl_nil ?_
    refine then_go ?_
    refine wc_false rfl ?_
    refine wc_skip ?_
    refine then_go ?_
    exact ⟨m7, rfl, rfl, fun k o h => hmm7 k o (hmm4 k o h), st⟩
  ·clear st
   rintro r w ⟨m8, g0, g5, hmm8, st⟩
   refine wc_o 0 g0 (wc_o 5 g5 ?_)
   refine wc_seq ?_
   refine wc_region ?_
   refine wl_val (v_move' (by conv => (lhs; whnf))) rfl ?_
   refine wl_call rfl (c_batch st (hA.mono hmm8) (by omega) (by omega)) rfl ?_
   rintro v62 w ⟨m9, hmm9, st⟩
   obtain ⟨m10, hg10, hm10, st2⟩ := st.freezeR (i := 0) rfl (by simp)
   have hz9 := row_SlM (m := m10) (st.at (i := 0) rfl) hm10
   have st : St m m10 [] wI w [] := st2
   have hbl9 : (batB (A.map (·.1))).length ≤ 1099511627776 := by
    unfold batB
    rw [List.length_append]
    have h := flat_lenA (L := A.map (·.1)) (by omega)
    have h3 := numB_len10 (n := (A.map (·.1)).length) (by rw [List.length_map]; omega)
    rw [List.length_map] at h h3
    rw [List.length_map]
    omega
   refine wl_call rfl (c_readB st hz9 hbl9) rfl ?_
   rintro v63 w ⟨m11, hmm11, ho11, st⟩
   obtain ⟨zv, Z, rfl, hZ, hZb⟩ := bat_get ho11
   refine wl_val (v_move' (by conv => (lhs; whnf))) rfl ?_
   refine wl_val (v_extract rfl rfl) rfl ?_
   refine wl_val (v_extract rfl rfl) rfl ?_
   refine wl_val (v_assign' (by conv => (lhs; whnf))) rfl ?_
   refine wl_val (v_assign' (by conv => (lhs; whnf))) rfl ?_
   refine wl_nil ?_
   refine then_go ?_
   refine wc_seq ?_
   by_cases hck : chkL (A.map (·.1)) ≠ 0
   ·refine wc_region ?_
    refine wl_val (v_move' (by conv => (lhs; whnf))) rfl ?_
    refine wl_val (v_neqT (by omega) rfl rfl) rfl ?_
    refine wl_val (v_move' (by conv => (lhs; whnf))) rfl ?_
    refine wl_off rfl rfl rfl rfl ?_
    refine wl_off rfl rfl rfl rfl ?_
    refine wl_off rfl rfl rfl rfl ?_
    refine offU rfl rfl rfl ?_
    refine offU rfl rfl rfl ?_
    refine offU rfl rfl rfl ?_
    refine wl_off rfl rfl rfl rfl ?_
    refine wl_val (v_pick rfl) rfl ?_
    refine wl_val (v_move' (by conv => (lhs; whnf))) rfl ?_
    refine wl_on rfl rfl ?_
    refine wl_call rfl (c_works15 st) rfl ?_
    rintro v78 w ⟨⟨m12, hmm12, st⟩, rfl⟩
    refine wl_val (v_pick rfl) rfl ?_
    refine wl_val (v_assign' (by conv => (lhs; whnf))) rfl ?_
    refine wl_nil ?_
    refine then_go ?_
    refine wc_ret ?_
    exact ret1 rfl ⟨st.touch, rfl⟩
   ·have hok : okL (A.map (·.1)) := by
     unfold chkL at hck
     split at hck
     ·assumption
     ·exact (hck (by decide)).elim
    rw [batR_batB hok] at hZb ⊢
    refine wc_region ?_
    refine wl_val (v_move' (by conv => (lhs; whnf))) rfl ?_
    refine wl_val (v_neqF (by omega) rfl rfl) rfl ?_
    refine wl_val (v_move' (by conv => (lhs; whnf))) rfl ?_
    refine wl_on rfl rfl ?_
    refine wl_val (v_move' (by conv => (lhs; whnf))) rfl ?_
    refine wl_on rfl rfl ?_
    refine wl_val (v_eqlT (by simp) rfl rfl) rfl ?_
    refine wl_on rfl rfl ?_
    refine wl_val (v_move' (by conv => (lhs; whnf))) rfl ?_
    refine wl_on rfl rfl ?_
    refine wl_val (v_move' (by conv => (lhs; whnf))) rfl ?_
    refine wl_on rfl rfl ?_
    refine wl_val (v_move' (by conv => (lhs; whnf))) rfl ?_
    refine wl_on rfl rfl ?_
    refine wl_call rfl (c_sameacts st.im hZ (hA.mono fun k o h => hmm11 k o (hg10.le k o (hmm9 k o (hmm8 k o h)))) hZb (by have := congrArg List.length hZb; simp at this; omega)) rfl ?_
    rintro v74 w ⟨t74, rfl⟩
    have st := st.pure t74
    refine wl_on rfl rfl ?_
    refine wl_val (v_pick rfl) rfl ?_
    refine wl_val (v_pick rfl) rfl ?_
    refine wl_val (v_move' (by conv => (lhs; whnf))) rfl ?_
    refine wl_on rfl rfl ?_
    refine wl_call rfl (c_works15 st) rfl ?_
    rintro v78 w ⟨⟨m12, hmm12, st⟩, rfl⟩
    refine wl_val (v_pick rfl) rfl ?_
    refine wl_val (v_assign' (by conv => (lhs; whnf))) rfl ?_
    refine wl_nil ?_
    refine then_go ?_
    refine wc_ret ?_
    exact ret1 rfl ⟨st.touch, rfl⟩
end
end Go.Proofs.YtladpaehbolghaaGreat

namespace Go.Proofs.YtladpaehbolghaaGreat
open Go Go.RowKit Go.ChangeShapes Go.WideShapes K SH GC JR OS
open DK hiding By
section
variable {H : Type} {enc : TypeId × Value → H} {w : World} {sp : Nat → Bool} {held : Bool} {fuel : Nat} {x : DataW H × List MemPlace} {v : Value} {cs : List Value}
theorem trod_strB (h : DataW.trod enc Tryz.prog w 0 sp held fuel 9 cs = some x) : ∃ s : By, cs = [.string (strB s)] ∧ s.length ≤ 9223372036854775807 ∧ s.length ≤ Rows.uptoBulk x.1 := by
 obtain ⟨s, q, hd, hs⟩ := DataW.trod_string Tryz.underlying9 h
 refine ⟨s.data.toList, by rw [q]; rfl, by unfold maxLen at hs; simpa using hs, ?_⟩
 rw [hd]
 simp [Rows.uptoBulk]
theorem trod_ac (h : DataW.trod enc Tryz.prog w 0 sp held fuel 57 cs = some x) : ∃ a : AcT, cs = acP a ∧ AcOk (heapM w) a.1 a.2 ∧ a.1.key.length ≤ Rows.uptoBulk x.1 ∧ a.1.data.length ≤ Rows.uptoBulk x.1 := by
 have hl := trod_len Tryz.underlying57 TF.t57 h
 obtain ⟨_, y0, e0, hy0⟩ := trod_segB TF.f57_0 TF.t9 h
 obtain ⟨_, _, e1⟩ := trod_seg TF.f57_1 TF.t4 h
 obtain ⟨_, y2, e2, hy2⟩ := trod_segB TF.f57_2 TF.t23 h
 match cs, hl with
 | [a, b, c], _ =>
  obtain ⟨k, q0, hk1, hk2⟩ := trod_strB e0
  obtain ⟨s, q1⟩ := trod_bo e1
  obtain ⟨d, hd, hdl⟩ := open_bytesB (v := c) e2
  have q0 : [a] = [.string (strB k)] := q0
  have q1 : [b] = [.bool s] := q1
  rw [List.cons.injEq] at q0 q1
  exact ⟨(⟨k, s, d⟩, c), by rw [q0.1, q1.1]; rfl, ⟨hk1, hd⟩, Nat.le_trans hk2 hy0, Nat.le_trans hdl hy2⟩
theorem open_actsB (h : DataW.trod enc Tryz.prog w 0 sp held fuel 22 [v] = some x) : ∃ A : List AcT, AcsM (heapM w) v A ∧ A.length ≤ Rows.uptoBulk x.1 ∧ ∀ a ∈ A, a.1.key.length ≤ Rows.uptoBulk x.1 ∧ a.1.data.length ≤ Rows.uptoBulk x.1 := by
 obtain ⟨A, h1, h2, h3⟩ := trod_listB (c := acP) (Q := fun a n => AcOk (heapM w) a.1 a.2 ∧ a.1.key.length ≤ n ∧ a.1.data.length ≤ n) Tryz.underlying22 TF.t57 (by decide) (fun h => by obtain ⟨o, q1, q2, q3⟩ := trod_ac h; exact ⟨o, q1, q2, q3⟩) (fun h hle => ⟨h.1, Nat.le_trans h.2.1 hle, Nat.le_trans h.2.2 hle⟩) h
 exact ⟨A, ⟨h1, fun a ha => (h2 a ha).1⟩, h3, fun a ha => (h2 a ha).2⟩
theorem shortA {A : List AcT} {n : Nat} (h1 : A.length ≤ n) (h2 : ∀ a ∈ A, a.1.key.length ≤ n ∧ a.1.data.length ≤ n) (hn : n ≤ 1048576) : ShortA A := ⟨Nat.le_trans h1 hn, fun a ha => ⟨Nat.le_trans (h2 a ha).1 hn, Nat.le_trans (h2 a ha).2 hn⟩⟩
end
end Go.Proofs.YtladpaehbolghaaGreat

namespace Go.Proofs.YtladpaehbolghaaGreat
open Go Go.ChangeShapes Go.WideShapes Go.ChangeAt Go.RowKit K SH GC JR OS
theorem Try.ownoa : ownKnob Tryz.prog.godebug = none := by kernel_rfl
theorem Try.laidOutoa : laidOutB Tryz.prog = true := by kernel_rfl
theorem Try.trodAlloa {H : Type} {enc : TypeId × Value → H} {w : World} {held : Bool} {P : Program} {base : Nat} {spare : Nat → Bool} {t0 t1 : TypeId} {args : Array Value} {ds : List (DataW H)} {ps : List MemPlace} (h : DataW.TrodAll enc P w base spare held [t0, t1] args.toList ds ps) :
  ∃ v0 v1 d0 d1 p0 p1, args = #[v0, v1] ∧ ds = [d0, d1] ∧ ps = p0 ++ p1 ∧ DataW.Trod enc P w base spare held t0 v0 d0 p0 ∧ DataW.Trod enc P w base spare held t1 v1 d1 p1 := by
 obtain ⟨v0, vs0, d0, ds0, p0, q0, hargs, rfl, rfl, hd0, h⟩ := trodAll_cons h
 obtain ⟨v1, vs1, d1, ds1, p1, q1, rfl, rfl, rfl, hd1, h⟩ := trodAll_cons h
 obtain ⟨rfl, rfl, rfl⟩ := trodAll_nil h
 exact ⟨v0, v1, d0, d1, p0, p1, by cases args; simp_all, rfl, by simp, hd0, hd1⟩
set_option maxRecDepth 100000 in
theorem storeBatches_lifted (os : Os) (started : os.Started) (H : Type) (enc : TypeId × Value → H) (Fi : Stop.Interp) :
  ReturnsInHanded {} Tryz.checked os 3 .any ((Rows.OpenSpec.upto Rows.storeBatchesSpec).pre6 enc Tryz.prog Tryz.f3 Rows.storeBatchesUptoRow.domain false) (((Rows.OpenSpec.upto Rows.storeBatchesSpec).at Fi).post enc Tryz.prog Tryz.f3 false true false false) := by
 refine returnsInHanded_of_cond (C := Tryz.checked) (s := (Rows.OpenSpec.upto Rows.storeBatchesSpec)) (k := Rows.uptoSmall) rfl Try.ownoa started (by kernel_rfl) Tryz.func3
  (OpenSpec.witness (enc := enc) (C := Tryz.checked) (s := (Rows.OpenSpec.upto Rows.storeBatchesSpec)) (k := Rows.uptoSmall) rfl false ⟨#[], #[.slice none 0 0, .slice none 0 0], []⟩ 12 (by kernel_rfl) (by kernel_rfl) (by kernel_rfl) (x := ([.nil, .nil], [], [])) (by kernel_rfl) rfl (by kernel_rfl)) ?_
 intro W base args ds gs before hval0 hW _ hk _
 have hval : ∀ (j : Nat) t v, Tryz.f3.params[j]? = some t → args[j]? = some v → Value.okWide Tryz.prog W .any base t v := hval0
 have hW' := hW
 obtain ⟨p, q, hA0, hV, rfl, hfz, hnd⟩ := hW
 have hkb := bulk_of hk
 have hA : DataW.TrodAll enc Tryz.prog W 0 (fun _ => true) true Tryz.f3.params.toList args.toList ds p := hA0
 rw [Tryz.params3] at hA hval
 obtain ⟨v0, v1, d0, d1, p0, p1, rfl, rfl, rfl, h0, h1⟩ := Try.trodAlloa hA
 obtain ⟨fu0, hf0⟩ := h0
 obtain ⟨sa0, sl0, sc0, rfl⟩ := okWide_slice Tryz.underlying22 (hval 0 22 v0 rfl rfl)
 have hb0 := hkb d0 (by simp)
 obtain ⟨l0, hl0, hu0⟩ := open_actsB hf0
 obtain ⟨fu1, hf1⟩ := h1
 obtain ⟨sa1, sl1, sc1, rfl⟩ := okWide_slice Tryz.underlying23 (hval 1 23 v1 rfl rfl)
 have hb1 := hkb d1 (by simp)
 obtain ⟨l1, hl1, hu1⟩ := open_bytesB hf1
 refine Calls.mono (P := Tryz.prog) (c_storeBatches (im_heapM W) hl0 (shortA hu0.1 hu0.2 hb0) hl1 (Nat.le_trans hu1 (Nat.le_trans hb1 (by decide)))).2 fun e W1 ⟨v, he, t, hv⟩ => ?_
 subst hv
 subst he
 exact ⟨_, rfl, post_true Try.laidOutoa (by kernel_rfl) rfl hW' t rfl rfl Tryz.underlying4⟩
theorem storeBatchesUpto_holds : Rows.StoreBatchesUptoSaid :=
 OpenClaim.holds_of_cond 3 Tryz.f3 rfl rfl rfl rfl rfl rfl rfl ⟨rfl, rfl, rfl, rfl, rfl⟩ rfl rfl rfl rfl rfl (by kernel_rfl) Tryz.func3 (by kernel_rfl)
  (of_decide_eq_true (by kernel_rfl)) (by unfold Func.isWrapper; first | (rw [if_pos (by decide +kernel)]; kernel_rfl) | (rw [if_neg (by decide +kernel)]; exact ⟨rfl, rfl⟩))
  (fun os started H enc _ Fi => storeBatches_lifted os started H enc Fi)
end Go.Proofs.YtladpaehbolghaaGreat
