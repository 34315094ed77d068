/-
  Lists of acts, and the law DiskDoes.
-/
import Derived.Test.YtekhcjgmgflmkaaDk
namespace Go.Proofs.Ytekhcjgmgflmkaa
open Go Go.RowKit K DK

structure Act where
  kd : Int
  i : Int
  N : Int
  c : UInt8
  keep : List Int

def actC (x : Act × Value) : List Value := [.int .i64 x.1.kd, .int .i64 x.1.i, .int .i64 x.1.N, u8 x.1.c, x.2]

/-- Acts in the unchanging part: the list, each with the slice of what it keeps. -/
def OpsM (m : Mem) (v : Value) (L : List (Act × Value)) : Prop :=
  SlM m v 5 L.length (L.flatMap actC) ∧ ∀ x ∈ L, SlM m x.2 1 x.1.keep.length (ints x.1.keep) ∧ x.1.N ≤ 9223372036854775807

theorem OpsM.mono {m m' : Mem} {v : Value} {L : List (Act × Value)} (h : OpsM m v L) (hm : ∀ k o, m k = some o → m' k = some o) : OpsM m' v L :=
  ⟨h.1.mono hm, fun x hx => ⟨(h.2 x hx).1.mono hm, (h.2 x hx).2⟩⟩

theorem OpsM.elem {m : Mem} {v : Value} {L : List (Act × Value)} (h : OpsM m v L) {i : Nat} (hi : i < L.length) :
    ∃ kv b o cap, v = .slice (some ⟨b, o, none⟩) L.length cap ∧ SlM m kv 1 L[i].1.keep.length (ints L[i].1.keep) ∧ L[i].1.N ≤ 9223372036854775807 ∧ ∀ {w : World} (_ : Im m w),
      Reads Try.prog w 46 ⟨b, o + i * 5, none⟩ (.agg #[.int .i64 L[i].1.kd, .int .i64 L[i].1.i, .int .i64 L[i].1.N, u8 L[i].1.c, kv]) ∧
      Reads Try.prog w 3 ⟨b, o + i * 5 + 0, none⟩ (.int .i64 L[i].1.kd) ∧ Reads Try.prog w 3 ⟨b, o + i * 5 + 1, none⟩ (.int .i64 L[i].1.i) := by
  obtain ⟨h2, h3⟩ := h
  obtain ⟨b, o, cap, hv, _, hr⟩ := h2.elem Try.prog (i := i) hi (by omega)
  have hc : cellsAt (L.flatMap actC) 5 i = actC L[i] := by
    unfold cellsAt
    have : ∀ (L : List (Act × Value)) (i : Nat) (hi : i < L.length), ((L.flatMap actC).drop (i * 5)).take 5 = actC L[i] := by
      intro L
      induction L with
      | nil => intro i hi; simp at hi
      | cons x L ih =>
        intro i hi
        cases i with
        | zero => simp [actC]
        | succ i =>
          have := ih i (by simpa using hi)
          rw [show (i + 1) * 5 = i * 5 + 5 by omega]
          simpa [actC] using this
    exact this L i hi
  refine ⟨L[i].2, b, o, cap, hv, (h3 _ (List.getElem_mem _)).1, (h3 _ (List.getElem_mem _)).2, fun {w} him => ⟨?_, ?_, ?_⟩⟩
  · have := hr him (off := 0) TF.t46 (getV_all (by rw [hc]; rfl))
    rw [hc] at this
    simpa [actC] using this
  · exact hr him (off := 0) TF.t3 (by rw [hc]; rfl)
  · exact hr him (off := 1) TF.t3 (by rw [hc]; rfl)

/-- One write of the list, field by field. -/
theorem WtM.elemF {m : Mem} {v : Value} {l : List (Nat × By)} (h : WtM m v l) {i : Nat} (hi : i < l.length) :
    ∃ bv b o cap, v = .slice (some ⟨b, o, none⟩) l.length cap ∧ SlM m bv 1 64 (bs l[i].2) ∧ ∀ {w : World} (_ : Im m w),
      Reads Try.prog w 3 ⟨b, o + i * 2 + 0, none⟩ (.int .i64 l[i].1) ∧ Reads Try.prog w 22 ⟨b, o + i * 2 + 1, none⟩ bv := by
  obtain ⟨L, h1, h2, h3⟩ := h
  subst h1
  have hi' : i < L.length := by simpa using hi
  obtain ⟨b, o, cap, hv, _, hr⟩ := h2.elem Try.prog (i := i) hi (by omega)
  have hc : cellsAt (L.flatMap fun x => [Value.int .i64 x.1.1, x.2]) 2 i = [Value.int .i64 L[i].1.1, L[i].2] := by
    unfold cellsAt
    have : ∀ (L : List ((Nat × By) × Value)) (i : Nat) (hi : i < L.length), ((L.flatMap fun x => [Value.int .i64 x.1.1, x.2]).drop (i * 2)).take 2 = [Value.int .i64 L[i].1.1, L[i].2] := by
      intro L
      induction L with
      | nil => intro i hi; simp at hi
      | cons x L ih =>
        intro i hi
        cases i with
        | zero => simp
        | succ i =>
          have := ih i (by simpa using hi)
          rw [show (i + 1) * 2 = i * 2 + 2 by omega]
          simpa using this
    exact this L i hi'
  refine ⟨L[i].2, b, o, cap, hv, ?_, fun {w} him => ⟨?_, ?_⟩⟩
  · simpa using h3 L[i] (List.getElem_mem _)
  · simpa using hr him (off := 0) (v' := .int .i64 L[i].1.1) TF.t3 (by rw [hc]; rfl)
  · exact hr him (off := 1) TF.t22 (by rw [hc]; rfl)

/-- One sector of a slice of bytes. -/
theorem subBytes {m : Mem} {a : Option Addr} {cap i : Nat} {l : By} (hx : SlM m (.slice a l.length cap) 1 l.length (bs l)) (h : 64 * i + 64 ≤ l.length) :
    SlM m (.slice (sliceOff a cap (64 * i) 1) (64 * i + 64 - 64 * i) (cap - 64 * i)) 1 (sec l i).length (bs (sec l i)) := by
  have hs := hx.sub rfl (l := 64 * i) (h := 64 * i + 64) (by omega) h (by omega)
  have e : ((bs l).drop (64 * i * 1)).take ((64 * i + 64 - 64 * i) * 1) = bs (sec l i) := by
    unfold sec bs
    rw [List.map_take, List.map_drop, Nat.mul_one, Nat.mul_one, show 64 * i + 64 - 64 * i = 64 by omega]
  have e2 : (sec l i).length = 64 * i + 64 - 64 * i := by unfold sec; simp; omega
  rw [e] at hs
  rw [e2]
  exact hs

theorem K.SlM.ptr {m : Mem} {v : Value} {k : Nat} {xs : List Value} (hx : SlM m v 1 k xs) (hi : 0 < k) : ∃ b o cap, v = .slice (some ⟨b, o, none⟩) k cap := by
  obtain ⟨b, o, cap, h, _⟩ := hx.elem Try.prog (i := 0) hi (by omega)
  exact ⟨b, o, cap, h⟩

theorem K.SlM.byteAt {m : Mem} {b o cap k i : Nat} {l : By} (hx : SlM m (.slice (some ⟨b, o, none⟩) k cap) 1 k (bs l)) (hi : i < l.length) {w : World} (him : Im m w) : Reads Try.prog w 5 ⟨b, o + i * 1, none⟩ (u8 l[i]) := by
  have hk : l.length = k := by have := hx.1; simpa [bs] using this
  obtain ⟨b', o', cap', h, _, hr⟩ := hx.elem Try.prog (i := i) (by omega) (by omega)
  simp only [Value.slice.injEq, Option.some.injEq, Addr.mk.injEq, and_true] at h
  obtain ⟨⟨rfl, rfl⟩, _⟩ := h
  have := hr him (off := 0) (v' := u8 l[i]) TF.t5 (by
    have e : cellsAt (bs l) 1 i = [u8 l[i]] := by simp [cellsAt, bs, List.drop_eq_getElem_cons, hi]
    rw [e]
    rfl)
  simpa using this

section
variable {m : Mem} {wI : World}

theorem l_does {n : Int} {lv : Value} {L : List (Act × Value)} (him : Im m wI) (hl : OpsM m lv L) : Ret Try.prog 4 #[.int .i64 n, lv] wI fun v w' => Tch wI w' [] [] ∧ v = .bool true := by
  have st := St.start him
  obtain ⟨_, la, lc, rfl, hlk, _⟩ := hl.1
  refine ret_of Try.call4 Try.func4 rfl Try.ntmps4 Try.results4 rfl ?_
  refine wc_seq ?_
  refine wc_region ?_
  refine wl_val (v_assign' (by conv => (lhs; whnf))) rfl ?_
  refine wl_nil ?_
  refine then_go ?_
  refine wc_seq ?_
  refine wc_region ?_
  refine wl_val (v_move' (by conv => (lhs; whnf))) rfl ?_
  refine wl_call rfl (c_start n st) rfl ?_
  rintro v12 w ⟨k, m1, b, s, wv, rv, hk1, hk8, rfl, hm1, st, hR⟩
  obtain ⟨cs, rfl, hcs, hcone⟩ := refM_one hR
  refine wl_val (v_move' (by conv => (lhs; whnf))) rfl ?_
  refine wl_val (v_extract rfl rfl) rfl ?_
  refine wl_val (v_extract rfl rfl) rfl ?_
  refine wl_alloc TF.z30 st rfl ?_
  intro b6 w st
  refine wl_val (v_assign' (by conv => (lhs; whnf))) rfl ?_
  refine wl_storeW (cs := cs) 0 st rfl TF.t30 rfl rfl hcs rfl hcone ?_
  intro w st
  have st := st.perm (List.Perm.swap _ _ _)
  refine wl_nil ?_
  refine then_go ?_
  refine wc_seq ?_
  refine wc_seq ?_
  refine wc_region ?_
  refine wl_val (v_move' (by conv => (lhs; whnf))) rfl ?_
  refine wl_val (v_eq_nil Try.underlying24 rfl rfl) rfl ?_
  refine wl_nil ?_
  refine then_go ?_
  refine wc_false rfl ?_
  refine wc_skip ?_
  refine then_go ?_
  refine wc_seq ?_
  refine wc_seq ?_
  refine wc_region ?_
  refine wl_val (v_move' (by conv => (lhs; whnf))) rfl ?_
  refine wl_call rfl (c_few (v := .slice la L.length lc) st.im) rfl ?_
  rintro v18 w ⟨rfl, rfl⟩
  refine wl_val (v_not rfl) rfl ?_
  refine wl_nil ?_
  refine then_go ?_
  refine wc_cond rfl (fun h19 => ?_) (fun h19 => ?_)
  · refine wc_seq ?_
    refine wc_region ?_
    refine wl_call rfl (c_works st.im) rfl ?_
    rintro v20 w ⟨t, rfl⟩
    have st := st.pure t
    refine wl_val (v_assign' (by conv => (lhs; whnf))) rfl ?_
    refine wl_nil ?_
    refine then_go ?_
    refine wc_ret (then_ret ?_)
    exact ret1 rfl ⟨(st.keepOnly (l := []) (List.nil_sublist _)).touch, rfl⟩
  · refine wc_skip ?_
    refine then_go ?_
    refine wc_seq ?_
    refine wc_seq ?_
    refine wc_region ?_
    refine wl_val (v_assign' (by conv => (lhs; whnf))) rfl ?_
    refine wl_nil ?_
    refine then_go ?_
    refine wc_block ?_
    have hf0 : Few (newD k) 0 := ⟨Nat.le_refl _, by show (-1 : Int) ≤ -1; omega, by show (-1 : Int) ≤ _; omega⟩
    have hL60 : L.length ≤ 60 := by
      have : (L.length : Int) ≤ 60 := by simpa using h19
      omega
    refine wc_loop (S := Nat) (fun q r w' => ∃ j m2 wv d cs, q + j = L.length ∧ r 1 = .slice la L.length lc ∧ r 5 = .pointer (some ⟨b, 0, none⟩) ∧ r 6 = .pointer (some ⟨b6, 0, none⟩) ∧ r 7 = .int .i64 j ∧ RefM m2 (.agg cs) k d ∧ cs.size = 4 ∧ (∀ u ∈ cs.toList, u.oneCell' = true) ∧ Few d j ∧ (∀ k o, m k = some o → m2 k = some o) ∧
      St m m2 [] wI w' [diskO b s k wv d, blk b6 cs 30]) id L.length ⟨0, m1, wv, _, cs, rfl, rfl, rfl, rfl, rfl, hR, hcs, hcone, hf0, hm1, st⟩ ?_
    rintro q r w2 ⟨j, m2, wv2, d, cs, hqj, h1, h5, h6, h7, hR, hcs, hcone, hf, hm2, st⟩
    refine wc_o 1 h1 (wc_o 5 h5 (wc_o 6 h6 (wc_o 7 h7 ?_)))
    refine wc_seq ?_
    refine wc_seq ?_
    refine wc_region ?_
    refine wl_val (v_move' (by conv => (lhs; whnf))) rfl ?_
    refine wl_val (v_move' (by conv => (lhs; whnf))) rfl ?_
    refine wl_val (v_len_s Try.underlying38 rfl) rfl ?_
    refine wl_val (v_lss rfl rfl) rfl ?_
    refine wl_nil ?_
    refine then_go ?_
    refine wc_if rfl (fun h24 => ?_) (fun h24 => ?_)
    · refine wc_skip ?_
      refine then_go ?_
      refine wc_seq ?_
      refine wc_block ?_
      refine wc_cut (fun r w' => ∃ m3 wv3 d3 sv3 wa wc b8, r 1 = .slice la L.length lc ∧ r 5 = .pointer (some ⟨b, 0, none⟩) ∧ r 6 = .pointer (some ⟨b6, 0, none⟩) ∧ r 7 = .int .i64 j ∧ r 8 = .pointer (some ⟨b8, 0, none⟩) ∧ r 9 = .bool true ∧ RefM m3 (.agg #[sv3, .slice wa d3.wt.length wc, .int .i64 d3.fuse, .bool d3.down]) k d3 ∧ sv3.oneCell' = true ∧ Few d3 (j + 1) ∧ (∀ k o, m k = some o → m3 k = some o) ∧
        St m m3 [] wI w' [diskO b s k wv3 d3, blk b8 #[sv3, .slice wa d3.wt.length wc, .int .i64 d3.fuse, .bool d3.down] 30, blk b6 cs 30]) ?_ ?_
      · have hj : j < L.length := by omega
        obtain ⟨kv, lb, lo, lcap, hlv, hkv, hNb, hrd⟩ := (hl.mono hm2).elem hj
        cases hlv
        refine wc_draw TF.mixed ?_
        have st := st.pure (touch_drew _)
        refine fl_val 0 rfl (fun _ => (v_move' (by conv => (lhs; whnf)))) rfl (by kernel_rfl) ?_
        refine fl_ld 1 rfl (v_load rfl (by first | exact st.reads 1 rfl TF.t30 (getV_all hcs) | exact st.reads 2 rfl TF.t30 (getV_all hcs))) (by kernel_rfl) ?_
        refine fl_val 2 rfl (fun _ => (v_move' (by conv => (lhs; whnf)))) rfl (by kernel_rfl) ?_
        refine fl_val 3 rfl (fun _ => (v_move' (by conv => (lhs; whnf)))) rfl (by kernel_rfl) ?_
        refine fl_val 4 rfl (fun _ => (v_ias j Try.underlying38 TF.t46 rfl rfl (by first | rfl | omega) (by first | omega | (dsimp only at *; omega)))) rfl (by kernel_rfl) ?_
        refine fl_ld 5 rfl (v_load rfl ((hrd st.im).1)) (by kernel_rfl) ?_
        refine fl_effs [6, 10] (by kernel_rfl) ⟨obl_ld rfl rfl rfl (v_load rfl ((hrd st.im).1)), obl_ld rfl rfl rfl (v_load rfl (by first | exact st.reads 1 rfl TF.t30 (getV_all hcs) | exact st.reads 2 rfl TF.t30 (getV_all hcs))), trivial⟩ (all2 ?_ ?_)
        · refine stepE 6 (pure' := [4, 3, 2]) (lds' := []) rfl (by kernel_rfl) (by kernel_rfl) ?_
          refine wl_call rfl (c_step st hR hf (by omega) hkv hNb) rfl ?_
          rintro v34 w ⟨m3, wv3, d3, rv3, rfl, hm3, st, hR3, hf3⟩
          obtain ⟨sv3, wtv3, rfl, _, hw3, hso3, _⟩ := refM_agg hR3
          obtain ⟨wa, wc, rfl, _⟩ := hw3.len
          refine wl_nil ⟨rfl, ?_⟩
          refine fl_val 7 rfl (fun _ => (v_move' (by conv => (lhs; whnf)))) rfl (by kernel_rfl) ?_
          refine fl_val 8 rfl (fun _ => (v_extract rfl rfl)) rfl (by kernel_rfl) ?_
          refine fl_val 9 rfl (fun _ => (v_extract rfl rfl)) rfl (by kernel_rfl) ?_
          refine fl_eff1 10 [9, 8, 7, 4, 3, 2] [] (by kernel_rfl) trivial rfl ?_
          refine wl_alloc TF.z30 st rfl ?_
          intro b8 w st
          have st := st.perm (List.Perm.swap _ _ _)
          refine wl_nil ⟨rfl, ?_⟩
          refine fl_eff1 11 [9] [] (by kernel_rfl) trivial rfl ?_
          refine wl_storeW (cs := #[sv3, .slice wa d3.wt.length wc, .int .i64 d3.fuse, .bool d3.down]) 1 st rfl TF.t30 rfl rfl rfl rfl (by simp [hso3, one_slice, one_int, one_bool]) ?_
          intro w st
          refine wl_nil ⟨rfl, ?_⟩
          refine fl_eff1 12 [] [] (by kernel_rfl) trivial rfl ?_
          refine wl_val (v_assign' (by conv => (lhs; whnf))) rfl ?_
          refine wl_nil ⟨rfl, ?_⟩
          refine fl_nil (by kernel_rfl) trivial ?_
          refine then_go ?_
          exact ⟨m3, wv3, d3, sv3, wa, wc, b8, rfl, rfl, rfl, rfl, rfl, rfl, hR3, hso3, hf3, fun k o h => hm3 k o (hm2 k o h), st⟩
        · refine stepE 10 (pure' := [4, 3, 2, 0]) (lds' := [5, 1]) rfl (by kernel_rfl) (by kernel_rfl) ?_
          refine wl_alloc TF.z30 st rfl ?_
          intro b8 w st
          have st := st.perm (List.Perm.swap _ _ _)
          refine wl_nil ⟨rfl, ?_⟩
          refine fl_eff1 6 [4, 3, 2] [] (by kernel_rfl) ⟨obl_ld rfl rfl rfl (v_load rfl ((hrd st.im).1)), obl_ld rfl rfl rfl (v_load rfl (by first | exact st.reads 1 rfl TF.t30 (getV_all hcs) | exact st.reads 2 rfl TF.t30 (getV_all hcs))), trivial⟩ rfl ?_
          refine wl_call rfl (c_step st hR hf (by omega) hkv hNb) rfl ?_
          rintro v34 w ⟨m3, wv3, d3, rv3, rfl, hm3, st, hR3, hf3⟩
          obtain ⟨sv3, wtv3, rfl, _, hw3, hso3, _⟩ := refM_agg hR3
          obtain ⟨wa, wc, rfl, _⟩ := hw3.len
          refine wl_nil ⟨rfl, ?_⟩
          refine fl_val 7 rfl (fun _ => (v_move' (by conv => (lhs; whnf)))) rfl (by kernel_rfl) ?_
          refine fl_val 8 rfl (fun _ => (v_extract rfl rfl)) rfl (by kernel_rfl) ?_
          refine fl_val 9 rfl (fun _ => (v_extract rfl rfl)) rfl (by kernel_rfl) ?_
          refine fl_eff1 11 [9] [] (by kernel_rfl) trivial rfl ?_
          refine wl_storeW (cs := #[sv3, .slice wa d3.wt.length wc, .int .i64 d3.fuse, .bool d3.down]) 1 st rfl TF.t30 rfl rfl rfl rfl (by simp [hso3, one_slice, one_int, one_bool]) ?_
          intro w st
          refine wl_nil ⟨rfl, ?_⟩
          refine fl_eff1 12 [] [] (by kernel_rfl) trivial rfl ?_
          refine wl_val (v_assign' (by conv => (lhs; whnf))) rfl ?_
          refine wl_nil ⟨rfl, ?_⟩
          refine fl_nil (by kernel_rfl) trivial ?_
          refine then_go ?_
          exact ⟨m3, wv3, d3, sv3, wa, wc, b8, rfl, rfl, rfl, rfl, rfl, rfl, hR3, hso3, hf3, fun k o h => hm3 k o (hm2 k o h), st⟩
      · rintro r w ⟨m3, wv3, d3, sv3, wa, wc, b8, h1, h5, h6, h7, h8, h9, hR3, hso3, hf3, hm3, st⟩
        refine wc_o 1 h1 (wc_o 5 h5 (wc_o 6 h6 (wc_o 7 h7 (wc_o 8 h8 (wc_o 9 h9 ?_)))))
        refine wc_seq ?_
        refine wc_region ?_
        refine wl_val (v_load rfl (st.reads 1 rfl TF.t30 (getV_all rfl))) rfl ?_
        refine wl_storeW (cs := #[sv3, .slice wa d3.wt.length wc, .int .i64 d3.fuse, .bool d3.down]) 2 st rfl TF.t30 rfl rfl rfl hcs (by simp [hso3, one_slice, one_int, one_bool]) ?_
        intro w st
        refine wl_nil ?_
        refine then_go ?_
        refine wc_seq ?_
        refine wc_draw TF.mixed ?_
        have st := st.pure (touch_drew _)
        refine fl_val 0 rfl (fun _ => (v_move' (by conv => (lhs; whnf)))) rfl (by kernel_rfl) ?_
        refine fl_val 1 rfl (fun _ => (v_not rfl)) rfl (by kernel_rfl) ?_
        refine fl_val 2 rfl (fun _ => (v_move' (by conv => (lhs; whnf)))) rfl (by kernel_rfl) ?_
        refine fl_on 3 rfl rfl rfl rfl (fun _ => (v_move' (by conv => (lhs; whnf)))) rfl (by kernel_rfl) ?_
        refine fl_on 5 rfl rfl rfl rfl (fun _ => (v_fa TF.f30_1 rfl)) rfl (by kernel_rfl) ?_
        refine fl_ond 6 rfl rfl rfl rfl (v_load rfl (st.reads 2 rfl TF.t28 rfl)) rfl (by kernel_rfl) ?_
        refine fl_on 7 rfl rfl rfl rfl (fun _ => (v_len_s Try.underlying28 rfl)) rfl (by kernel_rfl) ?_
        refine fl_eff1 4 [7, 5, 1, 0] [6] (by kernel_rfl) ⟨obl_on rfl rfl rfl rfl rfl (v_load rfl (st.reads 2 rfl TF.t28 rfl)), trivial⟩ rfl ?_
        refine wl_on rfl rfl ?_
        refine wl_call rfl (c_pending (im_heapM _) (diskAt 0 st rfl hR3.ok)) rfl ?_
        rintro v42 w ⟨rfl, rfl⟩
        refine wl_nil ⟨rfl, ?_⟩
        refine fl_on 8 rfl rfl rfl rfl (fun _ => (v_neq rfl rfl)) rfl (by kernel_rfl) ?_
        rw [show decide (¬ (d3.wt.length : Int) = d3.wt.length) = false from decide_eq_false (fun h => h rfl)]
        refine fl_val 9 rfl (fun _ => (v_pick rfl)) rfl (by kernel_rfl) ?_
        refine fl_val 10 rfl (fun _ => (v_move' (by conv => (lhs; whnf)))) rfl (by kernel_rfl) ?_
        refine fl_on 11 rfl rfl rfl rfl (fun _ => (v_move' (by conv => (lhs; whnf)))) rfl (by kernel_rfl) ?_
        refine fl_ond 13 rfl rfl rfl rfl (v_load rfl (st.reads 2 rfl TF.t30 (getV_all rfl))) rfl (by kernel_rfl) ?_
        refine fl_eff1 12 [9, 8, 7, 5, 1, 0] [13, 6] (by kernel_rfl) ⟨obl_on rfl rfl rfl rfl rfl (v_load rfl (st.reads 2 rfl TF.t30 (getV_all rfl))), obl_on rfl rfl rfl rfl rfl (v_load rfl (st.reads 2 rfl TF.t28 rfl)), trivial⟩ rfl ?_
        refine wl_on rfl rfl ?_
        refine wl_call rfl (c_dump (im_heapM _) (diskAt 0 st rfl hR3.ok)) rfl ?_
        rintro v50 w ⟨t, m4, hfr, him4, hs4⟩
        obtain ⟨m5, hle3, hle4, st⟩ := st.absorb t hfr him4
        refine wl_nil ⟨rfl, ?_⟩
        refine fl_eff1 14 [9, 8, 7, 5, 1, 0] [6] (by kernel_rfl) ⟨obl_on rfl rfl rfl rfl rfl (v_load rfl (st.reads 2 rfl TF.t30 (getV_all rfl))), obl_on rfl rfl rfl rfl rfl (v_load rfl (st.reads 2 rfl TF.t28 rfl)), trivial⟩ rfl ?_
        refine wl_on rfl rfl ?_
        refine wl_call rfl (c_rdump st.im (hR3.mono hle3) (by have := hf3.wt; omega)) rfl ?_
        rintro v52 w ⟨t, m6, hg6, him6, hs6⟩
        have st := st.grown hg6 t him6
        refine wl_nil ⟨rfl, ?_⟩
        refine fl_eff1 15 [9, 8, 7, 5, 1, 0] [6] (by kernel_rfl) ⟨obl_on rfl rfl rfl rfl rfl (v_load rfl (st.reads 2 rfl TF.t28 rfl)), trivial⟩ rfl ?_
        refine wl_on rfl rfl ?_
        refine wl_call rfl (c_same st.im ((hs4.mono hle4).mono hg6.le) hs6) rfl ?_
        rintro v53 w ⟨rfl, rfl⟩
        rw [show decide (dump d3 = dump d3) = true from decide_eq_true rfl]
        refine wl_nil ⟨rfl, ?_⟩
        refine fl_on 16 rfl rfl rfl rfl (fun _ => (v_not rfl)) rfl (by kernel_rfl) ?_
        refine fl_val 17 rfl (fun _ => (v_pick rfl)) rfl (by kernel_rfl) ?_
        refine fl_nil (by kernel_rfl) ⟨obl_on rfl rfl rfl rfl rfl (v_load rfl (st.reads 2 rfl TF.t28 rfl)), trivial⟩ ?_
        refine then_go ?_
        refine wc_false rfl ?_
        refine wc_skip ?_
        refine block_go (then_go ?_)
        refine wc_region ?_
        refine wl_val (v_move' (by conv => (lhs; whnf))) rfl ?_
        refine wl_val (v_add' rfl rfl rfl (by first | omega | (dsimp only at *; omega)) (by first | omega | (dsimp only at *; omega))) rfl ?_
        refine wl_val (v_assign' (by conv => (lhs; whnf))) rfl ?_
        refine wl_nil ?_
        refine then_go ?_
        refine ⟨q - 1, by simp; omega, j + 1, m6, wv3, d3, _, by omega, rfl, rfl, rfl, rfl, (hR3.mono hle3).mono hg6.le, rfl, by simp [hso3, one_slice, one_int, one_bool], hf3, fun k o h => hg6.le k o (hle3 k o (hm3 k o h)), st.drop 1⟩
    · refine wc_exit (then_exit (then_exit (block_hit ?_)))
      refine then_go ?_
      refine wc_seq ?_
      obtain ⟨sv, wtv, hcse, hs, _, _, _⟩ := refM_agg hR
      cases hcse
      obtain ⟨_, sa, sc, rfl, _⟩ := hs
      have hSl := hR.ok.len
      refine wc_draw TF.mixed ?_
      have st := st.pure (touch_drew _)
      refine fl_val 0 rfl (fun _ => (v_move' (by conv => (lhs; whnf)))) rfl (by kernel_rfl) ?_
      refine fl_val 2 rfl (fun _ => (v_fa TF.f30_0 rfl)) rfl (by kernel_rfl) ?_
      refine fl_ld 3 rfl (v_load rfl (st.reads 1 rfl TF.t22 rfl)) (by kernel_rfl) ?_
      refine fl_val 4 rfl (fun _ => (v_len_s Try.underlying22 rfl)) rfl (by kernel_rfl) ?_
      refine fl_val 5 rfl (fun _ => (v_quo' (c := (k : Int)) rfl rfl (by omega) (by omega) (by omega) (by omega))) rfl (by kernel_rfl) ?_
      refine fl_eff1 1 [5, 4, 2] [3] (by kernel_rfl) ⟨obl_ld rfl rfl rfl (v_load rfl (st.reads 1 rfl TF.t22 rfl)), trivial⟩ rfl ?_
      refine wl_call rfl (c_size (im_heapM _) (diskAt 0 st rfl hR.ok)) rfl ?_
      rintro v57 w ⟨rfl, rfl⟩
      refine wl_nil ⟨rfl, ?_⟩
      refine fl_val 6 rfl (fun _ => (v_eql rfl rfl)) rfl (by kernel_rfl) ?_
      rw [show decide ((k : Int) = k) = true from decide_eq_true rfl]
      refine fl_val 7 rfl (fun _ => (v_move' (by conv => (lhs; whnf)))) rfl (by kernel_rfl) ?_
      refine fl_eff1 8 [6, 5, 4, 2] [3] (by kernel_rfl) ⟨obl_ld rfl rfl rfl (v_load rfl (st.reads 1 rfl TF.t22 rfl)), trivial⟩ rfl ?_
      refine wl_on rfl rfl ?_
      refine wl_call rfl (c_works st.im) rfl ?_
      rintro v64 w ⟨t, rfl⟩
      have st := st.pure t
      refine wl_nil ⟨rfl, ?_⟩
      refine fl_val 9 rfl (fun _ => (v_pick rfl)) rfl (by kernel_rfl) ?_
      refine fl_eff1 10 [] [] (by kernel_rfl) ⟨obl_ld rfl rfl rfl (v_load rfl (st.reads 1 rfl TF.t22 rfl)), trivial⟩ rfl ?_
      refine wl_val (v_assign' (by conv => (lhs; whnf))) rfl ?_
      refine wl_nil ⟨rfl, ?_⟩
      refine fl_nil (by kernel_rfl) trivial ?_
      refine then_go ?_
      refine wc_ret ?_
      exact ret1 rfl ⟨(st.keepOnly (l := []) (List.nil_sublist _)).touch, rfl⟩
end
end Go.Proofs.Ytekhcjgmgflmkaa
