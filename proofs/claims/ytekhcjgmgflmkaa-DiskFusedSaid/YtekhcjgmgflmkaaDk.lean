/-
  What the laws share: works, start, step.
-/
import Derived.Test.YtekhcjgmgflmkaaDq
namespace Go.Proofs.Ytekhcjgmgflmkaa
open Go Go.RowKit K DK

section
variable {m m0 : Mem} {F : List Nat} {w0 wI w w' : World} {Es : List Ent} {b s n : Nat} {wv : Value} {d : DS}

theorem pure_of_new {A : List Nat} (t : Tch w w' [] A) : Tch w w' [] [] := ⟨t.os, t.tape, t.output, t.size, t.block, by simp⟩

/-- A call has made something of one's own, and has left other things unchanging. -/
theorem newG {m' : Mem} {E : Ent} (h : St m0 m F w0 w Es) (hg : Grow m m' w.heap.size) (t : Tch w w' [] E.foot) (hi : Im m' w') (hE : E.holds w') (hn : ∀ k ∈ E.foot, m' k = none) : St m0 m' F w0 w' (E :: Es) := by
  have h1 := h.grown hg (pure_of_new t) hi
  have h2 := h.new t hE
  refine ⟨h1.touch, h1.grow, h1.im, h2.holds, h2.sep, fun E' hE' k hk => ?_⟩
  rcases List.mem_cons.1 hE' with rfl | hE'
  · exact ⟨hn k hk, (h2.own E' List.mem_cons_self k hk).2⟩
  · exact h1.own E' hE' k hk

theorem disk_callAt {f : FuncId} {args : List Value} {R : Value → DS → Prop} (i : Nat) (st : St m0 m F w0 w Es) (hi : Es[i]? = some (diskO b s n wv d)) (h : DiskCall f args b s n wv d w R) :
    Ret Try.prog f (.pointer (some ⟨b, 0, none⟩) :: args).toArray w fun v w' => ∃ wv' d', St m0 m F w0 w' (Es.set i (diskO b s n wv' d')) ∧ R v d' :=
  h.mono fun _ _ ⟨wv', d', t, hE, hR⟩ => ⟨wv', d', st.step i hi t hE, hR⟩

theorem diskAt (i : Nat) (st : St m0 m F w0 w Es) (hi : Es[i]? = some (diskO b s n wv d)) (ok : d.ok n) : diskM (heapM w) b n d := by
  have hh := st.at hi
  have st1 : St m m (diskO b s n wv d).foot w w [diskO b s n wv d] := St.startE st.im hh (st.none hi)
  exact disk_snap st1.split ok

theorem c_works (him : Im m wI) : Ret Try.prog 8 #[] wI fun v w' => Tch wI w' [] [] ∧ v = .bool true := by
  have st := St.start him
  have hW : writeD (newD 2) 2 1 (List.replicate 64 0) = (⟨List.replicate 128 0, [(1, List.replicate 64 0)], -1, false⟩, 0) := by
    simp [writeD, newD, burn]
  refine ret_of Try.call8 Try.func8 rfl Try.ntmps8 Try.results8 rfl ?_
  refine wc_seq ?_
  refine wc_region ?_
  refine wl_val (v_assign' (by conv => (lhs; whnf))) rfl ?_
  refine wl_nil ?_
  refine then_go ?_
  refine wc_seq ?_
  refine wc_region ?_
  refine wl_call rfl (c_new 2 st.im) rfl ?_
  intro v9 w hR
  rw [if_neg (by decide)] at hR
  obtain ⟨_, ⟨b, s, wv, rfl, t, hE⟩, rfl⟩ := hR
  have st := st.new t hE
  have ok : (newD 2).ok 2 := ⟨by decide, rfl, by decide, by simp [newD]⟩
  change St _ _ _ _ _ [diskO b s 2 wv (newD 2)] at st
  refine wl_val (v_move' (by conv => (lhs; whnf))) rfl ?_
  refine wl_val (v_extract rfl rfl) rfl ?_
  refine wl_val (v_extract rfl rfl) rfl ?_
  refine wl_val (v_assign' (by conv => (lhs; whnf))) rfl ?_
  refine wl_val (v_assign' (by conv => (lhs; whnf))) rfl ?_
  refine wl_nil ?_
  refine then_go ?_
  refine wc_seq ?_
  refine wc_region ?_
  refine wl_call rfl (c_new 0 st.im) rfl ?_
  intro v13 w hR
  rw [if_pos (by decide)] at hR
  obtain ⟨t, rfl⟩ := hR
  have st := st.pure t
  refine wl_val (v_move' (by conv => (lhs; whnf))) rfl ?_
  refine wl_val (v_extract rfl rfl) rfl ?_
  refine wl_val (v_extract rfl rfl) rfl ?_
  refine wl_val (v_assign' (by conv => (lhs; whnf))) rfl ?_
  refine wl_val (v_assign' (by conv => (lhs; whnf))) rfl ?_
  refine wl_nil ?_
  refine then_go ?_
  refine wc_seq ?_
  refine wc_seq ?_
  refine wc_region ?_
  refine wl_val (v_move' (by conv => (lhs; whnf))) rfl ?_
  refine wl_val (v_neq rfl rfl) rfl ?_
  refine wl_val (v_move' (by conv => (lhs; whnf))) rfl ?_
  refine wl_on rfl rfl ?_
  refine wl_val (v_move' (by conv => (lhs; whnf))) rfl ?_
  refine wl_on rfl rfl ?_
  refine wl_val (v_neq rfl rfl) rfl ?_
  refine wl_val (v_pick rfl) rfl ?_
  refine wl_val (v_move' (by conv => (lhs; whnf))) rfl ?_
  refine wl_on rfl rfl ?_
  refine wl_val (v_move' (by conv => (lhs; whnf))) rfl ?_
  refine wl_on rfl rfl ?_
  refine wl_val (v_eq_nil Try.underlying24 rfl rfl) rfl ?_
  refine wl_val (v_pick rfl) rfl ?_
  refine wl_nil ?_
  refine then_go ?_
  refine wc_false rfl ?_
  refine wc_skip ?_
  refine then_go ?_
  refine wc_seq ?_
  refine wc_region ?_
  refine wl_val (v_move' (by conv => (lhs; whnf))) rfl ?_
  refine wl_make (l := 64) (c := 64) Try.underlying22 TF.t5 TF.z5 rfl rfl rfl rfl (by omega) (by omega) (by omega) (by omega) st rfl ?_
  intro b27 w st
  have e : madeCells (Value.int .u8 0).cells (64 * 1) = (bs (List.replicate 64 0)).toArray := by
    rw [show (Value.int .u8 0).cells = Array.replicate (0 + 1) (Value.int .u8 0) from rfl, madeCells_rep, bs_zero]
  rw [e] at st
  obtain ⟨m1, hg1, hm1, st⟩ := st.freeze (i := 0) rfl (by simp)
  change St _ _ _ _ _ [_] at st
  have hbm : SlM m1 (.slice (some ⟨b27, 0, none⟩) 64 64) 1 (List.replicate 64 (0 : UInt8)).length (bs (List.replicate 64 0)) := SlM.of hm1 (by simp [bs]) (Nat.le_refl _) (fun j u hj => by simpa using hj)
  refine wl_call rfl (disk_call st (c_write 1 st.im (st.at (i := 0) rfl) (st.none (i := 0) rfl) ok (by decide) (by decide) hbm)) rfl ?_
  rintro v28 w ⟨wv1, d1, st, hd1, rfl⟩
  rw [hW] at hd1 ⊢
  have ok1 : d1.ok 2 := by rw [hd1]; exact ⟨by decide, rfl, by decide, by simp⟩
  refine wl_val (v_assign' (by conv => (lhs; whnf))) rfl ?_
  refine wl_nil ?_
  refine then_go ?_
  refine wc_seq ?_
  refine wc_region ?_
  refine wl_val (v_move' (by conv => (lhs; whnf))) rfl ?_
  refine wl_call rfl (c_read 1 (im_heapM _) (diskAt 0 st rfl ok1)) rfl ?_
  rintro v31 w ⟨t, sv, hN, rfl⟩
  have st := st.pure t
  have hrd : readD d1 2 1 = (List.replicate 64 0, 0) := by rw [hd1]; simp [readD, nowOf, lastW]
  rw [hrd] at hN ⊢
  obtain ⟨m2, _, _, hsl⟩ := hN
  obtain ⟨_, sa, sc, rfl, _⟩ := hsl
  refine wl_val (v_move' (by conv => (lhs; whnf))) rfl ?_
  refine wl_val (v_extract rfl rfl) rfl ?_
  refine wl_val (v_extract rfl rfl) rfl ?_
  refine wl_val (v_assign' (by conv => (lhs; whnf))) rfl ?_
  refine wl_val (v_assign' (by conv => (lhs; whnf))) rfl ?_
  refine wl_nil ?_
  refine then_go ?_
  refine wc_seq ?_
  refine wc_region ?_
  refine wl_val (v_move' (by conv => (lhs; whnf))) rfl ?_
  refine wl_val (v_eql rfl rfl) rfl ?_
  refine wl_val (v_move' (by conv => (lhs; whnf))) rfl ?_
  refine wl_on rfl rfl ?_
  refine wl_val (v_move' (by conv => (lhs; whnf))) rfl ?_
  refine wl_on rfl rfl ?_
  refine wl_val (v_eql rfl rfl) rfl ?_
  refine wl_val (v_pick rfl) rfl ?_
  refine wl_val (v_move' (by conv => (lhs; whnf))) rfl ?_
  refine wl_on rfl rfl ?_
  refine wl_val (v_move' (by conv => (lhs; whnf))) rfl ?_
  refine wl_on rfl rfl ?_
  refine wl_val (v_len_s Try.underlying22 rfl) rfl ?_
  refine wl_on rfl rfl ?_
  refine wl_val (v_eql rfl rfl) rfl ?_
  refine wl_val (v_pick rfl) rfl ?_
  refine wl_val (v_move' (by conv => (lhs; whnf))) rfl ?_
  refine wl_on rfl rfl ?_
  refine wl_val (v_move' (by conv => (lhs; whnf))) rfl ?_
  refine wl_on rfl rfl ?_
  refine wl_call rfl (c_pending (im_heapM _) (diskAt 0 st rfl ok1)) rfl ?_
  rintro v47 w ⟨rfl, rfl⟩
  rw [show (d1.wt.length : Int) = 1 by rw [hd1]; rfl]
  refine wl_on rfl rfl ?_
  refine wl_val (v_eql rfl rfl) rfl ?_
  refine wl_val (v_pick rfl) rfl ?_
  refine wl_val (v_move' (by conv => (lhs; whnf))) rfl ?_
  refine wl_on rfl rfl ?_
  refine wl_val (v_move' (by conv => (lhs; whnf))) rfl ?_
  refine wl_on rfl rfl ?_
  refine wl_call rfl (c_size (im_heapM _) (diskAt 0 st rfl ok1)) rfl ?_
  rintro v52 w ⟨rfl, rfl⟩
  refine wl_on rfl rfl ?_
  refine wl_val (v_eql rfl rfl) rfl ?_
  refine wl_val (v_pick rfl) rfl ?_
  refine wl_val (v_assign' (by conv => (lhs; whnf))) rfl ?_
  refine wl_nil ?_
  refine then_go ?_
  refine wc_ret ?_
  exact ret1 rfl ⟨st.touch, rfl⟩

theorem u64_nonneg (i : Int) : 0 ≤ IntKind.u64.wrap i := by
  unfold IntKind.wrap
  simp only [IntKind.signed, Bool.false_and, if_neg, Bool.false_eq_true, not_false_eq_true]
  exact Int.emod_nonneg _ (by decide)

theorem c_start (i : Int) (st : St m0 m [] w0 wI Es) : Ret Try.prog 16 #[.int .i64 i] wI fun v w' =>
    ∃ k m' b s wv rv, 1 ≤ k ∧ k ≤ 8 ∧ v = .tuple #[.pointer (some ⟨b, 0, none⟩), rv] ∧ (∀ k o, m k = some o → m' k = some o) ∧ St m0 m' [] w0 w' (diskO b s k wv (newD k) :: Es) ∧ RefM m' rv k (newD k) := by
  refine ret_of Try.call16 Try.func16 rfl Try.ntmps16 Try.results16 rfl ?_
  refine wc_seq ?_
  refine wc_region ?_
  refine wl_val (v_assign' (by conv => (lhs; whnf))) rfl ?_
  refine wl_alloc TF.z30 st rfl ?_
  intro b3 w st
  refine wl_nil ?_
  refine then_go ?_
  refine wc_seq ?_
  obtain ⟨j, hj, hje⟩ : ∃ j : Nat, j ≤ 7 ∧ IntKind.i64.wrap (IntKind.u64.wrap i % 8) = j := by
    have h1 : 0 ≤ IntKind.u64.wrap i % 8 := Int.emod_nonneg _ (by decide)
    have h2 : IntKind.u64.wrap i % 8 < 8 := Int.emod_lt_of_pos _ (by decide)
    refine ⟨(IntKind.u64.wrap i % 8).toNat, by omega, ?_⟩
    rw [wrap_i64 (by omega) (by omega)]
    omega
  refine wc_region ?_
  refine wl_val (v_move' (by conv => (lhs; whnf))) rfl ?_
  refine wl_val (v_conv Try.underlying3 Try.underlying67 rfl) rfl ?_
  refine wl_val (v_rem' (c := IntKind.u64.wrap i % 8) rfl rfl (u64_nonneg i) (by omega) rfl) rfl ?_
  refine wl_val (v_conv Try.underlying67 Try.underlying3 rfl) rfl ?_
  rw [hje]
  refine wl_val (v_add' (c := ((1 + j : Nat) : Int)) rfl rfl (by omega) (by omega) (by omega)) rfl ?_
  refine wl_val (v_assign' (by conv => (lhs; whnf))) rfl ?_
  refine wl_nil ?_
  refine then_go ?_
  refine wc_seq ?_
  refine wc_region ?_
  refine wl_val (v_move' (by conv => (lhs; whnf))) rfl ?_
  refine wl_call rfl (c_new ((1 + j : Nat) : Int) st.im) rfl ?_
  intro v15 w hR
  rw [if_neg (by omega)] at hR
  obtain ⟨_, ⟨b, s, wv, rfl, t, hE⟩, rfl⟩ := hR
  have st := st.new t hE
  rw [Int.toNat_natCast] at st
  obtain ⟨k, hk⟩ : ∃ k, k = 1 + j := ⟨_, rfl⟩
  rw [← hk] at st ⊢
  refine wl_val (v_move' (by conv => (lhs; whnf))) rfl ?_
  refine wl_val (v_extract rfl rfl) rfl ?_
  refine wl_val (v_extract rfl rfl) rfl ?_
  refine wl_val (v_assign' (by conv => (lhs; whnf))) rfl ?_
  refine wl_val (v_assign' (by conv => (lhs; whnf))) rfl ?_
  refine wl_nil ?_
  refine then_go ?_
  refine wc_seq ?_
  refine wc_region ?_
  refine wl_val (v_move' (by conv => (lhs; whnf))) rfl ?_
  refine wl_val (v_mul' (c := ((64 * k : Nat) : Int)) rfl rfl (by omega) (by omega) (by omega)) rfl ?_
  refine wl_make (l := 64 * k) (c := 64 * k) Try.underlying22 TF.t5 TF.z5 rfl rfl rfl rfl (by omega) (by omega) (by omega) (by omega) st rfl ?_
  intro b21 w st
  have e : madeCells (Value.int .u8 0).cells (64 * k * 1) = (bs (List.replicate (64 * k) 0)).toArray := by
    rw [show (Value.int .u8 0).cells = Array.replicate (0 + 1) (Value.int .u8 0) from rfl, madeCells_rep, bs_zero, Nat.mul_one]
  rw [e] at st
  obtain ⟨m1, hg1, hm1, st⟩ := st.freeze (i := 0) rfl (by simp)
  have hl : (List.replicate (64 * k) (0 : UInt8)).length = 64 * k := List.length_replicate
  have hbm : SlM m1 (.slice (some ⟨b21, 0, none⟩) (64 * k) (64 * k)) 1 (List.replicate (64 * k) (0 : UInt8)).length (bs (List.replicate (64 * k) 0)) := by
    rw [hl]
    exact SlM.of hm1 (by simp [bs]) (Nat.le_refl _) (fun j u hj => by simpa using hj)
  refine wl_call rfl (c_rload st.im hbm (by rw [hl]; omega)) rfl ?_
  rintro v22 w ⟨t, m2, hg2, hi2, rv, rfl, ⟨cs, rfl, hcs, hone⟩, hR⟩
  have st := st.grown hg2 t hi2
  have hle : loadE (List.replicate (64 * k) 0) = 0 := by unfold loadE; rw [hl, if_neg (by omega), if_neg (by omega)]
  have hR := hR hle
  rw [hl, show 64 * k / 64 = k by omega] at hR
  rw [hle]
  refine wl_val (v_move' (by conv => (lhs; whnf))) rfl ?_
  refine wl_val (v_extract rfl rfl) rfl ?_
  refine wl_val (v_extract rfl rfl) rfl ?_
  refine wl_alloc TF.z30 st rfl ?_
  intro b6 w st
  refine wl_storeW (cs := cs) 0 st rfl TF.t30 rfl rfl hcs rfl hone ?_
  intro w st
  refine wl_val (v_assign' (by conv => (lhs; whnf))) rfl ?_
  refine wl_nil ?_
  refine then_go ?_
  refine wc_seq ?_
  refine wc_seq ?_
  refine wc_region ?_
  refine wl_val (v_move' (by conv => (lhs; whnf))) rfl ?_
  refine wl_val (v_neq rfl rfl) rfl ?_
  refine wl_nil ?_
  refine then_go ?_
  refine wc_false rfl ?_
  refine wc_skip ?_
  refine then_go ?_
  refine wc_seq ?_
  refine wc_draw TF.mixed ?_
  have st := st.pure (touch_drew _)
  refine fl_val 0 rfl (fun _ => (v_move' (by conv => (lhs; whnf)))) rfl (by kernel_rfl) ?_
  refine fl_ld 1 rfl (v_load rfl (st.reads 0 rfl TF.t30 (getV_all hcs))) (by kernel_rfl) ?_
  refine fl_eff1 2 [] [1] (by kernel_rfl) ⟨obl_ld rfl rfl rfl (v_load rfl (st.reads 0 rfl TF.t30 (getV_all hcs))), trivial⟩ rfl ?_
  refine wl_val (v_assign' (by conv => (lhs; whnf))) rfl ?_
  refine wl_nil ⟨rfl, ?_⟩
  refine fl_eff1 3 [] [] (by kernel_rfl) ⟨obl_ld rfl rfl rfl (v_load rfl (st.reads 0 rfl TF.t30 (getV_all hcs))), trivial⟩ rfl ?_
  refine wl_storeW (cs := cs) 2 st rfl TF.t30 rfl rfl hcs rfl hone ?_
  intro w st
  refine wl_nil ⟨rfl, ?_⟩
  refine fl_nil (by kernel_rfl) trivial ?_
  refine then_go ?_
  refine wc_ret ?_
  refine ret2d rfl rfl (st.reads 2 rfl TF.t30 (getV_all hcs)) ?_
  exact ⟨k, _, b, s, wv, _, by omega, by omega, rfl, fun q o h => hg2.le q o (hg1.le q o h), (st.drop 2).drop 0, hR⟩

/-- What is asked of a disk among acts: it does not grow without bound. -/
structure Few (d : DS) (k : Nat) : Prop where
  wt : d.wt.length ≤ k
  lo : -1 ≤ d.fuse
  hi : d.fuse ≤ 9223372036854775807

theorem refM_agg {v : Value} {n : Nat} (h : RefM m v n d) : ∃ sv wv, v = .agg #[sv, wv, .int .i64 d.fuse, .bool d.down] ∧ SlM m sv 1 d.S.length (bs d.S) ∧ WtM m wv d.wt ∧ sv.oneCell' = true ∧ wv.oneCell' = true := by
  obtain ⟨_, sv, wv, e, hs, hw⟩ := h
  refine ⟨sv, wv, e, hs, hw, ?_, ?_⟩
  · obtain ⟨_, a, c, rfl, _⟩ := hs; rfl
  · obtain ⟨a, c, rfl, _⟩ := hw.len; rfl

theorem refM_one {v : Value} {n : Nat} (h : RefM m v n d) : ∃ cs, v = .agg cs ∧ cs.size = 4 ∧ ∀ u ∈ cs.toList, u.oneCell' = true := by
  obtain ⟨sv, wv, rfl, _, _, h1, h2⟩ := refM_agg h
  exact ⟨_, rfl, rfl, by simp [h1, h2, one_int, one_bool]⟩

theorem Few.up {k : Nat} (h : Few d k) : Few d (k + 1) := ⟨by have := h.wt; omega, h.lo, h.hi⟩

theorem Few.burn {k : Nat} (h : Few d k) : Few (burn d) k := by
  have h2 := h.lo
  have h3 := h.hi
  refine ⟨h.wt, ?_, ?_⟩
  · show -1 ≤ if 0 < d.fuse then d.fuse - 1 else d.fuse
    split <;> omega
  · show (if 0 < d.fuse then d.fuse - 1 else d.fuse) ≤ _
    split <;> omega

theorem Few.write {k : Nat} (h : Few d k) (n : Nat) (i : Int) (l : By) : Few (writeD d n i l).1 (k + 1) := by
  have h1 := h.wt
  unfold writeD
  split
  · exact h.up
  split
  · exact h.up
  split
  · exact h.up
  · exact Few.burn (d := { d with wt := d.wt ++ [(i.toNat, l)] }) ⟨by simpa using h1, h.lo, h.hi⟩

theorem Few.sync {k : Nat} (h : Few d k) : Few (syncD d).1 (k + 1) := by
  have hb := h.burn
  unfold syncD
  split
  · exact h.up
  split
  · exact hb.up
  · exact ⟨Nat.zero_le _, hb.lo, hb.hi⟩

theorem Few.fuse {k : Nat} (h : Few d k) (i : Int) (hi : i ≤ 9223372036854775807) : Few { d with fuse := max i (-1) } (k + 1) := ⟨by have := h.wt; show d.wt.length ≤ _; omega, by show (-1 : Int) ≤ max i (-1); omega, by show max i (-1) ≤ _; omega⟩

theorem Few.crash (k : Nat) (keep : List Int) : Few (crashD d keep) (k + 1) := ⟨Nat.zero_le _, by show (-1 : Int) ≤ -1; omega, by show (-1 : Int) ≤ _; omega⟩

theorem c_step {v kv : Value} {kd i N : Int} {c : UInt8} {keep : List Int} {q : Nat} (st : St m0 m [] w0 wI (diskO b s n wv d :: Es)) (hd : RefM m v n d) (hf : Few d q) (hq : q ≤ 900000) (hk : SlM m kv 1 keep.length (ints keep)) (hN : N ≤ 9223372036854775807) :
    Ret Try.prog 18 #[.pointer (some ⟨b, 0, none⟩), v, .agg #[.int .i64 kd, .int .i64 i, .int .i64 N, u8 c, kv]] wI fun v' w' =>
      ∃ m' wv' d' rv, v' = .tuple #[rv, .bool true] ∧ (∀ k o, m k = some o → m' k = some o) ∧ St m0 m' [] w0 w' (diskO b s n wv' d' :: Es) ∧ RefM m' rv n d' ∧ Few d' (q + 1) := by
  have hd0 := hd
  obtain ⟨sv, wtv, rfl, hs, hw, hso, hwo⟩ := refM_agg hd
  have hko : kv.oneCell' = true := by obtain ⟨_, a, c, rfl, _⟩ := hk; rfl
  have hq1 := hf.wt
  refine ret_of Try.call18 Try.func18 rfl Try.ntmps18 Try.results18 rfl ?_
  refine wc_seq ?_
  refine wc_region ?_
  refine wl_box (v := .agg #[sv, wtv, .int .i64 d.fuse, .bool d.down]) rfl st rfl ?_
  intro b4 w st
  refine wl_box (v := .agg #[.int .i64 kd, .int .i64 i, .int .i64 N, u8 c, kv]) rfl st rfl ?_
  intro b5 w st
  refine wl_alloc TF.z30 st rfl ?_
  intro b6 w st
  refine wl_val (v_assign' (by conv => (lhs; whnf))) rfl ?_
  refine wl_nil ?_
  refine then_go ?_
  refine wc_seq ?_
  refine wc_seq ?_
  refine wc_region ?_
  refine wl_val (v_fa TF.f46_0 rfl) rfl ?_
  refine wl_val (v_load rfl (st.reads 1 rfl TF.t3 rfl)) rfl ?_
  refine wl_nil ?_
  refine then_go ?_
  refine wc_block ?_
  refine wc_seq ?_
  refine wc_region ?_
  refine wl_val (v_eql rfl rfl) rfl ?_
  refine wl_val (v_assign' (by conv => (lhs; whnf))) rfl ?_
  refine wl_nil ?_
  refine then_go ?_
  refine wc_if rfl (fun h22 => ?_) (fun h22 => ?_)
  · refine wc_seq ?_
    refine wc_region ?_
    refine wl_val (v_move' (by conv => (lhs; whnf))) rfl ?_
    refine wl_val (v_fa TF.f46_1 rfl) rfl ?_
    refine wl_val (v_load rfl (st.reads 1 rfl TF.t3 rfl)) rfl ?_
    refine wl_call rfl (c_read i (im_heapM _) (diskAt 3 st rfl hd0.ok)) rfl ?_
    rintro v28 w ⟨t, sv8, hN8, rfl⟩
    obtain ⟨m1, hle1, hle2, st⟩ := st.absorb t hN8.choose_spec.1 hN8.choose_spec.2.1
    have hs8 := hN8.choose_spec.2.2.mono hle2
    refine wl_val (v_move' (by conv => (lhs; whnf))) rfl ?_
    refine wl_val (v_extract rfl rfl) rfl ?_
    refine wl_val (v_extract rfl rfl) rfl ?_
    refine wl_val (v_assign' (by conv => (lhs; whnf))) rfl ?_
    refine wl_val (v_assign' (by conv => (lhs; whnf))) rfl ?_
    refine wl_nil ?_
    refine then_go ?_
    refine wc_seq ?_
    refine wc_region ?_
    refine wl_val (v_load rfl (st.reads 2 rfl TF.t30 (getV_all rfl))) rfl ?_
    refine wl_val (v_fa TF.f46_1 rfl) rfl ?_
    refine wl_val (v_load rfl (st.reads 1 rfl TF.t3 rfl)) rfl ?_
    refine wl_call rfl (c_rread i st.im (hd0.mono hle1) (by omega)) rfl ?_
    rintro v35 w ⟨t, m2, hg2, hi2, sv10, rfl, hs10⟩
    have st := st.grown hg2 t hi2
    rw [readD_eq hd0.ok, readD_len hd0.ok] at hs10
    refine wl_val (v_move' (by conv => (lhs; whnf))) rfl ?_
    refine wl_val (v_extract rfl rfl) rfl ?_
    refine wl_val (v_extract rfl rfl) rfl ?_
    refine wl_val (v_assign' (by conv => (lhs; whnf))) rfl ?_
    refine wl_val (v_assign' (by conv => (lhs; whnf))) rfl ?_
    refine wl_nil ?_
    refine then_go ?_
    refine wc_seq ?_
    refine wc_draw TF.mixed ?_
    have st := st.pure (touch_drew _)
    refine fl_ld 0 rfl (v_load rfl (st.reads 2 rfl TF.t30 (getV_all rfl))) (by kernel_rfl) ?_
    refine fl_val 1 rfl (fun _ => (v_move' (by conv => (lhs; whnf)))) rfl (by kernel_rfl) ?_
    refine fl_val 2 rfl (fun _ => (v_move' (by conv => (lhs; whnf)))) rfl (by kernel_rfl) ?_
    refine fl_eff1 3 [] [0] (by kernel_rfl) ⟨obl_ld rfl rfl rfl (v_load rfl (st.reads 2 rfl TF.t30 (getV_all rfl))), trivial⟩ rfl ?_
    refine wl_call rfl (c_same st.im (hs8.mono hg2.le) hs10) rfl ?_
    rintro v41 w ⟨rfl, rfl⟩
    rw [show decide ((readD d n i).1 = (readD d n i).1) = true from decide_eq_true rfl]
    refine wl_nil ⟨rfl, ?_⟩
    refine fl_val 4 rfl (fun _ => (v_move' (by conv => (lhs; whnf)))) rfl (by kernel_rfl) ?_
    refine fl_on 5 rfl rfl rfl rfl (fun _ => (v_move' (by conv => (lhs; whnf)))) rfl (by kernel_rfl) ?_
    refine fl_on 6 rfl rfl rfl rfl (fun _ => (v_move' (by conv => (lhs; whnf)))) rfl (by kernel_rfl) ?_
    refine fl_on 7 rfl rfl rfl rfl (fun _ => (v_eql rfl rfl)) rfl (by kernel_rfl) ?_
    rw [show decide ((readD d n i).2 = (readD d n i).2) = true from decide_eq_true rfl]
    refine fl_val 8 rfl (fun _ => (v_pick rfl)) rfl (by kernel_rfl) ?_
    refine fl_eff1 9 [8, 7, 6, 5] [] (by kernel_rfl) ⟨obl_ld rfl rfl rfl (v_load rfl (st.reads 2 rfl TF.t30 (getV_all rfl))), trivial⟩ rfl ?_
    refine wl_storeW (cs := #[sv, wtv, .int .i64 d.fuse, .bool d.down]) 0 st rfl TF.t30 rfl rfl rfl rfl (by simp [hso, hwo, one_int, one_bool]) ?_
    intro w st
    refine wl_nil ⟨rfl, ?_⟩
    refine fl_eff1 10 [] [] (by kernel_rfl) trivial rfl ?_
    refine wl_val (v_assign' (by conv => (lhs; whnf))) rfl ?_
    refine wl_nil ⟨rfl, ?_⟩
    refine fl_nil (by kernel_rfl) trivial ?_
    refine then_go ?_
    refine wc_ret (block_ret (then_ret ?_))
    refine ret2c rfl (st.reads 0 rfl TF.t30 (getV_all rfl)) rfl ?_
    exact ⟨m2, wv, d, _, rfl, fun q o h => hg2.le q o (hle1 q o h), ((st.drop 0).drop 0).drop 0, hd0.mono fun q o h => hg2.le q o (hle1 q o h), hf.up⟩
  · refine wc_seq ?_
    refine wc_region ?_
    refine wl_val (v_eql rfl rfl) rfl ?_
    refine wl_val (v_assign' (by conv => (lhs; whnf))) rfl ?_
    refine wl_nil ?_
    refine then_go ?_
    refine wc_if rfl (fun h47 => ?_) (fun h47 => ?_)
    · refine wc_seq ?_
      refine wc_region ?_
      refine wl_val (v_load rfl (st.reads 1 rfl TF.t46 (getV_all rfl))) rfl ?_
      refine wl_call rfl (c_opbytes st.im hko) rfl ?_
      rintro v50 w ⟨b12, rfl, t, hb12⟩
      have st := st.new (E := blk b12 _ _) t hb12
      refine wl_val (v_assign' (by conv => (lhs; whnf))) rfl ?_
      refine wl_nil ?_
      refine then_go ?_
      refine wc_seq ?_
      refine wc_region ?_
      refine wl_val (v_move' (by conv => (lhs; whnf))) rfl ?_
      refine wl_val (v_fa TF.f46_1 rfl) rfl ?_
      refine wl_val (v_load rfl (st.reads 2 rfl TF.t3 rfl)) rfl ?_
      refine wl_val (v_move' (by conv => (lhs; whnf))) rfl ?_
      obtain ⟨ml, himl, hlel, hbl, hnl⟩ := st.lend (i := 0) rfl
      have hlen : (List.replicate (opN N) c).length = opN N := List.length_replicate
      have hbm : SlM ml (.slice (some ⟨b12, 0, none⟩) (opN N) (opN N)) 1 (List.replicate (opN N) c).length (bs (List.replicate (opN N) c)) := by
        rw [hlen]
        exact SlM.of hbl (by simp [bs]) (Nat.le_refl _) (fun j u hj => by simpa using hj)
      refine wl_call rfl (disk_callAt 4 st rfl (c_write i himl (st.at (i := 4) rfl) (hnl 4 _ (by decide) rfl) hd0.ok ⟨hf.lo, hf.hi⟩ (by omega) hbm)) rfl ?_
      rintro v55 w ⟨wv1, d1, st, hd1, rfl⟩
      change St _ _ _ _ _ (blk b12 _ _ :: blk b6 #[.slice none 0 0, .slice none 0 0, .int .i64 0, .bool false] _ :: blk b5 #[.int .i64 kd, .int .i64 i, .int .i64 N, u8 c, kv] _ :: blk b4 #[sv, wtv, .int .i64 d.fuse, .bool d.down] _ :: diskO b s n wv1 d1 :: Es) at st
      refine wl_val (v_assign' (by conv => (lhs; whnf))) rfl ?_
      refine wl_nil ?_
      refine then_go ?_
      refine wc_cut (fun r w' => ∃ m2 cs b14, r 6 = .pointer (some ⟨b6, 0, none⟩) ∧ r 12 = .slice (some ⟨b12, 0, none⟩) (opN N) (opN N) ∧ r 13 = .int .i64 (writeD d n i (List.replicate (opN N) c)).2 ∧ r 14 = .pointer (some ⟨b14, 0, none⟩) ∧ r 15 = .int .i64 (writeD d n i (List.replicate (opN N) c)).2 ∧ RefM m2 (.agg cs) n d1 ∧ cs.size = 4 ∧ (∀ u ∈ cs.toList, u.oneCell' = true) ∧ (∀ q o, m q = some o → m2 q = some o) ∧ St m0 m2 [] w0 w' (blk b14 cs 30 :: blk b12 (bs (List.replicate (opN N) c)).toArray 5 :: blk b6 #[.slice none 0 0, .slice none 0 0, .int .i64 0, .bool false] 30 :: blk b5 #[.int .i64 kd, .int .i64 i, .int .i64 N, u8 c, kv] 46 :: blk b4 #[sv, wtv, .int .i64 d.fuse, .bool d.down] 30 :: diskO b s n wv1 d1 :: Es)) ?_ ?_
      · refine wc_draw TF.mixed ?_
        have st := st.pure (touch_drew _)
        refine fl_ld 0 rfl (v_load rfl (by first | exact st.reads 3 rfl TF.t30 (getV_all rfl) | exact st.reads 4 rfl TF.t30 (getV_all rfl))) (by kernel_rfl) ?_
        refine fl_val 1 rfl (fun _ => (v_fa TF.f46_1 rfl)) rfl (by kernel_rfl) ?_
        refine fl_ld 2 rfl (v_load rfl (by first | exact st.reads 2 rfl TF.t3 rfl | exact st.reads 3 rfl TF.t3 rfl)) (by kernel_rfl) ?_
        refine fl_ld 3 rfl (v_load rfl (by first | exact st.reads 2 rfl TF.t46 (getV_all rfl) | exact st.reads 3 rfl TF.t46 (getV_all rfl))) (by kernel_rfl) ?_
        refine fl_effs [4, 9] (by kernel_rfl) ⟨obl_ld rfl rfl rfl (v_load rfl (by first | exact st.reads 2 rfl TF.t46 (getV_all rfl) | exact st.reads 3 rfl TF.t46 (getV_all rfl))), obl_ld rfl rfl rfl (v_load rfl (by first | exact st.reads 2 rfl TF.t3 rfl | exact st.reads 3 rfl TF.t3 rfl)), obl_ld rfl rfl rfl (v_load rfl (by first | exact st.reads 3 rfl TF.t30 (getV_all rfl) | exact st.reads 4 rfl TF.t30 (getV_all rfl))), trivial⟩ (all2 ?_ ?_)
        · refine stepE 4 (pure' := [1]) (lds' := [2, 0]) rfl (by kernel_rfl) (by kernel_rfl) ?_
          refine wl_call rfl (c_opbytes st.im hko) rfl ?_
          rintro v61 w ⟨b61, rfl, t, hb61⟩
          have st := st.new (E := blk b61 _ _) t hb61
          obtain ⟨m1, hg1, hm1, st⟩ := st.freeze (i := 0) rfl (by simp)
          change St _ _ _ _ _ (_ :: _) at st
          have hlen2 : (List.replicate (opN N) c).length = opN N := List.length_replicate
          have hbm2 : SlM m1 (.slice (some ⟨b61, 0, none⟩) (opN N) (opN N)) 1 (List.replicate (opN N) c).length (bs (List.replicate (opN N) c)) := by
            rw [hlen2]
            exact SlM.of hm1 (by simp [bs]) (Nat.le_refl _) (fun j u hj => by simpa using hj)
          refine wl_nil ⟨rfl, ?_⟩
          refine fl_effs [5, 9] (by kernel_rfl) ⟨obl_ld rfl rfl rfl (v_load rfl (by first | exact st.reads 2 rfl TF.t3 rfl | exact st.reads 3 rfl TF.t3 rfl)), obl_ld rfl rfl rfl (v_load rfl (by first | exact st.reads 3 rfl TF.t30 (getV_all rfl) | exact st.reads 4 rfl TF.t30 (getV_all rfl))), trivial⟩ (all2 ?_ ?_)
          · refine stepE 5 (pure' := [1]) (lds' := []) rfl (by kernel_rfl) (by kernel_rfl) ?_
            refine wl_call rfl (c_rput i st.im (hd0.mono hg1.le) (by omega) ⟨hf.lo, hf.hi⟩ hbm2) rfl ?_
            rintro v62 w ⟨t, m2, hg2, hi2, rv, rfl, hR⟩
            obtain ⟨cs, rfl, hcs, hcone⟩ := refM_one hR
            have st := st.grown hg2 t hi2
            refine wl_nil ⟨rfl, ?_⟩
            refine fl_val 6 rfl (fun _ => (v_move' (by conv => (lhs; whnf)))) rfl (by kernel_rfl) ?_
            refine fl_val 7 rfl (fun _ => (v_extract rfl rfl)) rfl (by kernel_rfl) ?_
            refine fl_val 8 rfl (fun _ => (v_extract rfl rfl)) rfl (by kernel_rfl) ?_
            refine fl_eff1 9 [8, 7, 6, 1] [] (by kernel_rfl) trivial rfl ?_
            refine wl_alloc TF.z30 st rfl ?_
            intro b14 w st
            refine wl_nil ⟨rfl, ?_⟩
            refine fl_eff1 10 [8] [] (by kernel_rfl) trivial rfl ?_
            refine wl_storeW (cs := cs) 0 st rfl TF.t30 rfl rfl hcs rfl hcone ?_
            intro w st
            refine wl_nil ⟨rfl, ?_⟩
            refine fl_eff1 11 [] [] (by kernel_rfl) trivial rfl ?_
            refine wl_val (v_assign' (by conv => (lhs; whnf))) rfl ?_
            refine wl_nil ⟨rfl, ?_⟩
            refine fl_nil (by kernel_rfl) trivial ?_
            refine then_go ?_
            exact ⟨m2, cs, _, rfl, rfl, rfl, rfl, rfl, by rw [hd1]; exact hR, hcs, hcone, fun q o h => hg2.le q o (hg1.le q o h), st⟩
          · refine stepE 9 (pure' := [1]) (lds' := [2, 0]) rfl (by kernel_rfl) (by kernel_rfl) ?_
            refine wl_alloc TF.z30 st rfl ?_
            intro b14 w st
            refine wl_nil ⟨rfl, ?_⟩
            refine fl_eff1 5 [1] [] (by kernel_rfl) ⟨obl_ld rfl rfl rfl (v_load rfl (by first | exact st.reads 2 rfl TF.t3 rfl | exact st.reads 3 rfl TF.t3 rfl)), obl_ld rfl rfl rfl (v_load rfl (by first | exact st.reads 3 rfl TF.t30 (getV_all rfl) | exact st.reads 4 rfl TF.t30 (getV_all rfl))), trivial⟩ rfl ?_
            refine wl_call rfl (c_rput i st.im (hd0.mono hg1.le) (by omega) ⟨hf.lo, hf.hi⟩ hbm2) rfl ?_
            rintro v62 w ⟨t, m2, hg2, hi2, rv, rfl, hR⟩
            obtain ⟨cs, rfl, hcs, hcone⟩ := refM_one hR
            have st := st.grown hg2 t hi2
            refine wl_nil ⟨rfl, ?_⟩
            refine fl_val 6 rfl (fun _ => (v_move' (by conv => (lhs; whnf)))) rfl (by kernel_rfl) ?_
            refine fl_val 7 rfl (fun _ => (v_extract rfl rfl)) rfl (by kernel_rfl) ?_
            refine fl_val 8 rfl (fun _ => (v_extract rfl rfl)) rfl (by kernel_rfl) ?_
            refine fl_eff1 10 [8] [] (by kernel_rfl) trivial rfl ?_
            refine wl_storeW (cs := cs) 0 st rfl TF.t30 rfl rfl hcs rfl hcone ?_
            intro w st
            refine wl_nil ⟨rfl, ?_⟩
            refine fl_eff1 11 [] [] (by kernel_rfl) trivial rfl ?_
            refine wl_val (v_assign' (by conv => (lhs; whnf))) rfl ?_
            refine wl_nil ⟨rfl, ?_⟩
            refine fl_nil (by kernel_rfl) trivial ?_
            refine then_go ?_
            exact ⟨m2, cs, _, rfl, rfl, rfl, rfl, rfl, by rw [hd1]; exact hR, hcs, hcone, fun q o h => hg2.le q o (hg1.le q o h), st⟩
        · refine stepE 9 (pure' := [1]) (lds' := [3, 2, 0]) rfl (by kernel_rfl) (by kernel_rfl) ?_
          refine wl_alloc TF.z30 st rfl ?_
          intro b14 w st
          refine wl_nil ⟨rfl, ?_⟩
          refine fl_eff1 4 [1] [2, 0] (by kernel_rfl) ⟨obl_ld rfl rfl rfl (v_load rfl (by first | exact st.reads 2 rfl TF.t46 (getV_all rfl) | exact st.reads 3 rfl TF.t46 (getV_all rfl))), obl_ld rfl rfl rfl (v_load rfl (by first | exact st.reads 2 rfl TF.t3 rfl | exact st.reads 3 rfl TF.t3 rfl)), obl_ld rfl rfl rfl (v_load rfl (by first | exact st.reads 3 rfl TF.t30 (getV_all rfl) | exact st.reads 4 rfl TF.t30 (getV_all rfl))), trivial⟩ rfl ?_
          refine wl_call rfl (c_opbytes st.im hko) rfl ?_
          rintro v61 w ⟨b61, rfl, t, hb61⟩
          have st := st.new (E := blk b61 _ _) t hb61
          obtain ⟨m1, hg1, hm1, st⟩ := st.freeze (i := 0) rfl (by simp)
          change St _ _ _ _ _ (_ :: _) at st
          have hlen2 : (List.replicate (opN N) c).length = opN N := List.length_replicate
          have hbm2 : SlM m1 (.slice (some ⟨b61, 0, none⟩) (opN N) (opN N)) 1 (List.replicate (opN N) c).length (bs (List.replicate (opN N) c)) := by
            rw [hlen2]
            exact SlM.of hm1 (by simp [bs]) (Nat.le_refl _) (fun j u hj => by simpa using hj)
          refine wl_nil ⟨rfl, ?_⟩
          refine fl_eff1 5 [1] [] (by kernel_rfl) ⟨obl_ld rfl rfl rfl (v_load rfl (by first | exact st.reads 2 rfl TF.t3 rfl | exact st.reads 3 rfl TF.t3 rfl)), obl_ld rfl rfl rfl (v_load rfl (by first | exact st.reads 3 rfl TF.t30 (getV_all rfl) | exact st.reads 4 rfl TF.t30 (getV_all rfl))), trivial⟩ rfl ?_
          refine wl_call rfl (c_rput i st.im (hd0.mono hg1.le) (by omega) ⟨hf.lo, hf.hi⟩ hbm2) rfl ?_
          rintro v62 w ⟨t, m2, hg2, hi2, rv, rfl, hR⟩
          obtain ⟨cs, rfl, hcs, hcone⟩ := refM_one hR
          have st := st.grown hg2 t hi2
          refine wl_nil ⟨rfl, ?_⟩
          refine fl_val 6 rfl (fun _ => (v_move' (by conv => (lhs; whnf)))) rfl (by kernel_rfl) ?_
          refine fl_val 7 rfl (fun _ => (v_extract rfl rfl)) rfl (by kernel_rfl) ?_
          refine fl_val 8 rfl (fun _ => (v_extract rfl rfl)) rfl (by kernel_rfl) ?_
          refine fl_eff1 10 [8] [] (by kernel_rfl) trivial rfl ?_
          refine wl_storeW (cs := cs) 0 st rfl TF.t30 rfl rfl hcs rfl hcone ?_
          intro w st
          refine wl_nil ⟨rfl, ?_⟩
          refine fl_eff1 11 [] [] (by kernel_rfl) trivial rfl ?_
          refine wl_val (v_assign' (by conv => (lhs; whnf))) rfl ?_
          refine wl_nil ⟨rfl, ?_⟩
          refine fl_nil (by kernel_rfl) trivial ?_
          refine then_go ?_
          exact ⟨m2, cs, _, rfl, rfl, rfl, rfl, rfl, by rw [hd1]; exact hR, hcs, hcone, fun q o h => hg2.le q o (hg1.le q o h), st⟩
      · rintro r w ⟨m2, cs, b14, h6, h12, h13, h14, h15, hR, hcs, hcone, hmm, st⟩
        refine wc_o 6 h6 (wc_o 12 h12 (wc_o 13 h13 (wc_o 14 h14 (wc_o 15 h15 ?_))))
        refine wc_seq ?_
        refine wc_seq ?_
        refine wc_region ?_
        refine wl_val (v_assign' (by conv => (lhs; whnf))) rfl ?_
        refine wl_nil ?_
        refine then_go ?_
        refine wc_block ?_
        refine wc_loop (S := Nat) (fun q r w' => ∃ j S, q + j = opN N ∧ r 6 = .pointer (some ⟨b6, 0, none⟩) ∧ r 12 = .slice (some ⟨b12, 0, none⟩) (opN N) (opN N) ∧ r 13 = .int .i64 (writeD d n i (List.replicate (opN N) c)).2 ∧ r 14 = .pointer (some ⟨b14, 0, none⟩) ∧ r 15 = .int .i64 (writeD d n i (List.replicate (opN N) c)).2 ∧ r 16 = .int .i64 j ∧ S.length = opN N ∧ (∀ u ∈ S, ∃ x, u = .int .u8 x) ∧ St m0 m2 [] w0 w' (blk b14 cs 30 :: blk b12 S.toArray 5 :: blk b6 #[.slice none 0 0, .slice none 0 0, .int .i64 0, .bool false] 30 :: blk b5 #[.int .i64 kd, .int .i64 i, .int .i64 N, u8 c, kv] 46 :: blk b4 #[sv, wtv, .int .i64 d.fuse, .bool d.down] 30 :: diskO b s n wv1 d1 :: Es)) id (opN N) ⟨0, bs (List.replicate (opN N) c), rfl, rfl, rfl, rfl, rfl, rfl, rfl, by simp [bs], by simp [bs, u8], st⟩ ?_
        rintro q2 r w2 ⟨j, S, hqj, h6, h12, h13, h14, h15, h16, hS, hSi, st⟩
        refine wc_o 6 h6 (wc_o 12 h12 (wc_o 13 h13 (wc_o 14 h14 (wc_o 15 h15 (wc_o 16 h16 ?_)))))
        refine wc_seq ?_
        refine wc_seq ?_
        refine wc_region ?_
        refine wl_val (v_move' (by conv => (lhs; whnf))) rfl ?_
        refine wl_val (v_move' (by conv => (lhs; whnf))) rfl ?_
        refine wl_val (v_len_s Try.underlying22 rfl) rfl ?_
        refine wl_val (v_lss rfl rfl) rfl ?_
        refine wl_nil ?_
        refine then_go ?_
        refine wc_if rfl (fun h68 => ?_) (fun h68 => ?_)
        · refine wc_skip ?_
          refine then_go ?_
          refine wc_seq ?_
          refine wc_block ?_
          have hjk : j < opN N := by omega
          have hk200 : opN N ≤ 200 := by unfold opN; split <;> omega
          obtain ⟨x, hx⟩ := hSi S[j] (List.getElem_mem _)
          refine wc_region ?_
          refine wl_val (v_move' (by conv => (lhs; whnf))) rfl ?_
          refine wl_val (v_move' (by conv => (lhs; whnf))) rfl ?_
          refine wl_val (v_ias j Try.underlying22 TF.t5 rfl rfl (by first | rfl | omega) (by first | omega | (dsimp only at *; omega))) rfl ?_
          refine wl_val (v_load rfl (st.reads (v := .int .u8 x) 1 rfl TF.t5 (by simp [getV, ← hx]))) rfl ?_
          refine wl_val (v_add rfl rfl) rfl ?_
          refine wl_val (v_ias j Try.underlying22 TF.t5 rfl rfl (by first | rfl | omega) (by first | omega | (dsimp only at *; omega))) rfl ?_
          refine wl_store1 (v := .int .u8 (IntKind.u8.wrap (x + 1))) 1 st rfl TF.t5 rfl rfl rfl (by simp; omega) ?_
          intro w st
          refine wl_nil ?_
          refine block_go (then_go ?_)
          refine wc_region ?_
          refine wl_val (v_move' (by conv => (lhs; whnf))) rfl ?_
          refine wl_val (v_add' rfl rfl rfl (by first | omega | (dsimp only at *; omega)) (by first | omega | (dsimp only at *; omega))) rfl ?_
          refine wl_val (v_assign' (by conv => (lhs; whnf))) rfl ?_
          refine wl_nil ?_
          refine then_go ?_
          refine ⟨q2 - 1, by simp; omega, j + 1, S.set j (.int .u8 (IntKind.u8.wrap (x + 1))), by omega, rfl, rfl, rfl, rfl, rfl, rfl, by simpa using hS, ?_, ?_⟩
          · intro u hu
            rcases List.mem_or_eq_of_mem_set hu with h | h
            · exact hSi u h
            · exact ⟨_, h⟩
          · have e : S.toArray.setIfInBounds (0 + j * 1) (.int .u8 (IntKind.u8.wrap (x + 1))) = (S.set j (.int .u8 (IntKind.u8.wrap (x + 1)))).toArray := by
              rw [show 0 + j * 1 = j by omega]
              simp
            rw [← e]
            exact st
        · refine wc_exit (then_exit (then_exit (block_hit ?_)))
          refine then_go ?_
          refine wc_seq ?_
          refine wc_region ?_
          refine wl_val (v_load rfl (st.reads 0 rfl TF.t30 (getV_all hcs))) rfl ?_
          refine wl_val (v_move' (by conv => (lhs; whnf))) rfl ?_
          refine wl_val (v_move' (by conv => (lhs; whnf))) rfl ?_
          refine wl_val (v_eql rfl rfl) rfl ?_
          rw [show decide ((writeD d n i (List.replicate (opN N) c)).2 = (writeD d n i (List.replicate (opN N) c)).2) = true from decide_eq_true rfl]
          refine wl_storeW (cs := cs) 2 st rfl TF.t30 rfl rfl hcs rfl hcone ?_
          intro w st
          refine wl_val (v_assign' (by conv => (lhs; whnf))) rfl ?_
          refine wl_nil ?_
          refine then_go ?_
          refine wc_ret (block_ret (then_ret ?_))
          refine ret2c rfl (st.reads 2 rfl TF.t30 (getV_all hcs)) rfl ?_
          exact ⟨m2, wv1, d1, _, rfl, hmm, ((((st.drop 0).drop 0).drop 0).drop 0).drop 0, hR, by rw [hd1]; exact hf.write _ _ _⟩
    · refine wc_seq ?_
      refine wc_region ?_
      refine wl_val (v_eql rfl rfl) rfl ?_
      refine wl_val (v_assign' (by conv => (lhs; whnf))) rfl ?_
      refine wl_nil ?_
      refine then_go ?_
      refine wc_if rfl (fun h81 => ?_) (fun h81 => ?_)
      · refine wc_seq ?_
        refine wc_region ?_
        refine wl_val (v_move' (by conv => (lhs; whnf))) rfl ?_
        refine wl_call rfl (disk_callAt 3 st rfl (c_sync st.im (st.at (i := 3) rfl) (st.none (i := 3) rfl) hd0.ok ⟨hf.lo, hf.hi⟩ (by omega))) rfl ?_
        rintro v84 w ⟨wv1, d1, st, hd1, rfl⟩
        change St _ _ _ _ _ (blk b6 #[.slice none 0 0, .slice none 0 0, .int .i64 0, .bool false] _ :: blk b5 #[.int .i64 kd, .int .i64 i, .int .i64 N, u8 c, kv] _ :: blk b4 #[sv, wtv, .int .i64 d.fuse, .bool d.down] _ :: diskO b s n wv1 d1 :: Es) at st
        refine wl_val (v_assign' (by conv => (lhs; whnf))) rfl ?_
        refine wl_nil ?_
        refine then_go ?_
        refine wc_seq ?_
        refine wc_region ?_
        refine wl_val (v_load rfl (st.reads 2 rfl TF.t30 (getV_all rfl))) rfl ?_
        refine wl_call rfl (c_rsync st.im hd0 (by omega) ⟨hf.lo, hf.hi⟩) rfl ?_
        rintro v87 w ⟨t, m2, hg2, hi2, rv, rfl, hR⟩
        obtain ⟨cs, rfl, hcs, hcone⟩ := refM_one hR
        have st := st.grown hg2 t hi2
        refine wl_val (v_move' (by conv => (lhs; whnf))) rfl ?_
        refine wl_val (v_extract rfl rfl) rfl ?_
        refine wl_val (v_extract rfl rfl) rfl ?_
        refine wl_alloc TF.z30 st rfl ?_
        intro b18 w st
        refine wl_storeW (cs := cs) 0 st rfl TF.t30 rfl rfl hcs rfl hcone ?_
        intro w st
        refine wl_val (v_assign' (by conv => (lhs; whnf))) rfl ?_
        refine wl_nil ?_
        refine then_go ?_
        refine wc_seq ?_
        refine wc_region ?_
        refine wl_val (v_load rfl (st.reads 0 rfl TF.t30 (getV_all hcs))) rfl ?_
        refine wl_val (v_move' (by conv => (lhs; whnf))) rfl ?_
        refine wl_val (v_move' (by conv => (lhs; whnf))) rfl ?_
        refine wl_val (v_eql rfl rfl) rfl ?_
        rw [show decide ((syncD d).2 = (syncD d).2) = true from decide_eq_true rfl]
        refine wl_storeW (cs := cs) 1 st rfl TF.t30 rfl rfl hcs rfl hcone ?_
        intro w st
        refine wl_val (v_assign' (by conv => (lhs; whnf))) rfl ?_
        refine wl_nil ?_
        refine then_go ?_
        refine wc_ret (block_ret (then_ret ?_))
        refine ret2c rfl (st.reads 1 rfl TF.t30 (getV_all hcs)) rfl ?_
        exact ⟨m2, wv1, d1, _, rfl, hg2.le, (((st.drop 0).drop 0).drop 0).drop 0, by rw [hd1]; exact hR, by rw [hd1]; exact hf.sync⟩
      · refine wc_seq ?_
        refine wc_region ?_
        refine wl_val (v_eql rfl rfl) rfl ?_
        refine wl_val (v_assign' (by conv => (lhs; whnf))) rfl ?_
        refine wl_nil ?_
        refine then_go ?_
        refine wc_if rfl (fun h94 => ?_) (fun h94 => ?_)
        · refine wc_seq ?_
          refine wc_region ?_
          refine wl_val (v_move' (by conv => (lhs; whnf))) rfl ?_
          refine wl_val (v_fa TF.f46_2 rfl) rfl ?_
          refine wl_val (v_load rfl (st.reads 1 rfl TF.t3 rfl)) rfl ?_
          refine wl_call rfl (disk_callAt 3 st rfl (c_fuse N st.im (st.at (i := 3) rfl) (st.none (i := 3) rfl))) rfl ?_
          rintro v99 w ⟨wv1, d1, st, hd1⟩
          change St _ _ _ _ _ (blk b6 #[.slice none 0 0, .slice none 0 0, .int .i64 0, .bool false] _ :: blk b5 #[.int .i64 kd, .int .i64 i, .int .i64 N, u8 c, kv] _ :: blk b4 #[sv, wtv, .int .i64 d.fuse, .bool d.down] _ :: diskO b s n wv1 d1 :: Es) at st
          refine wl_nil ?_
          refine then_go ?_
          refine wc_seq ?_
          refine wc_region ?_
          refine wl_val (v_load rfl (st.reads 2 rfl TF.t30 (getV_all rfl))) rfl ?_
          refine wl_val (v_fa TF.f46_2 rfl) rfl ?_
          refine wl_val (v_load rfl (st.reads 1 rfl TF.t3 rfl)) rfl ?_
          refine wl_call rfl (c_rfuse N st.im hd0) rfl ?_
          rintro v103 w ⟨t, m2, hg2, hi2, hR⟩
          obtain ⟨cs, rfl, hcs, hcone⟩ := refM_one hR
          have st := st.grown hg2 t hi2
          refine wl_storeW (cs := cs) 0 st rfl TF.t30 rfl rfl hcs rfl hcone ?_
          intro w st
          refine wl_val (v_assign' (by conv => (lhs; whnf))) rfl ?_
          refine wl_nil ?_
          refine then_go ?_
          refine wc_ret (block_ret (then_ret ?_))
          refine ret2c rfl (st.reads 0 rfl TF.t30 (getV_all hcs)) rfl ?_
          exact ⟨m2, wv1, d1, _, rfl, hg2.le, ((st.drop 0).drop 0).drop 0, by rw [hd1]; exact hR, by rw [hd1]; exact hf.fuse N hN⟩
        · refine wc_seq ?_
          refine wc_region ?_
          refine wl_val (v_eql rfl rfl) rfl ?_
          refine wl_val (v_assign' (by conv => (lhs; whnf))) rfl ?_
          refine wl_nil ?_
          refine then_go ?_
          refine wc_if rfl (fun h104 => ?_) (fun h104 => ?_)
          · refine wc_seq ?_
            refine wc_region ?_
            refine wl_val (v_move' (by conv => (lhs; whnf))) rfl ?_
            refine wl_val (v_fa TF.f46_4 rfl) rfl ?_
            refine wl_val (v_load rfl (st.reads 1 rfl TF.t44 rfl)) rfl ?_
            refine wl_call rfl (disk_callAt 3 st rfl (c_crash st.im (st.at (i := 3) rfl) (st.none (i := 3) rfl) hd0.ok (by omega) hk)) rfl ?_
            rintro v109 w ⟨wv1, d1, st, hd1⟩
            change St _ _ _ _ _ (blk b6 #[.slice none 0 0, .slice none 0 0, .int .i64 0, .bool false] _ :: blk b5 #[.int .i64 kd, .int .i64 i, .int .i64 N, u8 c, kv] _ :: blk b4 #[sv, wtv, .int .i64 d.fuse, .bool d.down] _ :: diskO b s n wv1 d1 :: Es) at st
            refine wl_nil ?_
            refine then_go ?_
            refine wc_seq ?_
            refine wc_region ?_
            refine wl_val (v_load rfl (st.reads 2 rfl TF.t30 (getV_all rfl))) rfl ?_
            refine wl_val (v_fa TF.f46_4 rfl) rfl ?_
            refine wl_val (v_load rfl (st.reads 1 rfl TF.t44 rfl)) rfl ?_
            refine wl_call rfl (c_rcrash st.im hd0 (by omega) hk) rfl ?_
            rintro v113 w ⟨t, m2, hg2, hi2, hR⟩
            obtain ⟨cs, rfl, hcs, hcone⟩ := refM_one hR
            have st := st.grown hg2 t hi2
            refine wl_storeW (cs := cs) 0 st rfl TF.t30 rfl rfl hcs rfl hcone ?_
            intro w st
            refine wl_val (v_assign' (by conv => (lhs; whnf))) rfl ?_
            refine wl_nil ?_
            refine then_go ?_
            refine wc_ret (block_ret (then_ret ?_))
            refine ret2c rfl (st.reads 0 rfl TF.t30 (getV_all hcs)) rfl ?_
            exact ⟨m2, wv1, d1, _, rfl, hg2.le, ((st.drop 0).drop 0).drop 0, by rw [hd1]; exact hR, by rw [hd1]; exact Few.crash q keep⟩
          · refine wc_skip ?_
            refine block_go (then_go ?_)
            refine wc_seq ?_
            refine wc_region ?_
            refine wl_val (v_load rfl (st.reads 2 rfl TF.t30 (getV_all rfl))) rfl ?_
            refine wl_storeW (cs := #[sv, wtv, .int .i64 d.fuse, .bool d.down]) 0 st rfl TF.t30 rfl rfl rfl rfl (by simp [hso, hwo, one_int, one_bool]) ?_
            intro w st
            refine wl_val (v_assign' (by conv => (lhs; whnf))) rfl ?_
            refine wl_nil ?_
            refine then_go ?_
            refine wc_ret ?_
            refine ret2c rfl (st.reads 0 rfl TF.t30 (getV_all rfl)) rfl ?_
            exact ⟨m, wv, d, _, rfl, fun _ _ h => h, ((st.drop 0).drop 0).drop 0, hd0, hf.up⟩

end
end Go.Proofs.Ytekhcjgmgflmkaa
