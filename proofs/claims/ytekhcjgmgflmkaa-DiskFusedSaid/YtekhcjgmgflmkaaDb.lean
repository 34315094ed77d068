/-
  The disk: its calls that write, walked.
-/
import Derived.Test.YtekhcjgmgflmkaaDa
namespace Go.Proofs.Ytekhcjgmgflmkaa
open Go Go.RowKit K DK

/-- The pieces of a disk in memory: its fields, its safe sectors, what waits. -/
def diskL (b s n : Nat) (wv : Value) (d : DS) : List Ent :=
  [blk b #[.slice (some ⟨s, 0, none⟩) n n, wv, .int .i64 d.fuse, .bool d.down] 62, blk s (bs d.S).toArray 64, rowE wv 66 65 d.wt.length (wtCells d.wt)]

def diskO (b s n : Nat) (wv : Value) (d : DS) : Ent := joinE (diskL b s n wv d)

/-- What a call on a disk does. -/
def DiskCall (f : FuncId) (args : List Value) (b s n : Nat) (wv : Value) (d : DS) (w : World) (R : Value → DS → Prop) : Prop :=
  Ret Try.prog f (.pointer (some ⟨b, 0, none⟩) :: args).toArray w fun v w' => ∃ wv' d', Tch w w' (diskO b s n wv d).foot (diskO b s n wv' d').foot ∧ (diskO b s n wv' d').holds w' ∧ R v d'

theorem row_few {w : World} {v : Value} {e size n : Nat} {xs : List Value} (h : (rowE v e size n xs).holds w) : n ≤ 9223372036854775807 := by
  rcases h.2 with ⟨_, rfl⟩ | ⟨g, cap, cur, _, _, _, hc, hm, _⟩
  · omega
  · unfold maxLen at hm; omega

theorem disk_snap {m0 m : Mem} {F : List Nat} {w0 w : World} {Es : List Ent} {b s n : Nat} {wv : Value} {d : DS} (st : St m0 m F w0 w (diskL b s n wv d ++ Es)) (ok : d.ok n) : diskM (heapM w) b n d :=
  ⟨ok, ⟨s, wv, st.at (i := 0) rfl, st.at (i := 1) rfl, row_SlM (st.at (i := 2) rfl) fun _ _ _ h => h⟩, row_few (st.at (i := 2) rfl)⟩


section
variable {m : Mem} {w : World} {b s n : Nat} {wv : Value} {d : DS}

theorem c_burns (him : Im m w) (hE : (diskO b s n wv d).holds w) (hm : ∀ k ∈ (diskO b s n wv d).foot, m k = none) (hf : -1 ≤ d.fuse ∧ d.fuse ≤ 9223372036854775807) :
    DiskCall 32 [] b s n wv d w fun v d' => d' = burn d ∧ v = .bool (burn d).down := by
  have st := St.begin him hE hm
  have h1 := hf.1
  have h2 := hf.2
  refine ret_of Try.call32 Try.func32 rfl Try.ntmps32 Try.results32 rfl ?_
  refine wc_seq ?_
  refine wc_region ?_
  refine wl_val (v_assign' (by conv => (lhs; whnf))) rfl ?_
  refine wl_nil ?_
  refine then_go ?_
  refine wc_seq ?_
  refine wc_region ?_
  refine wl_val (v_move' (by conv => (lhs; whnf))) rfl ?_
  refine wl_val (v_move' (by conv => (lhs; whnf))) rfl ?_
  refine wl_val (v_nil rfl) rfl ?_
  refine wl_val (v_fa TF.f62_2 rfl) rfl ?_
  refine wl_val (v_load rfl (by first | assumption | exact st.reads 0 rfl TF.t3 rfl | exact st.reads 1 rfl TF.t3 rfl | exact st.reads 2 rfl TF.t3 rfl | exact st.reads 3 rfl TF.t3 rfl | exact st.reads 4 rfl TF.t3 rfl)) rfl ?_
  refine wl_val (v_eql rfl rfl) rfl ?_
  refine wl_val (v_nil rfl) rfl ?_
  refine wl_val (v_fa TF.f62_3 rfl) rfl ?_
  refine wl_store1 0 st rfl TF.t4 rfl (by conv => (lhs; whnf)) rfl (by first | exact lt_ok rfl | decide | simp) ?_
  intro w st
  have st : St m m _ _ _ (diskL b s n wv { d with down := decide (d.fuse = 0) }) := st
  refine wl_nil ?_
  refine then_go ?_
  refine wc_seq ?_
  refine wc_seq ?_
  refine wc_region ?_
  refine wl_val (v_move' (by conv => (lhs; whnf))) rfl ?_
  refine wl_val (v_nil rfl) rfl ?_
  refine wl_val (v_fa TF.f62_2 rfl) rfl ?_
  refine wl_val (v_load rfl (by first | assumption | exact st.reads 0 rfl TF.t3 rfl | exact st.reads 1 rfl TF.t3 rfl | exact st.reads 2 rfl TF.t3 rfl | exact st.reads 3 rfl TF.t3 rfl | exact st.reads 4 rfl TF.t3 rfl)) rfl ?_
  refine wl_val (v_gtr rfl rfl) rfl ?_
  refine wl_nil ?_
  refine then_go ?_
  refine wc_if rfl (fun h15 => ?_) (fun h15 => ?_)
  · refine wc_region ?_
    refine wl_val (v_move' (by conv => (lhs; whnf))) rfl ?_
    refine wl_val (v_nil rfl) rfl ?_
    refine wl_val (v_fa TF.f62_2 rfl) rfl ?_
    refine wl_val (v_load rfl (by first | assumption | exact st.reads 0 rfl TF.t3 rfl | exact st.reads 1 rfl TF.t3 rfl | exact st.reads 2 rfl TF.t3 rfl | exact st.reads 3 rfl TF.t3 rfl | exact st.reads 4 rfl TF.t3 rfl)) rfl ?_
    refine wl_val (v_sub' rfl rfl rfl (by first | omega | (dsimp only at *; omega)) (by first | omega | (dsimp only at *; omega))) rfl ?_
    refine wl_val (v_nil rfl) rfl ?_
    refine wl_val (v_fa TF.f62_2 rfl) rfl ?_
    refine wl_store1 0 st rfl TF.t3 rfl (by conv => (lhs; whnf)) rfl (by first | exact lt_ok rfl | decide | simp) ?_
    intro w st
    have st : St m m _ _ _ (diskL b s n wv { d with down := decide (d.fuse = 0), fuse := d.fuse - 1 }) := st
    refine wl_nil ?_
    refine then_go ?_
    refine wc_seq ?_
    refine wc_region ?_
    refine wl_val (v_move' (by conv => (lhs; whnf))) rfl ?_
    refine wl_val (v_nil rfl) rfl ?_
    refine wl_val (v_fa TF.f62_3 rfl) rfl ?_
    refine wl_val (v_load rfl (by first | assumption | exact st.reads 0 rfl TF.t4 rfl | exact st.reads 1 rfl TF.t4 rfl | exact st.reads 2 rfl TF.t4 rfl | exact st.reads 3 rfl TF.t4 rfl | exact st.reads 4 rfl TF.t4 rfl)) rfl ?_
    refine wl_val (v_assign' (by conv => (lhs; whnf))) rfl ?_
    refine wl_nil ?_
    refine then_go ?_
    refine wc_ret ?_
    exact ret1 rfl ⟨wv, { d with down := decide (d.fuse = 0), fuse := d.fuse - 1 }, (St.finish (Es := []) st).1, (St.finish (Es := []) st).2, by simp [burn, h15], rfl⟩
  · refine wc_skip ?_
    refine then_go ?_
    refine wc_seq ?_
    refine wc_region ?_
    refine wl_val (v_move' (by conv => (lhs; whnf))) rfl ?_
    refine wl_val (v_nil rfl) rfl ?_
    refine wl_val (v_fa TF.f62_3 rfl) rfl ?_
    refine wl_val (v_load rfl (by first | assumption | exact st.reads 0 rfl TF.t4 rfl | exact st.reads 1 rfl TF.t4 rfl | exact st.reads 2 rfl TF.t4 rfl | exact st.reads 3 rfl TF.t4 rfl | exact st.reads 4 rfl TF.t4 rfl)) rfl ?_
    refine wl_val (v_assign' (by conv => (lhs; whnf))) rfl ?_
    refine wl_nil ?_
    refine then_go ?_
    refine wc_ret ?_
    exact ret1 rfl ⟨wv, { d with down := decide (d.fuse = 0) }, (St.finish (Es := []) st).1, (St.finish (Es := []) st).2, by simp [burn, h15], rfl⟩

theorem c_fuse (i : Int) (him : Im m w) (hE : (diskO b s n wv d).holds w) (hm : ∀ k ∈ (diskO b s n wv d).foot, m k = none) :
    DiskCall 21 [.int .i64 i] b s n wv d w fun _ d' => d' = { d with fuse := max i (-1) } := by
  have st := St.begin him hE hm
  refine ret_of Try.call21 Try.func21 rfl Try.ntmps21 Try.results21 rfl ?_
  refine wc_region ?_
  refine wl_val (v_move' (by conv => (lhs; whnf))) rfl ?_
  refine wl_val (v_move' (by conv => (lhs; whnf))) rfl ?_
  refine wl_val (v_max rfl rfl) rfl ?_
  refine wl_val (v_nil rfl) rfl ?_
  refine wl_val (v_fa TF.f62_2 rfl) rfl ?_
  refine wl_store1 0 st rfl TF.t3 rfl (by conv => (lhs; whnf)) rfl (by first | exact lt_ok rfl | decide | simp) ?_
  intro w st
  have st : St m m _ _ _ (diskL b s n wv { d with fuse := max i (-1) }) := st
  refine wl_nil ?_
  exact end0 ⟨wv, _, (St.finish (Es := []) st).1, (St.finish (Es := []) st).2, rfl⟩

theorem wtCells_snoc (l : List (Nat × By)) (x : Nat × By) : wtCells (l ++ [x]) = wtCells l ++ (Value.int .i64 x.1 :: bs x.2) := by simp [wtCells]

/-- A call on a disk, as whoever owns the disk sees it. -/
theorem disk_call {m0 : Mem} {F : List Nat} {w0 : World} {Es : List Ent} {f : FuncId} {args : List Value} {R : Value → DS → Prop} (st : St m0 m F w0 w (diskO b s n wv d :: Es)) (h : DiskCall f args b s n wv d w R) :
    Ret Try.prog f (.pointer (some ⟨b, 0, none⟩) :: args).toArray w fun v w' => ∃ wv' d', St m0 m F w0 w' (diskO b s n wv' d' :: Es) ∧ R v d' :=
  h.mono fun _ _ ⟨wv', d', t, hE, hR⟩ => ⟨wv', d', st.step 0 rfl t hE, hR⟩

theorem c_write {v : Value} {l : By} (i : Int) (him : Im m w) (hE : (diskO b s n wv d).holds w) (hm : ∀ k ∈ (diskO b s n wv d).foot, m k = none) (ok : d.ok n) (hf : -1 ≤ d.fuse ∧ d.fuse ≤ 9223372036854775807) (hfew : d.wt.length ≤ 1000000)
    (hv : SlM m v 1 l.length (bs l)) :
    DiskCall 24 [.int .i64 i, v] b s n wv d w fun v' d' => d' = (writeD d n i l).1 ∧ v' = .int .i64 (writeD d n i l).2 := by
  have hv0 := hv
  obtain ⟨hvl, va, vc, rfl, hv1⟩ := hv
  have st := St.begin him hE hm
  have hlen : (l.length : Int) ≤ 9223372036854775807 ∨ True := .inr trivial
  refine ret_of Try.call24 Try.func24 rfl Try.ntmps24 Try.results24 rfl ?_
  refine wc_seq ?_
  refine wc_region ?_
  refine wl_val (v_assign' (by conv => (lhs; whnf))) rfl ?_
  refine wl_nil ?_
  refine then_go ?_
  refine wc_seq ?_
  refine wc_seq ?_
  refine wc_region ?_
  refine wl_val (v_move' (by conv => (lhs; whnf))) rfl ?_
  refine wl_val (v_move' (by conv => (lhs; whnf))) rfl ?_
  refine wl_call rfl (c_check i (im_heapM w) (disk_snap (Es := []) st ok)) rfl ?_
  rintro v10 w' ⟨rfl, rfl⟩
  refine wl_val (v_assign' (by conv => (lhs; whnf))) rfl ?_
  refine wl_nil ?_
  refine then_go ?_
  refine wc_seq ?_
  refine wc_region ?_
  refine wl_val (v_move' (by conv => (lhs; whnf))) rfl ?_
  refine wl_val (v_neq rfl rfl) rfl ?_
  refine wl_nil ?_
  refine then_go ?_
  refine wc_if rfl (fun h12 => ?_) (fun h12 => ?_)
  · refine wc_seq ?_
    refine wc_region ?_
    refine wl_val (v_move' (by conv => (lhs; whnf))) rfl ?_
    refine wl_val (v_assign' (by conv => (lhs; whnf))) rfl ?_
    refine wl_nil ?_
    refine then_go ?_
    refine wc_ret (then_ret ?_)
    refine ret1 (v := .int .i64 (if d.down = true then 14 else if i < 0 ∨ i ≥ n then 2 else 0)) rfl ⟨wv, d, (St.finish (Es := []) st).1, (St.finish (Es := []) st).2, ?_, ?_⟩
    · unfold writeD
      by_cases hd : d.down = true
      · rw [if_pos hd]
      · rw [if_neg hd]
        by_cases hr : i < 0 ∨ i ≥ n
        · rw [if_pos hr]
        · exact absurd (by rw [if_neg hd, if_neg hr]) h12
    · unfold writeD
      by_cases hd : d.down = true
      · rw [if_pos hd]; simp [hd]
      · rw [if_neg hd]
        by_cases hr : i < 0 ∨ i ≥ n
        · rw [if_pos hr]; simp [hd, hr]
        · exact absurd (by rw [if_neg hd, if_neg hr]) h12
  · refine wc_skip ?_
    refine then_go ?_
    refine wc_seq ?_
    refine wc_seq ?_
    have hd : ¬ d.down = true := fun hd => h12 (by rw [if_pos hd]; decide)
    have hr : ¬ (i < 0 ∨ i ≥ n) := fun hr => h12 (by rw [if_neg hd, if_pos hr]; decide)
    have hun : l.length ≠ 64 → writeD d n i l = (d, 1) := fun h => by unfold writeD; rw [if_neg hd, if_neg hr, if_pos h]
    have hdo : l.length = 64 → writeD d n i l = (burn { d with wt := d.wt ++ [(i.toNat, l)] }, if (burn { d with wt := d.wt ++ [(i.toNat, l)] }).down then 14 else 0) := fun h => by unfold writeD; rw [if_neg hd, if_neg hr, if_neg (by simp [h])]
    refine wc_region ?_
    refine wl_val (v_move' (by conv => (lhs; whnf))) rfl ?_
    refine wl_val (v_len_s Try.underlying22 rfl) rfl ?_
    refine wl_val (v_neq rfl rfl) rfl ?_
    refine wl_nil ?_
    refine then_go ?_
    refine wc_if rfl (fun h16 => ?_) (fun h16 => ?_)
    · refine wc_seq ?_
      refine wc_region ?_
      refine wl_val (v_assign' (by conv => (lhs; whnf))) rfl ?_
      refine wl_nil ?_
      refine then_go ?_
      refine wc_ret (then_ret ?_)
      exact ret1 (v := .int .i64 1) rfl ⟨wv, d, (St.finish (Es := []) st).1, (St.finish (Es := []) st).2, by rw [hun (by omega)], by rw [hun (by omega)]⟩
    · refine wc_skip ?_
      refine then_go ?_
      refine wc_seq ?_
      have hl64 : l.length = 64 := by omega
      obtain ⟨vb, vo, vcap, hve, hvk, hrd⟩ := hv0.rd Try.prog (by simp [bs, hl64])
      cases hve
      obtain ⟨k, rfl⟩ : ∃ k : Nat, i = k := ⟨i.toNat, by omega⟩
      refine wc_draw TF.mixed ?_
      have st := st.pure (touch_drew _)
      refine fl_val 0 rfl (fun _ => (v_move' (by conv => (lhs; whnf)))) rfl (by kernel_rfl) ?_
      refine fl_val 1 rfl (fun _ => (v_move' (by conv => (lhs; whnf)))) rfl (by kernel_rfl) ?_
      refine fl_val 2 rfl (fun _ => (v_nil rfl)) rfl (by kernel_rfl) ?_
      refine fl_val 3 rfl (fun _ => (v_fa TF.f62_1 rfl)) rfl (by kernel_rfl) ?_
      refine fl_ld 4 rfl (v_load rfl (by first | assumption | exact st.reads 0 rfl TF.t60 rfl | exact st.reads 1 rfl TF.t60 rfl | exact st.reads 2 rfl TF.t60 rfl | exact st.reads 3 rfl TF.t60 rfl | exact st.reads 4 rfl TF.t60 rfl)) (by kernel_rfl) ?_
      refine fl_val 5 rfl (fun _ => (v_move' (by conv => (lhs; whnf)))) rfl (by kernel_rfl) ?_
      refine fl_val 6 rfl (fun _ => (v_move' (by conv => (lhs; whnf)))) rfl (by kernel_rfl) ?_
      refine fl_val 7 rfl (fun _ => (v_s2a Try.underlying64 rfl (by omega))) rfl (by kernel_rfl) ?_
      refine fl_ld 8 rfl (v_load rfl (hrd st.im TF.t64 (getV_all (by simp [bs, hl64])))) (by kernel_rfl) ?_
      refine fl_val 9 rfl (fun _ => (v_build (c' := (Value.int .i64 k :: bs l).toArray) [(0, .int .i64 k), (1, .agg (bs l).toArray)] TF.z66 TF.p66 rfl (fill_one [] [.int .i64 0] (List.replicate 64 (.int .u8 0)) rfl rfl rfl (fill_one [.int .i64 k] (List.replicate 64 (.int .u8 0)) [] rfl rfl (by simp [Value.cells, bs, hl64]) (by simp [FillR, Value.cells]))))) rfl (by kernel_rfl) ?_
      refine fl_eff1 10 [7, 6, 5, 3, 2, 1, 0] [8, 4] (by kernel_rfl) ⟨obl_ld rfl rfl rfl (v_load rfl (hrd st.im TF.t64 (getV_all (by simp [bs, hl64])))), obl_ld rfl rfl rfl (v_load rfl (by first | assumption | exact st.reads 0 rfl TF.t60 rfl | exact st.reads 1 rfl TF.t60 rfl | exact st.reads 2 rfl TF.t60 rfl | exact st.reads 3 rfl TF.t60 rfl | exact st.reads 4 rfl TF.t60 rfl)), trivial⟩ rfl ?_
      refine wl_buildSlice (c' := (Value.int .i64 k :: bs l).toArray) [(0, .agg (Value.int .i64 k :: bs l).toArray)] Try.underlying60 TF.t66 TF.z66 (by decide) (by decide) rfl ⟨0, 65, rfl, by simp [Value.cells, bs, hl64], by simp [Value.cells, size_madeCells], setSeg_all (by simp [Value.cells, bs, hl64, size_madeCells])⟩ st rfl ?_
      intro b27 w st
      refine wl_nil ⟨rfl, ?_⟩
      refine fl_eff1 11 [7, 6, 5, 3, 2, 1, 0] [8] (by kernel_rfl) ⟨obl_ld rfl rfl rfl (v_load rfl (hrd st.im TF.t64 (getV_all (by simp [bs, hl64])))), obl_ld rfl rfl rfl (v_load rfl (by first | assumption | exact st.reads 0 rfl TF.t60 rfl | exact st.reads 1 rfl TF.t60 rfl | exact st.reads 2 rfl TF.t60 rfl | exact st.reads 3 rfl TF.t60 rfl | exact st.reads 4 rfl TF.t60 rfl)), trivial⟩ rfl ?_
      refine wl_append 3 st rfl Try.underlying60 Try.underlying60 (.inr ⟨_, rfl⟩) TF.t66 TF.z66 (by simp [Value.cells]) rfl rfl (st.srcArr (news := Value.int .i64 k :: bs l) 0 rfl (by simp [bs, hl64]) (fun j u hj => by simpa using hj) (fun u hu => by rcases List.mem_cons.1 hu with rfl | hu; rfl; exact one_bs _ u hu)) (by omega) (by omega) rfl ?_
      intro wv' w _ st
      refine wl_nil ⟨rfl, ?_⟩
      refine fl_val 12 rfl (fun _ => (v_nil rfl)) rfl (by kernel_rfl) ?_
      refine fl_val 13 rfl (fun _ => (v_fa TF.f62_1 rfl)) rfl (by kernel_rfl) ?_
      refine fl_eff1 14 [12] [] (by kernel_rfl) ⟨obl_ld rfl rfl rfl (v_load rfl (hrd st.im TF.t64 (getV_all (by simp [bs, hl64])))), trivial⟩ rfl ?_
      refine wl_store1 1 st rfl TF.t60 rfl rfl (row_one (st.at (i := 3) rfl)) (by simp) ?_
      intro w st
      have st := st.drop 0
      have e1 : d.wt.length + 1 = (d.wt ++ [((k : Int).toNat, l)]).length := by simp
      have e2 : wtCells d.wt ++ (Value.int .i64 k :: bs l) = wtCells (d.wt ++ [((k : Int).toNat, l)]) := by rw [wtCells_snoc]; simp
      rw [e1, e2] at st
      have st : St m m (joinE (diskL b s n wv d)).foot _ w (diskL b s n wv' { d with wt := d.wt ++ [((k : Int).toNat, l)] } ++ []) := st
      have st := st.join
      refine wl_nil ⟨rfl, ?_⟩
      refine fl_nil (by kernel_rfl) trivial ?_
      refine then_go ?_
      refine wc_seq ?_
      refine wc_seq ?_
      refine wc_region ?_
      refine wl_val (v_move' (by conv => (lhs; whnf))) rfl ?_
      refine wl_call rfl (disk_call st (c_burns st.im (st.at (i := 0) rfl) (st.none (i := 0) rfl) hf)) rfl ?_
      rintro v32 w ⟨wv3, d3, st, rfl, rfl⟩
      refine wl_nil ?_
      refine then_go ?_
      refine wc_cond rfl (fun h32 => ?_) (fun h32 => ?_)
      · refine wc_seq ?_
        refine wc_region ?_
        refine wl_val (v_assign' (by conv => (lhs; whnf))) rfl ?_
        refine wl_nil ?_
        refine then_go ?_
        refine wc_ret (then_ret ?_)
        exact ret1 (v := .int .i64 14) rfl ⟨wv3, _, (St.finish (Es := []) st.split).1, (St.finish (Es := []) st.split).2, by rw [hdo hl64], by rw [hdo hl64]; simp only [h32, if_true]⟩
      · refine wc_skip ?_
        refine then_go ?_
        refine wc_seq ?_
        refine wc_region ?_
        refine wl_val (v_assign' (by conv => (lhs; whnf))) rfl ?_
        refine wl_nil ?_
        refine then_go ?_
        refine wc_ret ?_
        exact ret1 (v := .int .i64 0) rfl ⟨wv3, _, (St.finish (Es := []) st.split).1, (St.finish (Es := []) st.split).2, by rw [hdo hl64], by rw [hdo hl64]; simp only [h32, Bool.false_eq_true, if_false]⟩

theorem setSeg_bs {S l : By} {o : Nat} : setSeg (bs S).toArray o (bs l) = (bs (splice S o l)).toArray := by
  apply Array.ext'
  simp [setSeg, splice, bs, List.map_take, List.map_drop]

theorem st_nil {m0 : Mem} {F : List Nat} {w0 : World} {Es : List Ent} {v : Value} {e size k : Nat} {xs : List Value} (st : St m0 m F w0 w Es) (i : Nat) (hi : Es[i]? = some (rowE v e size k xs)) : St m0 m F w0 w (Es.set i (rowE (.slice none 0 0) e size 0 [])) :=
  st.step i hi ⟨rfl, rfl, rfl, Nat.le_refl _, fun _ _ _ => rfl, by simp [rowE, Value.ownBlock]⟩ ⟨by simp, .inl ⟨rfl, rfl⟩⟩

def dumpK (d : DS) (k : Nat) : By := (d.wt.take k).foldl (fun S x => splice S (64 * x.1) x.2) d.S

theorem dumpK_succ (d : DS) (k : Nat) (h : k < d.wt.length) : dumpK d (k + 1) = splice (dumpK d k) (64 * d.wt[k].1) d.wt[k].2 := by
  unfold dumpK
  rw [List.take_succ_eq_append_getElem h, List.foldl_append]
  rfl

theorem length_dumpK {d : DS} {n : Nat} (ok : d.ok n) : ∀ k, k ≤ d.wt.length → (dumpK d k).length = 64 * n
  | 0, _ => by simp [dumpK, ok.len]
  | k + 1, h => by
    have ih := length_dumpK ok k (by omega)
    have hx := ok.wt d.wt[k] (List.getElem_mem _)
    rw [dumpK_succ d k (by omega), length_splice (by rw [ih, hx.2]; omega), ih]

theorem c_sync (him : Im m w) (hE : (diskO b s n wv d).holds w) (hm : ∀ k ∈ (diskO b s n wv d).foot, m k = none) (ok : d.ok n) (hf : -1 ≤ d.fuse ∧ d.fuse ≤ 9223372036854775807) (hfew : d.wt.length ≤ 1000000) :
    DiskCall 22 [] b s n wv d w fun v' d' => d' = (syncD d).1 ∧ v' = .int .i64 (syncD d).2 := by
  have st := St.begin him hE hm
  have ok' := ok.wt
  refine ret_of Try.call22 Try.func22 rfl Try.ntmps22 Try.results22 rfl ?_
  refine wc_seq ?_
  refine wc_region ?_
  refine wl_val (v_assign' (by conv => (lhs; whnf))) rfl ?_
  refine wl_nil ?_
  refine then_go ?_
  refine wc_seq ?_
  refine wc_seq ?_
  refine wc_region ?_
  refine wl_val (v_move' (by conv => (lhs; whnf))) rfl ?_
  refine wl_val (v_nil rfl) rfl ?_
  refine wl_val (v_fa TF.f62_3 rfl) rfl ?_
  refine wl_val (v_load rfl (by first | assumption | exact st.reads 0 rfl TF.t4 rfl | exact st.reads 1 rfl TF.t4 rfl | exact st.reads 2 rfl TF.t4 rfl | exact st.reads 3 rfl TF.t4 rfl | exact st.reads 4 rfl TF.t4 rfl)) rfl ?_
  refine wl_val (v_move' (by conv => (lhs; whnf))) rfl ?_
  rcases Bool.eq_false_or_eq_true (d.down) with hg4 | hg4
  · rw [hg4]
    refine wl_off rfl rfl rfl rfl ?_
    refine wl_off rfl rfl rfl rfl ?_
    refine wl_val (v_pick rfl) rfl ?_
    refine wl_nil ?_
    refine then_go ?_
    refine wc_true rfl ?_
    refine wc_seq ?_
    refine wc_region ?_
    refine wl_val (v_assign' (by conv => (lhs; whnf))) rfl ?_
    refine wl_nil ?_
    refine then_go ?_
    refine wc_ret (then_ret ?_)
    exact ret1 (v := .int .i64 14) rfl ⟨wv, d, (St.finish (Es := []) st).1, (St.finish (Es := []) st).2, by simp [syncD, hg4], by simp [syncD, hg4]⟩
  · rw [hg4]
    refine wl_on rfl rfl ?_
    refine wl_val (v_move' (by conv => (lhs; whnf))) rfl ?_
    refine wl_on rfl rfl ?_
    have st : St m m (joinE (diskL b s n wv d)).foot w w (diskL b s n wv d ++ []) := st
    have st := st.join
    refine wl_call rfl (disk_call st (c_burns st.im (st.at (i := 0) rfl) (st.none (i := 0) rfl) hf)) rfl ?_
    rintro v32 w1 ⟨wv3, d3, st, rfl, rfl⟩
    refine wl_val (v_pick rfl) rfl ?_
    refine wl_nil ?_
    refine then_go ?_
    refine wc_cond rfl (fun h12 => ?_) (fun h12 => ?_)
    · refine wc_seq ?_
      refine wc_region ?_
      refine wl_val (v_assign' (by conv => (lhs; whnf))) rfl ?_
      refine wl_nil ?_
      refine then_go ?_
      refine wc_ret (then_ret ?_)
      have h12' : d.fuse = 0 := by simpa [burn] using h12
      exact ret1 (v := .int .i64 14) rfl ⟨wv3, _, (St.finish (Es := []) st.split).1, (St.finish (Es := []) st.split).2, by simp [syncD, hg4, h12'], by simp [syncD, hg4, h12']⟩
    · refine wc_skip ?_
      refine then_go ?_
      refine wc_seq ?_
      refine wc_seq ?_
      have hf0 : ¬ d.fuse = 0 := by
        intro h
        have : (burn d).down = true := by simp [burn, h]
        rw [h12] at this
        cases this
      have st : St m m (joinE (diskL b s n wv d)).foot w w1 (diskL b s n wv3 (burn d)) := by have := st.split; rwa [List.append_nil] at this
      obtain ⟨hnil, wa, wc, hwv, hk3, hn3⟩ : ∃ (_ : True) (wa : Option Addr) (wc : Nat), wv3 = .slice wa d.wt.length wc ∧ d.wt.length ≤ wc ∧ True := by
        obtain ⟨_, a, c, h1, h2, _⟩ := row_SlM (m := heapM w1) (st.at (i := 2) rfl) fun _ _ _ h => h
        exact ⟨trivial, a, c, h1, h2, trivial⟩
      subst hwv
      refine wc_region ?_
      refine wl_val (v_move' (by conv => (lhs; whnf))) rfl ?_
      refine wl_val (v_nil rfl) rfl ?_
      refine wl_val (v_fa TF.f62_1 rfl) rfl ?_
      refine wl_val (v_load rfl (by first | assumption | exact st.reads 0 rfl TF.t60 rfl | exact st.reads 1 rfl TF.t60 rfl | exact st.reads 2 rfl TF.t60 rfl | exact st.reads 3 rfl TF.t60 rfl | exact st.reads 4 rfl TF.t60 rfl)) rfl ?_
      refine wl_val (v_len_s Try.underlying60 rfl) rfl ?_
      refine wl_val (v_move' (by conv => (lhs; whnf))) rfl ?_
      refine wl_nil ?_
      refine then_go ?_
      refine wc_block ?_
      refine wc_loop (S := Nat) (fun k r w' => ∃ j, k + j = d.wt.length ∧ r 0 = .pointer (some ⟨b, 0, none⟩) ∧ r 16 = .slice wa d.wt.length wc ∧ r 17 = .int .i64 d.wt.length ∧ r 18 = .int .i64 j ∧
        St m m (joinE (diskL b s n wv d)).foot w w' (diskL b s n (.slice wa d.wt.length wc) { burn d with S := dumpK d j })) id d.wt.length ⟨0, rfl, rfl, rfl, rfl, rfl, st⟩ ?_
      rintro k r w2 ⟨j, hkj, h0, h16, h17, h18, st⟩
      refine wc_o 0 h0 (wc_o 16 h16 (wc_o 17 h17 (wc_o 18 h18 ?_)))
      refine wc_seq ?_
      refine wc_region ?_
      refine wl_val (v_lss rfl rfl) rfl ?_
      refine wl_nil ?_
      refine then_go ?_
      refine wc_seq ?_
      refine wc_if rfl (fun h19 => ?_) (fun h19 => ?_)
      · refine wc_skip ?_
        refine then_go ?_
        refine wc_seq ?_
        refine wc_block ?_
        refine wc_seq ?_
        have hj : j < d.wt.length := by omega
        obtain ⟨wb, wo, wcap, hv, _, hrd⟩ := (row_SlM (m := heapM w2) (st.at (i := 2) rfl) fun _ _ _ h => h).elem Try.prog (i := j) hj (by omega)
        cases hv
        have hel := wt_elem (fun x hx => (ok' x hx).2) hj
        have hx := ok' d.wt[j] (List.getElem_mem _)
        refine wc_region ?_
        refine wl_val (v_ias j Try.underlying60 TF.t66 rfl rfl (by first | rfl | omega) (by first | omega | (dsimp only at *; omega))) rfl ?_
        refine wl_val (v_load rfl (hrd (im_heapM _) (off := 0) TF.t66 (getV_all (by show ((cellsAt (wtCells d.wt) 65 j).toArray).size = 65; rw [hel]; simp [bs, hx.2])))) rfl ?_
        refine wl_alloc TF.z66 st rfl ?_
        intro b4 w st
        refine wl_storeW 0 st rfl TF.t66 rfl rfl (by show ((cellsAt (wtCells d.wt) 65 j).toArray).size = 65; rw [hel]; simp [bs, hx.2]) (by simp [Value.cells]) (fun u hu => by
          have hu' : u ∈ cellsAt (wtCells d.wt) 65 j := (by simpa using hu : u ∈ cellsAt (wtCells (burn d).wt) 65 j)
          rw [hel] at hu'
          rcases List.mem_cons.1 hu' with rfl | hu'
          · rfl
          · exact one_bs _ u hu') ?_
        intro w st
        have hel' : cellsAt (wtCells (burn d).wt) 65 j = Value.int .i64 d.wt[j].1 :: bs d.wt[j].2 := hel
        change St _ _ _ _ _ (blk b4 (cellsAt (wtCells (burn d).wt) 65 j).toArray 66 :: diskL b s n (.slice (some ⟨wb, wo, none⟩) d.wt.length wc) { burn d with S := dumpK d j }) at st
        rw [hel'] at st
        refine wl_nil ?_
        refine then_go ?_
        refine wc_draw TF.mixed ?_
        have st := st.pure (touch_drew _)
        refine fl_val 0 rfl (fun _ => (v_move' (by conv => (lhs; whnf)))) rfl (by kernel_rfl) ?_
        refine fl_val 1 rfl (fun _ => (v_nil rfl)) rfl (by kernel_rfl) ?_
        refine fl_val 2 rfl (fun _ => (v_fa TF.f62_0 rfl)) rfl (by kernel_rfl) ?_
        refine fl_ld 3 rfl (v_load rfl (by first | assumption | exact st.reads 0 rfl TF.t59 rfl | exact st.reads 1 rfl TF.t59 rfl | exact st.reads 2 rfl TF.t59 rfl | exact st.reads 3 rfl TF.t59 rfl | exact st.reads 4 rfl TF.t59 rfl)) (by kernel_rfl) ?_
        refine fl_val 4 rfl (fun _ => (v_fa TF.f66_0 rfl)) rfl (by kernel_rfl) ?_
        refine fl_ld 5 rfl (v_load rfl (by first | assumption | exact st.reads 0 rfl TF.t3 rfl | exact st.reads 1 rfl TF.t3 rfl | exact st.reads 2 rfl TF.t3 rfl | exact st.reads 3 rfl TF.t3 rfl | exact st.reads 4 rfl TF.t3 rfl)) (by kernel_rfl) ?_
        refine fl_val 6 rfl (fun _ => (v_fa TF.f66_1 rfl)) rfl (by kernel_rfl) ?_
        refine fl_ld 7 rfl (v_load rfl (st.reads 0 rfl TF.t64 (getV_tl (by simp [bs, hx.2])))) (by kernel_rfl) ?_
        refine fl_val 8 rfl (fun _ => (v_ias (d.wt[j].1) Try.underlying59 TF.t64 rfl rfl (by first | rfl | omega) hx.1)) rfl (by kernel_rfl) ?_
        refine fl_eff1 9 [] [] (by kernel_rfl) ⟨obl_ld rfl rfl rfl (v_load rfl (st.reads 0 rfl TF.t64 (getV_tl (by simp [bs, hx.2])))), obl_ld rfl rfl rfl (v_load rfl (by first | assumption | exact st.reads 0 rfl TF.t3 rfl | exact st.reads 1 rfl TF.t3 rfl | exact st.reads 2 rfl TF.t3 rfl | exact st.reads 3 rfl TF.t3 rfl | exact st.reads 4 rfl TF.t3 rfl)), obl_ld rfl rfl rfl (v_load rfl (by first | assumption | exact st.reads 0 rfl TF.t59 rfl | exact st.reads 1 rfl TF.t59 rfl | exact st.reads 2 rfl TF.t59 rfl | exact st.reads 3 rfl TF.t59 rfl | exact st.reads 4 rfl TF.t59 rfl)), trivial⟩ rfl ?_
        have hlS : (dumpK d j).length = 64 * n := length_dumpK ok j (by omega)
        refine wl_store (v := .agg (bs d.wt[j].2).toArray) 2 st rfl TF.t64 rfl rfl (by simp [Value.cells, bs, hx.2]) (fun u hu => one_bs _ u (by simpa [Value.cells] using hu)) (by simp [bs, hlS]; omega) ?_
        intro w st
        have e : setSeg (bs (dumpK d j)).toArray (0 + d.wt[j].1 * 64) (Value.agg (bs d.wt[j].2).toArray).cells.toList = (bs (dumpK d (j + 1))).toArray := by
          rw [dumpK_succ d j hj, show 0 + d.wt[j].1 * 64 = 64 * d.wt[j].1 by omega]
          exact setSeg_bs
        have st := st.drop 0
        change St _ _ _ _ _ [_, blk s (setSeg (bs (dumpK d j)).toArray (0 + d.wt[j].1 * 64) (Value.agg (bs d.wt[j].2).toArray).cells.toList) _, _] at st
        rw [e] at st
        change St _ _ _ _ _ (diskL b s n (.slice (some ⟨wb, wo, none⟩) d.wt.length wc) { burn d with S := dumpK d (j + 1) }) at st
        refine wl_nil ⟨rfl, ?_⟩
        refine fl_nil (by kernel_rfl) trivial ?_
        refine block_go (then_go ?_)
        refine wc_region ?_
        refine wl_val (v_add' rfl rfl rfl (by first | omega | (dsimp only at *; omega)) (by first | omega | (dsimp only at *; omega))) rfl ?_
        refine wl_val (v_move' (by conv => (lhs; whnf))) rfl ?_
        refine wl_nil ?_
        refine then_go ?_
        exact ⟨k - 1, by simp; omega, j + 1, by omega, rfl, rfl, rfl, rfl, st⟩
      · refine wc_exit (then_exit (then_exit (block_hit ?_)))
        refine then_go ?_
        refine wc_seq ?_
        refine wc_region ?_
        refine wl_val (v_move' (by conv => (lhs; whnf))) rfl ?_
        refine wl_val (v_nil rfl) rfl ?_
        refine wl_val (v_fa TF.f62_1 rfl) rfl ?_
        refine wl_store1 0 st rfl TF.t60 rfl rfl rfl (by simp) ?_
        intro w st
        have hjl : j = d.wt.length := by omega
        subst hjl
        have st := st_nil st 2 rfl
        have e : dumpK d d.wt.length = dump d := by simp [dumpK, dump]
        change St _ _ _ _ _ (diskL b s n (.slice none 0 0) { burn d with S := dumpK d d.wt.length, wt := [] }) at st
        rw [e] at st
        refine wl_nil ?_
        refine then_go ?_
        refine wc_seq ?_
        refine wc_region ?_
        refine wl_val (v_assign' (by conv => (lhs; whnf))) rfl ?_
        refine wl_nil ?_
        refine then_go ?_
        refine wc_ret ?_
        exact ret1 (v := .int .i64 0) rfl ⟨_, _, (St.finish (Es := []) st).1, (St.finish (Es := []) st).2, by simp [syncD, hg4, hf0], by simp [syncD, hg4, hf0]⟩

end
end Go.Proofs.Ytekhcjgmgflmkaa
