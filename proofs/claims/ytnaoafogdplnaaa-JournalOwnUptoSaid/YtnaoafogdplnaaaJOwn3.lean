/-
  Proved here: for every input of bulk at most 1048576 the law JournalOwn returns true, and what it was handed reads behind the call as before. No condition.
-/
import Derived.Test.YtnaoafogdplnaaaRows
import Derived.JoinedCond
import Derived.Test.YtnaoafogdplnaaaJOwn2

namespace Go.Proofs.Ytnaoafogdplnaaa
open Go Go.RowKit K DK
def diskL (b s n : Nat) (wv : Value) (d : DS) : List Ent :=
 [blk b #[.slice (some ⟨s, 0, none⟩) n n, wv, .int .i64 d.fuse, .bool d.down] 68, blk s (bs d.S).toArray 73, rowE wv 75 65 d.wt.length (wtCells d.wt)]
def diskO (b s n : Nat) (wv : Value) (d : DS) : Ent := joinE (diskL b s n wv d)
def DiskCall (f : FuncId) (args : List Value) (b s n : Nat) (wv : Value) (d : DS) (w : World) (R : Value → DS → Prop) : Prop :=
 Ret Try.prog f (.pointer (some ⟨b, 0, none⟩) :: args).toArray w fun v w' => ∃ wv' d', Tch w w' (diskO b s n wv d).foot (diskO b s n wv' d').foot ∧ (diskO b s n wv' d').holds w' ∧ R v d'
theorem row_few {w : World} {v : Value} {e size n : Nat} {xs : List Value} (h : (rowE v e size n xs).holds w) : n ≤ 9223372036854775807 := by
 rcases h.2 with ⟨_, rfl⟩ | ⟨g, cap, cur, _, _, _, hc, hm, _⟩
 ·omega
 ·unfold maxLen at hm; omega
theorem disk_snap {m0 m : Mem} {F : List Nat} {w0 w : World} {Es : List Ent} {b s n : Nat} {wv : Value} {d : DS} (st : St m0 m F w0 w (diskL b s n wv d ++ Es)) (ok : d.ok n) : diskM (heapM w) b n d :=
 ⟨ok, ⟨s, wv, st.at (i := 0) rfl, st.at (i := 1) rfl, row_SlM (st.at (i := 2) rfl) fun _ _ _ h => h⟩, row_few (st.at (i := 2) rfl)⟩
section
variable {m : Mem} {w : World} {b s n : Nat} {wv : Value} {d : DS}
theorem c_burns (him : Im m w) (hE : (diskO b s n wv d).holds w) (hm : ∀ k ∈ (diskO b s n wv d).foot, m k = none) (hf : -1 ≤ d.fuse ∧ d.fuse ≤ 9223372036854775807) :
  DiskCall 72 [] b s n wv d w fun v d' => d' = burn d ∧ v = .bool (burn d).down := by
 have st := St.begin him hE hm
 have h1 := hf.1
 have h2 := hf.2
 refine ret_of Try.call72 Try.func72 rfl Try.ntmps72 Try.results72 rfl ?_
 refine wc_seq ?_
 refine wc_region ?_
 refine wl_val (v_assign' (by conv => (lhs; whnf))) rfl ?_
 refine wl_nil ?_
 refine then_go ?_
 refine wc_seq ?_
 refine wc_region ?_
 refine wl_val (v_move' (by conv => (lhs; whnf))) rfl ?_
 refine wl_val (v_move' (by conv => (lhs; whnf))) rfl ?_
 refine wl_val (v_nil rfl) rfl ?_
 refine wl_val (v_fa TF.f68_2 rfl) rfl ?_
 refine wl_val (v_load rfl (by first | exact st.reads 0 rfl TF.t3 rfl | exact st.reads 1 rfl TF.t3 rfl | exact st.reads 2 rfl TF.t3 rfl | exact st.reads 3 rfl TF.t3 rfl | exact st.reads 4 rfl TF.t3 rfl | assumption)) rfl ?_
 refine wl_val (v_eql rfl rfl) rfl ?_
 refine wl_val (v_nil rfl) rfl ?_
 refine wl_val (v_fa TF.f68_3 rfl) rfl ?_
 refine wl_store1 0 st rfl TF.t4 rfl (by conv => (lhs; whnf)) rfl (by first | exact lt_ok rfl | decide | simp) ?_
 intro w st
 have st : St m m _ _ _ (diskL b s n wv { d with down := decide (d.fuse = 0) }) := st
 refine wl_nil ?_
 refine then_go ?_
 refine wc_seq ?_
 refine wc_seq ?_
 refine wc_region ?_
 refine wl_val (v_move' (by conv => (lhs; whnf))) rfl ?_
 refine wl_val (v_nil rfl) rfl ?_
 refine wl_val (v_fa TF.f68_2 rfl) rfl ?_
 refine wl_val (v_load rfl (by first | exact st.reads 0 rfl TF.t3 rfl | exact st.reads 1 rfl TF.t3 rfl | exact st.reads 2 rfl TF.t3 rfl | exact st.reads 3 rfl TF.t3 rfl | exact st.reads 4 rfl TF.t3 rfl | assumption)) rfl ?_
 refine wl_val (v_gtr rfl rfl) rfl ?_
 refine wl_nil ?_
 refine then_go ?_
 refine wc_if rfl (fun h15 => ?_) (fun h15 => ?_)
 ·refine wc_region ?_
  refine wl_val (v_move' (by conv => (lhs; whnf))) rfl ?_
  refine wl_val (v_nil rfl) rfl ?_
  refine wl_val (v_fa TF.f68_2 rfl) rfl ?_
  refine wl_val (v_load rfl (by first | exact st.reads 0 rfl TF.t3 rfl | exact st.reads 1 rfl TF.t3 rfl | exact st.reads 2 rfl TF.t3 rfl | exact st.reads 3 rfl TF.t3 rfl | exact st.reads 4 rfl TF.t3 rfl | assumption)) rfl ?_
  refine wl_val (v_sub' rfl rfl rfl (by first | omega | (dsimp only at *; omega)) (by first | omega | (dsimp only at *; omega))) rfl ?_
  refine wl_val (v_nil rfl) rfl ?_
  refine wl_val (v_fa TF.f68_2 rfl) rfl ?_
  refine wl_store1 0 st rfl TF.t3 rfl (by conv => (lhs; whnf)) rfl (by first | exact lt_ok rfl | decide | simp) ?_
  intro w st
  have st : St m m _ _ _ (diskL b s n wv { d with down := decide (d.fuse = 0), fuse := d.fuse - 1 }) := st
  refine wl_nil ?_
  refine then_go ?_
  refine wc_seq ?_
  refine wc_region ?_
  refine wl_val (v_move' (by conv => (lhs; whnf))) rfl ?_
  refine wl_val (v_nil rfl) rfl ?_
  refine wl_val (v_fa TF.f68_3 rfl) rfl ?_
  refine wl_val (v_load rfl (by first | exact st.reads 0 rfl TF.t4 rfl | exact st.reads 1 rfl TF.t4 rfl | exact st.reads 2 rfl TF.t4 rfl | exact st.reads 3 rfl TF.t4 rfl | exact st.reads 4 rfl TF.t4 rfl | assumption)) rfl ?_
  refine wl_val (v_assign' (by conv => (lhs; whnf))) rfl ?_
  refine wl_nil ?_
  refine then_go ?_
  refine wc_ret ?_
  exact ret1 rfl ⟨wv, { d with down := decide (d.fuse = 0), fuse := d.fuse - 1 }, (St.finish (Es := []) st).1, (St.finish (Es := []) st).2, by simp [burn, h15], rfl⟩
 ·refine wc_skip ?_
  refine then_go ?_
  refine wc_seq ?_
  refine wc_region ?_
  refine wl_val (v_move' (by conv => (lhs; whnf))) rfl ?_
  refine wl_val (v_nil rfl) rfl ?_
  refine wl_val (v_fa TF.f68_3 rfl) rfl ?_
  refine wl_val (v_load rfl (by first | exact st.reads 0 rfl TF.t4 rfl | exact st.reads 1 rfl TF.t4 rfl | exact st.reads 2 rfl TF.t4 rfl | exact st.reads 3 rfl TF.t4 rfl | exact st.reads 4 rfl TF.t4 rfl | assumption)) rfl ?_
  refine wl_val (v_assign' (by conv => (lhs; whnf))) rfl ?_
  refine wl_nil ?_
  refine then_go ?_
  refine wc_ret ?_
  exact ret1 rfl ⟨wv, { d with down := decide (d.fuse = 0) }, (St.finish (Es := []) st).1, (St.finish (Es := []) st).2, by simp [burn, h15], rfl⟩
theorem wtCells_snoc (l : List (Nat × By)) (x : Nat × By) : wtCells (l ++ [x]) = wtCells l ++ (Value.int .i64 x.1 :: bs x.2) := by simp [wtCells]
theorem disk_call {m0 : Mem} {F : List Nat} {w0 : World} {Es : List Ent} {f : FuncId} {args : List Value} {R : Value → DS → Prop} (st : St m0 m F w0 w (diskO b s n wv d :: Es)) (h : DiskCall f args b s n wv d w R) :
  Ret Try.prog f (.pointer (some ⟨b, 0, none⟩) :: args).toArray w fun v w' => ∃ wv' d', St m0 m F w0 w' (diskO b s n wv' d' :: Es) ∧ R v d' :=
 h.mono fun _ _ ⟨wv', d', t, hE, hR⟩ => ⟨wv', d', st.step 0 rfl t hE, hR⟩
theorem c_write {v : Value} {l : By} (i : Int) (him : Im m w) (hE : (diskO b s n wv d).holds w) (hm : ∀ k ∈ (diskO b s n wv d).foot, m k = none) (ok : d.ok n) (hf : -1 ≤ d.fuse ∧ d.fuse ≤ 9223372036854775807) (hfew : d.wt.length ≤ 1000000)
  (hv : SlM m v 1 l.length (bs l)) :
  DiskCall 63 [.int .i64 i, v] b s n wv d w fun v' d' => d' = (writeD d n i l).1 ∧ v' = .int .i64 (writeD d n i l).2 := by
 have hv0 := hv
 obtain ⟨hvl, va, vc, rfl, hv1⟩ := hv
 have st := St.begin him hE hm
 have hlen : (l.length : Int) ≤ 9223372036854775807 ∨ True := .inr trivial
 refine ret_of Try.call63 Try.func63 rfl Try.ntmps63 Try.results63 rfl ?_
 refine wc_seq ?_
 refine wc_region ?_
 refine wl_val (v_assign' (by conv => (lhs; whnf))) rfl ?_
 refine wl_nil ?_
 refine then_go ?_
 refine wc_seq ?_
 refine wc_seq ?_
 refine wc_region ?_
 refine wl_val (v_move' (by conv => (lhs; whnf))) rfl ?_
 refine wl_val (v_move' (by conv => (lhs; whnf))) rfl ?_
 refine wl_call rfl (c_check i (im_heapM w) (disk_snap (Es := []) st ok)) rfl ?_
 rintro v10 w' ⟨rfl, rfl⟩
 refine wl_val (v_assign' (by conv => (lhs; whnf))) rfl ?_
 refine wl_nil ?_
 refine then_go ?_
 refine wc_seq ?_
 refine wc_region ?_
 refine wl_val (v_move' (by conv => (lhs; whnf))) rfl ?_
 refine wl_val (v_neq rfl rfl) rfl ?_
 refine wl_nil ?_
 refine then_go ?_
 refine wc_if rfl (fun h12 => ?_) (fun h12 => ?_)
 ·refine wc_seq ?_
  refine wc_region ?_
  refine wl_val (v_move' (by conv => (lhs; whnf))) rfl ?_
  refine wl_val (v_assign' (by conv => (lhs; whnf))) rfl ?_
  refine wl_nil ?_
  refine then_go ?_
  refine wc_ret (then_ret ?_)
  refine ret1 (v := .int .i64 (if d.down = true then 14 else if i < 0 ∨ i ≥ n then 2 else 0)) rfl ⟨wv, d, (St.finish (Es := []) st).1, (St.finish (Es := []) st).2, ?_, ?_⟩
  ·unfold writeD
   by_cases hd : d.down = true
   ·rw [if_pos hd]
   ·rw [if_neg hd]
    by_cases hr : i < 0 ∨ i ≥ n
    ·rw [if_pos hr]
    ·exact absurd (by rw [if_neg hd, if_neg hr]) h12
  ·unfold writeD
   by_cases hd : d.down = true
   ·rw [if_pos hd]; simp [hd]
   ·rw [if_neg hd]
    by_cases hr : i < 0 ∨ i ≥ n
    ·rw [if_pos hr]; simp [hd, hr]
    ·exact absurd (by rw [if_neg hd, if_neg hr]) h12
 ·refine wc_skip ?_
  refine then_go ?_
  refine wc_seq ?_
  refine wc_seq ?_
  have hd : ¬ d.down = true := fun hd => h12 (by rw [if_pos hd]; decide)
  have hr : ¬ (i < 0 ∨ i ≥ n) := fun hr => h12 (by rw [if_neg hd, if_pos hr]; decide)
  have hun : l.length ≠ 64 → writeD d n i l = (d, 1) := fun h => by unfold writeD; rw [if_neg hd, if_neg hr, if_pos h]
  have hdo : l.length = 64 → writeD d n i l = (burn { d with wt := d.wt ++ [(i.toNat, l)] }, if (burn { d with wt := d.wt ++ [(i.toNat, l)] }).down then 14 else 0) := fun h => by unfold writeD; rw [if_neg hd, if_neg hr, if_neg (by simp [h])]
  refine wc_region ?_
  refine wl_val (v_move' (by conv => (lhs; whnf))) rfl ?_
  refine wl_val (v_len_s Try.underlying30 rfl) rfl ?_
  refine wl_val (v_neq rfl rfl) rfl ?_
  refine wl_nil ?_
  refine then_go ?_
  refine wc_if rfl (fun h16 => ?_) (fun h16 => ?_)
  ·refine wc_seq ?_
   refine wc_region ?_
   refine wl_val (v_assign' (by conv => (lhs; whnf))) rfl ?_
   refine wl_nil ?_
   refine then_go ?_
   refine wc_ret (then_ret ?_)
   exact ret1 (v := .int .i64 1) rfl ⟨wv, d, (St.finish (Es := []) st).1, (St.finish (Es := []) st).2, by rw [hun (by omega)], by rw [hun (by omega)]⟩
  ·refine wc_skip ?_
   refine then_go ?_
   refine wc_seq ?_
   have hl64 : l.length = 64 := by omega
   obtain ⟨vb, vo, vcap, hve, hvk, hrd⟩ := hv0.rd Try.prog (by simp [bs, hl64])
   cases hve
   obtain ⟨k, rfl⟩ : ∃ k : Nat, i = k := ⟨i.toNat, by omega⟩
   refine wc_draw TF.mixed ?_
   have st := st.pure (touch_drew _)
   refine fl_val 0 rfl (fun _ => (v_move' (by conv => (lhs; whnf)))) rfl (by kernel_rfl) ?_
   refine fl_val 1 rfl (fun _ => (v_move' (by conv => (lhs; whnf)))) rfl (by kernel_rfl) ?_
   refine fl_val 2 rfl (fun _ => (v_nil rfl)) rfl (by kernel_rfl) ?_
   refine fl_val 3 rfl (fun _ => (v_fa TF.f68_1 rfl)) rfl (by kernel_rfl) ?_
   refine fl_ld 4 rfl (v_load rfl (by first | exact st.reads 0 rfl TF.t66 rfl | exact st.reads 1 rfl TF.t66 rfl | exact st.reads 2 rfl TF.t66 rfl | exact st.reads 3 rfl TF.t66 rfl | exact st.reads 4 rfl TF.t66 rfl | assumption)) (by kernel_rfl) ?_
   refine fl_val 5 rfl (fun _ => (v_move' (by conv => (lhs; whnf)))) rfl (by kernel_rfl) ?_
   refine fl_val 6 rfl (fun _ => (v_move' (by conv => (lhs; whnf)))) rfl (by kernel_rfl) ?_
   refine fl_val 7 rfl (fun _ => (v_s2a Try.underlying73 rfl (by omega))) rfl (by kernel_rfl) ?_
   refine fl_ld 8 rfl (v_load rfl (show Reads Try.prog _ _ (Addr.mk vb (vo + 0) none) (arr l) from hrd st.im TF.t73 (getV_all (by rw [List.size_toArray, length_bs, hl64])))) (by kernel_rfl) ?_
   refine fl_val 9 rfl (fun _ => (v_build (c' := (Value.int .i64 k :: bs l).toArray) [(0, .int .i64 k), (1, .agg (bs l).toArray)] TF.z75 TF.p75 rfl (fill_one [] [.int .i64 0] (List.replicate 64 (.int .u8 0)) rfl rfl rfl (fill_one [.int .i64 k] (List.replicate 64 (.int .u8 0)) [] rfl rfl (by simp [Value.cells, bs, hl64]) (by simp [FillR, Value.cells]))))) rfl (by kernel_rfl) ?_
   refine fl_eff1 10 [7, 6, 5, 3, 2, 1, 0] [8, 4] (by kernel_rfl) ⟨obl_ld rfl rfl rfl (v_load rfl (show Reads Try.prog _ _ (Addr.mk vb (vo + 0) none) (arr l) from hrd st.im TF.t73 (getV_all (by rw [List.size_toArray, length_bs, hl64])))), obl_ld rfl rfl rfl (v_load rfl (by first | exact st.reads 0 rfl TF.t66 rfl | exact st.reads 1 rfl TF.t66 rfl | exact st.reads 2 rfl TF.t66 rfl | exact st.reads 3 rfl TF.t66 rfl | exact st.reads 4 rfl TF.t66 rfl | assumption)), trivial⟩ rfl ?_
   refine wl_buildSlice (c' := (Value.int .i64 k :: bs l).toArray) [(0, .agg (Value.int .i64 k :: bs l).toArray)] Try.underlying66 TF.t75 TF.z75 (by decide) (by decide) rfl ⟨0, 65, rfl, by simp [Value.cells, bs, hl64], by simp [Value.cells, size_madeCells], setSeg_all (by simp [Value.cells, bs, hl64, size_madeCells])⟩ st rfl ?_
   intro b27 w st
   refine wl_nil ⟨rfl, ?_⟩
   refine fl_eff1 11 [7, 6, 5, 3, 2, 1, 0] [8] (by kernel_rfl) ⟨obl_ld rfl rfl rfl (v_load rfl (show Reads Try.prog _ _ (Addr.mk vb (vo + 0) none) (arr l) from hrd st.im TF.t73 (getV_all (by rw [List.size_toArray, length_bs, hl64])))), obl_ld rfl rfl rfl (v_load rfl (by first | exact st.reads 0 rfl TF.t66 rfl | exact st.reads 1 rfl TF.t66 rfl | exact st.reads 2 rfl TF.t66 rfl | exact st.reads 3 rfl TF.t66 rfl | exact st.reads 4 rfl TF.t66 rfl | assumption)), trivial⟩ rfl ?_
   refine wl_append 3 st rfl Try.underlying66 Try.underlying66 (.inr ⟨_, rfl⟩) TF.t75 TF.z75 (by simp [Value.cells]) rfl rfl (st.srcArr (news := Value.int .i64 k :: bs l) 0 rfl (by simp [bs, hl64]) (fun j u hj => by simpa using hj) (fun u hu => by rcases List.mem_cons.1 hu with rfl | hu; rfl; exact one_bs _ u hu)) (by omega) (by omega) rfl ?_
   intro wv' w _ st
   refine wl_nil ⟨rfl, ?_⟩
   refine fl_val 12 rfl (fun _ => (v_nil rfl)) rfl (by kernel_rfl) ?_
   refine fl_val 13 rfl (fun _ => (v_fa TF.f68_1 rfl)) rfl (by kernel_rfl) ?_
   refine fl_eff1 14 [12] [] (by kernel_rfl) ⟨obl_ld rfl rfl rfl (v_load rfl (show Reads Try.prog _ _ (Addr.mk vb (vo + 0) none) (arr l) from hrd st.im TF.t73 (getV_all (by rw [List.size_toArray, length_bs, hl64])))), trivial⟩ rfl ?_
   refine wl_store1 1 st rfl TF.t66 rfl rfl (row_one (st.at (i := 3) rfl)) (by simp) ?_
   intro w st
   have st := st.drop 0
   have e1 : d.wt.length + 1 = (d.wt ++ [((k : Int).toNat, l)]).length := by simp
   have e2 : wtCells d.wt ++ (Value.int .i64 k :: bs l) = wtCells (d.wt ++ [((k : Int).toNat, l)]) := by rw [wtCells_snoc]; simp
   rw [e1, e2] at st
   have st : St m m (joinE (diskL b s n wv d)).foot _ w (diskL b s n wv' { d with wt := d.wt ++ [((k : Int).toNat, l)] } ++ []) := st
   have st := st.join
   refine wl_nil ⟨rfl, ?_⟩
   refine fl_nil (by kernel_rfl) trivial ?_
   refine then_go ?_
   refine wc_seq ?_
   refine wc_seq ?_
   refine wc_region ?_
   refine wl_val (v_move' (by conv => (lhs; whnf))) rfl ?_
   refine wl_call rfl (disk_call st (c_burns st.im (st.at (i := 0) rfl) (st.none (i := 0) rfl) hf)) rfl ?_
   rintro v32 w ⟨wv3, d3, st, rfl, rfl⟩
   refine wl_nil ?_
   refine then_go ?_
   refine wc_cond rfl (fun h32 => ?_) (fun h32 => ?_)
   ·refine wc_seq ?_
    refine wc_region ?_
    refine wl_val (v_assign' (by conv => (lhs; whnf))) rfl ?_
    refine wl_nil ?_
    refine then_go ?_
    refine wc_ret (then_ret ?_)
    exact ret1 (v := .int .i64 14) rfl ⟨wv3, _, (St.finish (Es := []) st.split).1, (St.finish (Es := []) st.split).2, by rw [hdo hl64], by rw [hdo hl64]; simp only [h32, if_true]⟩
   ·refine wc_skip ?_
    refine then_go ?_
    refine wc_seq ?_
    refine wc_region ?_
    refine wl_val (v_assign' (by conv => (lhs; whnf))) rfl ?_
    refine wl_nil ?_
    refine then_go ?_
    refine wc_ret ?_
    exact ret1 (v := .int .i64 0) rfl ⟨wv3, _, (St.finish (Es := []) st.split).1, (St.finish (Es := []) st.split).2, by rw [hdo hl64], by rw [hdo hl64]; simp only [h32, Bool.false_eq_true, if_false]⟩
theorem setSeg_bs {S l : By} {o : Nat} : setSeg (bs S).toArray o (bs l) = (bs (splice S o l)).toArray := by
 apply Array.ext'
 simp [setSeg, splice, bs, List.map_take, List.map_drop]
theorem st_nil {m0 : Mem} {F : List Nat} {w0 : World} {Es : List Ent} {v : Value} {e size k : Nat} {xs : List Value} (st : St m0 m F w0 w Es) (i : Nat) (hi : Es[i]? = some (rowE v e size k xs)) : St m0 m F w0 w (Es.set i (rowE (.slice none 0 0) e size 0 [])) :=
 st.step i hi ⟨rfl, rfl, rfl, Nat.le_refl _, fun _ _ _ => rfl, by simp [rowE, Value.ownBlock]⟩ ⟨by simp, .inl ⟨rfl, rfl⟩⟩
def dumpK (d : DS) (k : Nat) : By := (d.wt.take k).foldl (fun S x => splice S (64 * x.1) x.2) d.S
theorem dumpK_succ (d : DS) (k : Nat) (h : k < d.wt.length) : dumpK d (k + 1) = splice (dumpK d k) (64 * d.wt[k].1) d.wt[k].2 := by
 unfold dumpK
 rw [List.take_succ_eq_append_getElem h, List.foldl_append]
 rfl
theorem length_dumpK {d : DS} {n : Nat} (ok : d.ok n) : ∀ k, k ≤ d.wt.length → (dumpK d k).length = 64 * n
 | 0, _ => by simp [dumpK, ok.len]
 | k + 1, h => by
  have ih := length_dumpK ok k (by omega)
  have hx := ok.wt d.wt[k] (List.getElem_mem _)
  rw [dumpK_succ d k (by omega), length_splice (by rw [ih, hx.2]; omega), ih]
theorem c_sync (him : Im m w) (hE : (diskO b s n wv d).holds w) (hm : ∀ k ∈ (diskO b s n wv d).foot, m k = none) (ok : d.ok n) (hf : -1 ≤ d.fuse ∧ d.fuse ≤ 9223372036854775807) (hfew : d.wt.length ≤ 1000000) :
  DiskCall 64 [] b s n wv d w fun v' d' => d' = (syncD d).1 ∧ v' = .int .i64 (syncD d).2 := by
 have st := St.begin him hE hm
 have ok' := ok.wt
 refine ret_of Try.call64 Try.func64 rfl Try.ntmps64 Try.results64 rfl ?_
 refine wc_seq ?_
 refine wc_region ?_
 refine wl_val (v_assign' (by conv => (lhs; whnf))) rfl ?_
 refine wl_nil ?_
 refine then_go ?_
 refine wc_seq ?_
 refine wc_seq ?_
 refine wc_region ?_
 refine wl_val (v_move' (by conv => (lhs; whnf))) rfl ?_
 refine wl_val (v_nil rfl) rfl ?_
 refine wl_val (v_fa TF.f68_3 rfl) rfl ?_
 refine wl_val (v_load rfl (by first | exact st.reads 0 rfl TF.t4 rfl | exact st.reads 1 rfl TF.t4 rfl | exact st.reads 2 rfl TF.t4 rfl | exact st.reads 3 rfl TF.t4 rfl | exact st.reads 4 rfl TF.t4 rfl | assumption)) rfl ?_
 refine wl_val (v_move' (by conv => (lhs; whnf))) rfl ?_
 rcases Bool.eq_false_or_eq_true (d.down) with hg4 | hg4
 ·rw [hg4]
  refine wl_off rfl rfl rfl rfl ?_
  refine wl_off rfl rfl rfl rfl ?_
  refine wl_val (v_pick rfl) rfl ?_
  refine wl_nil ?_
  refine then_go ?_
  refine wc_true rfl ?_
  refine wc_seq ?_
  refine wc_region ?_
  refine wl_val (v_assign' (by conv => (lhs; whnf))) rfl ?_
  refine wl_nil ?_
  refine then_go ?_
  refine wc_ret (then_ret ?_)
  exact ret1 (v := .int .i64 14) rfl ⟨wv, d, (St.finish (Es := []) st).1, (St.finish (Es := []) st).2, by simp [syncD, hg4], by simp [syncD, hg4]⟩
 ·rw [hg4]
  refine wl_on rfl rfl ?_
  refine wl_val (v_move' (by conv => (lhs; whnf))) rfl ?_
  refine wl_on rfl rfl ?_
  have st : St m m (joinE (diskL b s n wv d)).foot w w (diskL b s n wv d ++ []) := st
  have st := st.join
  refine wl_call rfl (disk_call st (c_burns st.im (st.at (i := 0) rfl) (st.none (i := 0) rfl) hf)) rfl ?_
  rintro v32 w1 ⟨wv3, d3, st, rfl, rfl⟩
  refine wl_val (v_pick rfl) rfl ?_
  refine wl_nil ?_
  refine then_go ?_
  refine wc_cond rfl (fun h12 => ?_) (fun h12 => ?_)
  ·refine wc_seq ?_
   refine wc_region ?_
   refine wl_val (v_assign' (by conv => (lhs; whnf))) rfl ?_
   refine wl_nil ?_
   refine then_go ?_
   refine wc_ret (then_ret ?_)
   have h12' : d.fuse = 0 := by simpa [burn] using h12
   exact ret1 (v := .int .i64 14) rfl ⟨wv3, _, (St.finish (Es := []) st.split).1, (St.finish (Es := []) st.split).2, by simp [syncD, hg4, h12'], by simp [syncD, hg4, h12']⟩
  ·refine wc_skip ?_
   refine then_go ?_
   refine wc_seq ?_
   refine wc_seq ?_
   have hf0 : ¬ d.fuse = 0 := by
    intro h
    have : (burn d).down = true := by simp [burn, h]
    rw [h12] at this
    cases this
   have st : St m m (joinE (diskL b s n wv d)).foot w w1 (diskL b s n wv3 (burn d)) := by have := st.split; rwa [List.append_nil] at this
   obtain ⟨hnil, wa, wc, hwv, hk3, hn3⟩ : ∃ (_ : True) (wa : Option Addr) (wc : Nat), wv3 = .slice wa d.wt.length wc ∧ d.wt.length ≤ wc ∧ True := by
    obtain ⟨_, a, c, h1, h2, _⟩ := row_SlM (m := heapM w1) (st.at (i := 2) rfl) fun _ _ _ h => h
    exact ⟨trivial, a, c, h1, h2, trivial⟩
   subst hwv
   refine wc_region ?_
   refine wl_val (v_move' (by conv => (lhs; whnf))) rfl ?_
   refine wl_val (v_nil rfl) rfl ?_
   refine wl_val (v_fa TF.f68_1 rfl) rfl ?_
   refine wl_val (v_load rfl (by first | exact st.reads 0 rfl TF.t66 rfl | exact st.reads 1 rfl TF.t66 rfl | exact st.reads 2 rfl TF.t66 rfl | exact st.reads 3 rfl TF.t66 rfl | exact st.reads 4 rfl TF.t66 rfl | assumption)) rfl ?_
   refine wl_val (v_len_s Try.underlying66 rfl) rfl ?_
   refine wl_val (v_move' (by conv => (lhs; whnf))) rfl ?_
   refine wl_nil ?_
   refine then_go ?_
   refine wc_block ?_
   refine wc_loop (S := Nat) (fun k r w' => ∃ j, k + j = d.wt.length ∧ r 0 = .pointer (some ⟨b, 0, none⟩) ∧ r 16 = .slice wa d.wt.length wc ∧ r 17 = .int .i64 d.wt.length ∧ r 18 = .int .i64 j ∧
    St m m (joinE (diskL b s n wv d)).foot w w' (diskL b s n (.slice wa d.wt.length wc) { burn d with S := dumpK d j })) id d.wt.length ⟨0, rfl, rfl, rfl, rfl, rfl, st⟩ ?_
   rintro k r w2 ⟨j, hkj, h0, h16, h17, h18, st⟩
   refine wc_o 0 h0 (wc_o 16 h16 (wc_o 17 h17 (wc_o 18 h18 ?_)))
   refine wc_seq ?_
   refine wc_region ?_
   refine wl_val (v_lss rfl rfl) rfl ?_
   refine wl_nil ?_
   refine then_go ?_
   refine wc_seq ?_
   refine wc_if rfl (fun h19 => ?_) (fun h19 => ?_)
   ·refine wc_skip ?_
    refine then_go ?_
    refine wc_seq ?_
    refine wc_block ?_
    refine wc_seq ?_
    have hj : j < d.wt.length := by omega
    obtain ⟨wb, wo, wcap, hv, _, hrd⟩ := (row_SlM (m := heapM w2) (st.at (i := 2) rfl) fun _ _ _ h => h).elem Try.prog (i := j) hj (by omega)
    cases hv
    have hel := wt_elem (fun x hx => (ok' x hx).2) hj
    have hx := ok' d.wt[j] (List.getElem_mem _)
    refine wc_region ?_
    refine wl_val (v_ias j Try.underlying66 TF.t75 rfl rfl (by first | rfl | omega) (by first | omega | (dsimp only at *; omega))) rfl ?_
    refine wl_val (v_load rfl (hrd (im_heapM _) (off := 0) TF.t75 (getV_all (by show ((cellsAt (wtCells d.wt) 65 j).toArray).size = 65; rw [hel]; simp [bs, hx.2])))) rfl ?_
    refine wl_alloc TF.z75 st rfl ?_
    intro b4 w st
    refine wl_storeW 0 st rfl TF.t75 rfl rfl (by show ((cellsAt (wtCells d.wt) 65 j).toArray).size = 65; rw [hel]; simp [bs, hx.2]) (by simp [Value.cells]) (fun u hu => by
     have hu' : u ∈ cellsAt (wtCells d.wt) 65 j := (by simpa using hu : u ∈ cellsAt (wtCells (burn d).wt) 65 j)
     rw [hel] at hu'
     rcases List.mem_cons.1 hu' with rfl | hu'
     ·rfl
     ·exact one_bs _ u hu') ?_
    intro w st
    have hel' : cellsAt (wtCells (burn d).wt) 65 j = Value.int .i64 d.wt[j].1 :: bs d.wt[j].2 := hel
    change St _ _ _ _ _ (blk b4 (cellsAt (wtCells (burn d).wt) 65 j).toArray 75 :: diskL b s n (.slice (some ⟨wb, wo, none⟩) d.wt.length wc) { burn d with S := dumpK d j }) at st
    rw [hel'] at st
    refine wl_nil ?_
    refine then_go ?_
    refine wc_draw TF.mixed ?_
    have st := st.pure (touch_drew _)
    refine fl_val 0 rfl (fun _ => (v_move' (by conv => (lhs; whnf)))) rfl (by kernel_rfl) ?_
    refine fl_val 1 rfl (fun _ => (v_nil rfl)) rfl (by kernel_rfl) ?_
    refine fl_val 2 rfl (fun _ => (v_fa TF.f68_0 rfl)) rfl (by kernel_rfl) ?_
    refine fl_ld 3 rfl (v_load rfl (by first | exact st.reads 0 rfl TF.t65 rfl | exact st.reads 1 rfl TF.t65 rfl | exact st.reads 2 rfl TF.t65 rfl | exact st.reads 3 rfl TF.t65 rfl | exact st.reads 4 rfl TF.t65 rfl | assumption)) (by kernel_rfl) ?_
    refine fl_val 4 rfl (fun _ => (v_fa TF.f75_0 rfl)) rfl (by kernel_rfl) ?_
    refine fl_ld 5 rfl (v_load rfl (by first | exact st.rdp 0 rfl (by exact rfl) TF.t3 (by exact rfl) | exact st.rdp 1 rfl (by exact rfl) TF.t3 (by exact rfl) | exact st.rdp 2 rfl (by exact rfl) TF.t3 (by exact rfl) | exact st.rdp 3 rfl (by exact rfl) TF.t3 (by exact rfl) | exact st.rdp 4 rfl (by exact rfl) TF.t3 (by exact rfl) | exact st.rdp 5 rfl (by exact rfl) TF.t3 (by exact rfl) | exact st.rdp 6 rfl (by exact rfl) TF.t3 (by exact rfl) | exact st.rdp 7 rfl (by exact rfl) TF.t3 (by exact rfl))) (by kernel_rfl) ?_
    refine fl_val 6 rfl (fun _ => (v_fa TF.f75_1 rfl)) rfl (by kernel_rfl) ?_
    refine fl_ld 7 rfl (v_load rfl (st.reads 0 rfl TF.t73 (getV_tl (by simp [bs, hx.2])))) (by kernel_rfl) ?_
    refine fl_val 8 rfl (fun _ => (v_ias (d.wt[j].1) Try.underlying65 TF.t73 rfl rfl (by first | rfl | omega) hx.1)) rfl (by kernel_rfl) ?_
    refine fl_eff1 9 [] [] (by kernel_rfl) ⟨obl_ld rfl rfl rfl (v_load rfl (st.reads 0 rfl TF.t73 (getV_tl (by simp [bs, hx.2])))), obl_ld rfl rfl rfl (v_load rfl (by first | exact st.rdp 0 rfl (by exact rfl) TF.t3 (by exact rfl) | exact st.rdp 1 rfl (by exact rfl) TF.t3 (by exact rfl) | exact st.rdp 2 rfl (by exact rfl) TF.t3 (by exact rfl) | exact st.rdp 3 rfl (by exact rfl) TF.t3 (by exact rfl) | exact st.rdp 4 rfl (by exact rfl) TF.t3 (by exact rfl) | exact st.rdp 5 rfl (by exact rfl) TF.t3 (by exact rfl) | exact st.rdp 6 rfl (by exact rfl) TF.t3 (by exact rfl) | exact st.rdp 7 rfl (by exact rfl) TF.t3 (by exact rfl))), obl_ld rfl rfl rfl (v_load rfl (by first | exact st.reads 0 rfl TF.t65 rfl | exact st.reads 1 rfl TF.t65 rfl | exact st.reads 2 rfl TF.t65 rfl | exact st.reads 3 rfl TF.t65 rfl | exact st.reads 4 rfl TF.t65 rfl | assumption)), trivial⟩ rfl ?_
    have hlS : (dumpK d j).length = 64 * n := length_dumpK ok j (by omega)
    refine wl_store (v := .agg (bs d.wt[j].2).toArray) 2 st rfl TF.t73 rfl rfl (by simp [Value.cells, bs, hx.2]) (fun u hu => one_bs _ u (by simpa [Value.cells] using hu)) (by simp [bs, hlS]; omega) ?_
    intro w st
    have e : setSeg (bs (dumpK d j)).toArray (0 + d.wt[j].1 * 64) (Value.agg (bs d.wt[j].2).toArray).cells.toList = (bs (dumpK d (j + 1))).toArray := by
     rw [dumpK_succ d j hj, show 0 + d.wt[j].1 * 64 = 64 * d.wt[j].1 by omega]
     exact setSeg_bs
    have st := st.drop 0
    change St _ _ _ _ _ [_, blk s (setSeg (bs (dumpK d j)).toArray (0 + d.wt[j].1 * 64) (Value.agg (bs d.wt[j].2).toArray).cells.toList) _, _] at st
    rw [e] at st
    change St _ _ _ _ _ (diskL b s n (.slice (some ⟨wb, wo, none⟩) d.wt.length wc) { burn d with S := dumpK d (j + 1) }) at st
    refine wl_nil ⟨rfl, ?_⟩
    refine fl_nil (by kernel_rfl) trivial ?_
    refine block_go (then_go ?_)
    refine wc_region ?_
    refine wl_val (v_add' rfl rfl rfl (by first | omega | (dsimp only at *; omega)) (by first | omega | (dsimp only at *; omega))) rfl ?_
    refine wl_val (v_move' (by conv => (lhs; whnf))) rfl ?_
    refine wl_nil ?_
    refine then_go ?_
    exact ⟨k - 1, by simp; omega, j + 1, by omega, rfl, rfl, rfl, rfl, st⟩
   ·refine wc_exit (then_exit (then_exit (block_hit ?_)))
    refine then_go ?_
    refine wc_seq ?_
    refine wc_region ?_
    refine wl_val (v_move' (by conv => (lhs; whnf))) rfl ?_
    refine wl_val (v_nil rfl) rfl ?_
    refine wl_val (v_fa TF.f68_1 rfl) rfl ?_
    refine wl_store1 0 st rfl TF.t66 rfl rfl rfl (by simp) ?_
    intro w st
    have hjl : j = d.wt.length := by omega
    subst hjl
    have st := st_nil st 2 rfl
    have e : dumpK d d.wt.length = dump d := by simp [dumpK, dump]
    change St _ _ _ _ _ (diskL b s n (.slice none 0 0) { burn d with S := dumpK d d.wt.length, wt := [] }) at st
    rw [e] at st
    refine wl_nil ?_
    refine then_go ?_
    refine wc_seq ?_
    refine wc_region ?_
    refine wl_val (v_assign' (by conv => (lhs; whnf))) rfl ?_
    refine wl_nil ?_
    refine then_go ?_
    refine wc_ret ?_
    exact ret1 (v := .int .i64 0) rfl ⟨_, _, (St.finish (Es := []) st).1, (St.finish (Es := []) st).2, by simp [syncD, hg4, hf0], by simp [syncD, hg4, hf0]⟩
end
end Go.Proofs.Ytnaoafogdplnaaa

namespace Go.Proofs.Ytnaoafogdplnaaa
open Go Go.RowKit K DK
def ints (l : List Int) : List Value := l.map (Value.int .i64)
section
variable {m : Mem} {w : World} {b s n : Nat} {wv : Value} {d : DS}
theorem c_crash {kv : Value} {keep : List Int} (him : Im m w) (hE : (diskO b s n wv d).holds w) (hm : ∀ k ∈ (diskO b s n wv d).foot, m k = none) (ok : d.ok n) (hfew : d.wt.length ≤ 1000000)
  (hk : SlM m kv 1 keep.length (ints keep)) :
  DiskCall 16 [kv] b s n wv d w fun _ d' => d' = crashD d keep := by
 have st := St.begin him hE hm
 have ok' := ok.wt
 have hk0 := hk
 obtain ⟨hkl, ka, kc, rfl, hk1⟩ := hk
 obtain ⟨wa, wc, hwv⟩ : ∃ (wa : Option Addr) (wc : Nat), wv = .slice wa d.wt.length wc := by
  obtain ⟨_, a, c, h1, _⟩ := row_SlM (m := heapM w) (st.at (i := 2) rfl) fun _ _ _ h => h
  exact ⟨a, c, h1⟩
 subst hwv
 refine ret_of Try.call16 Try.func16 rfl Try.ntmps16 Try.results16 rfl ?_
 refine wc_seq ?_
 refine wc_seq ?_
 refine wc_region ?_
 refine wl_val (v_move' (by conv => (lhs; whnf))) rfl ?_
 refine wl_val (v_nil rfl) rfl ?_
 refine wl_val (v_fa TF.f68_1 rfl) rfl ?_
 refine wl_val (v_load rfl (by first | exact st.reads 0 rfl TF.t66 rfl | exact st.reads 1 rfl TF.t66 rfl | exact st.reads 2 rfl TF.t66 rfl | exact st.reads 3 rfl TF.t66 rfl | exact st.reads 4 rfl TF.t66 rfl | assumption)) rfl ?_
 refine wl_val (v_len_s Try.underlying66 rfl) rfl ?_
 refine wl_val (v_move' (by conv => (lhs; whnf))) rfl ?_
 refine wl_nil ?_
 refine then_go ?_
 refine wc_block ?_
 refine wc_loop (S := Nat) (fun k r w' => ∃ j S, k + j = d.wt.length ∧ r 0 = .pointer (some ⟨b, 0, none⟩) ∧ r 1 = .slice ka keep.length kc ∧ r 10 = .slice wa d.wt.length wc ∧ r 11 = .int .i64 d.wt.length ∧ r 12 = .int .i64 j ∧ S.length = 64 * n ∧ crashS keep 0 d.S d.wt = crashS keep j S (d.wt.drop j) ∧
  St m m (joinE (diskL b s n (.slice wa d.wt.length wc) d)).foot w w' (diskL b s n (.slice wa d.wt.length wc) { d with S := S })) id d.wt.length ⟨0, d.S, rfl, rfl, rfl, rfl, rfl, rfl, ok.len, rfl, st⟩ ?_
 rintro k r w2 ⟨j, S, hkj, h0, h1, h10, h11, h12, hS, hcr, st⟩
 refine wc_o 0 h0 (wc_o 1 h1 (wc_o 10 h10 (wc_o 11 h11 (wc_o 12 h12 ?_))))
 refine wc_seq ?_
 refine wc_region ?_
 refine wl_val (v_lss rfl rfl) rfl ?_
 refine wl_nil ?_
 refine then_go ?_
 refine wc_seq ?_
 refine wc_if rfl (fun h13 => ?_) (fun h13 => ?_)
 ·refine wc_skip ?_
  refine then_go ?_
  refine wc_seq ?_
  refine wc_block ?_
  refine wc_seq ?_
  have hj : j < d.wt.length := by omega
  obtain ⟨wb, wo, wcap, hv, _, hrd⟩ := (row_SlM (m := heapM w2) (st.at (i := 2) rfl) fun _ _ _ h => h).elem Try.prog (i := j) hj (by omega)
  cases hv
  have hel : cellsAt (wtCells d.wt) 65 j = Value.int .i64 d.wt[j].1 :: bs d.wt[j].2 := wt_elem (fun x hx => (ok' x hx).2) hj
  have hx := ok' d.wt[j] (List.getElem_mem _)
  refine wc_region ?_
  refine wl_val (v_move' (by conv => (lhs; whnf))) rfl ?_
  refine wl_val (v_ias j Try.underlying66 TF.t75 rfl rfl (by first | rfl | omega) (by first | omega | (dsimp only at *; omega))) rfl ?_
  refine wl_val (v_load rfl (hrd (im_heapM _) (off := 0) TF.t75 (getV_all (by show ((cellsAt (wtCells d.wt) 65 j).toArray).size = 65; rw [hel]; simp [bs, hx.2])))) rfl ?_
  refine wl_alloc TF.z75 st rfl ?_
  intro b5 w st
  refine wl_val (v_assign' (by conv => (lhs; whnf))) rfl ?_
  refine wl_storeW 0 st rfl TF.t75 rfl rfl (by show ((cellsAt (wtCells d.wt) 65 j).toArray).size = 65; rw [hel]; simp [bs, hx.2]) (by simp [Value.cells]) (fun u hu => by
   have hu' : u ∈ cellsAt (wtCells d.wt) 65 j := by simpa using hu
   rw [hel] at hu'
   rcases List.mem_cons.1 hu' with rfl | hu'
   ·rfl
   ·exact one_bs _ u hu') ?_
  intro w st
  change St _ _ _ _ _ (blk b5 (cellsAt (wtCells d.wt) 65 j).toArray 75 :: diskL b s n (.slice (some ⟨wb, wo, none⟩) d.wt.length wc) { d with S := S }) at st
  rw [hel] at st
  refine wl_nil ?_
  refine then_go ?_
  refine wc_seq ?_
  refine wc_region ?_
  refine wl_val (v_move' (by conv => (lhs; whnf))) rfl ?_
  refine wl_val (v_move' (by conv => (lhs; whnf))) rfl ?_
  refine wl_val (v_len_s Try.underlying40 rfl) rfl ?_
  refine wl_val (v_lss rfl rfl) rfl ?_
  refine wl_nil ?_
  refine then_go ?_
  refine wc_if rfl (fun h20 => ?_) (fun h20 => ?_)
  ·refine wc_seq ?_
   have hjk : j < keep.length := by omega
   obtain ⟨kb, ko, kcap, hkv, _, hkr⟩ := hk0.elem Try.prog (i := j) hjk (by omega)
   cases hkv
   have hkel : cellsAt (ints keep) 1 j = [Value.int .i64 keep[j]] := by simp [cellsAt, ints, List.drop_eq_getElem_cons, hjk]
   have hnn : min (max keep[j] 0) 64 = (keepN keep j : Int) := by simp [keepN, List.getElem?_eq_getElem hjk]; omega
   have hn64 := keepN_le keep j
   refine wc_region ?_
   refine wl_val (v_move' (by conv => (lhs; whnf))) rfl ?_
   refine wl_val (v_move' (by conv => (lhs; whnf))) rfl ?_
   refine wl_val (v_ias j Try.underlying40 TF.t3 rfl rfl (by first | rfl | omega) (by first | omega | (dsimp only at *; omega))) rfl ?_
   refine wl_val (v_load rfl (hkr st.im (off := 0) TF.t3 (by rw [hkel]; rfl))) rfl ?_
   refine wl_val (v_max rfl rfl) rfl ?_
   refine wl_val (v_min rfl rfl) rfl ?_
   refine wl_val (v_assign' (by conv => (lhs; whnf))) rfl ?_
   refine wl_nil ?_
   refine then_go ?_
   refine wc_draw TF.mixed ?_
   have st := st.pure (touch_drew _)
   refine fl_val 0 rfl (fun _ => (v_move' (by conv => (lhs; whnf)))) rfl (by kernel_rfl) ?_
   refine fl_val 1 rfl (fun _ => (v_nil rfl)) rfl (by kernel_rfl) ?_
   refine fl_val 2 rfl (fun _ => (v_fa TF.f68_0 rfl)) rfl (by kernel_rfl) ?_
   refine fl_ld 3 rfl (v_load rfl (by first | exact st.reads 0 rfl TF.t65 rfl | exact st.reads 1 rfl TF.t65 rfl | exact st.reads 2 rfl TF.t65 rfl | exact st.reads 3 rfl TF.t65 rfl | exact st.reads 4 rfl TF.t65 rfl | assumption)) (by kernel_rfl) ?_
   refine fl_val 4 rfl (fun _ => (v_fa TF.f75_0 rfl)) rfl (by kernel_rfl) ?_
   refine fl_ld 5 rfl (v_load rfl (st.reads 0 rfl TF.t3 rfl)) (by kernel_rfl) ?_
   refine fl_val 6 rfl (fun _ => (v_ias (d.wt[j].1) Try.underlying65 TF.t73 rfl rfl (by first | rfl | omega) hx.1)) rfl (by kernel_rfl) ?_
   refine fl_val 7 rfl (fun _ => (v_move' (by conv => (lhs; whnf)))) rfl (by kernel_rfl) ?_
   refine fl_val 8 rfl (fun _ => (v_slice_a (l := 0) (h := keepN keep j) Try.underlying73 TF.t5 rfl rfl ⟨_, _, rfl, hnn⟩ (by omega) hn64)) rfl (by kernel_rfl) ?_
   refine fl_val 9 rfl (fun _ => (v_fa TF.f75_1 rfl)) rfl (by kernel_rfl) ?_
   refine fl_val 10 rfl (fun _ => (v_move' (by conv => (lhs; whnf)))) rfl (by kernel_rfl) ?_
   refine fl_val 11 rfl (fun _ => (v_slice_a (l := 0) (h := keepN keep j) Try.underlying73 TF.t5 rfl rfl ⟨_, _, rfl, hnn⟩ (by omega) hn64)) rfl (by kernel_rfl) ?_
   refine fl_eff1 12 [10, 9, 7, 6, 4, 2, 1, 0] [5, 3] (by kernel_rfl) ⟨obl_ld rfl rfl rfl (v_load rfl (st.reads 0 rfl TF.t3 rfl)), obl_ld rfl rfl rfl (v_load rfl (by first | exact st.reads 0 rfl TF.t65 rfl | exact st.reads 1 rfl TF.t65 rfl | exact st.reads 2 rfl TF.t65 rfl | exact st.reads 3 rfl TF.t65 rfl | exact st.reads 4 rfl TF.t65 rfl | assumption)), trivial⟩ rfl ?_
   refine wl_copy (size := 1) (b := s) (off := d.wt[j].1 * 64) (len := keepN keep j) (cap := 64) 2 st rfl Try.underlying30 TF.t5 (by simp; rfl) rfl (st.srcArr (off := 1) (k := keepN keep j) (cap := 64) (news := bs (d.wt[j].2.take (keepN keep j))) 0 rfl (by simp [bs, hx.2]; omega) ?_ (one_bs _)) (by simp [bs, hS]; omega) rfl ?_
   ·intro q u hq
    simp only [bs, List.map_take, List.getElem?_take] at hq
    split at hq
    ·rw [Nat.add_comm, List.getElem?_toArray, List.getElem?_cons_succ]; exact hq
    ·cases hq
   intro w st
   refine wl_nil ⟨rfl, ?_⟩
   refine fl_nil (by kernel_rfl) ⟨obl_ld rfl rfl rfl (v_load rfl (st.reads 0 rfl TF.t3 rfl)), obl_ld rfl rfl rfl (v_load rfl (by first | exact st.reads 0 rfl TF.t65 rfl | exact st.reads 1 rfl TF.t65 rfl | exact st.reads 2 rfl TF.t65 rfl | exact st.reads 3 rfl TF.t65 rfl | exact st.reads 4 rfl TF.t65 rfl | assumption)), trivial⟩ ?_
   have st := st.drop 0
   have e : setSeg (bs S).toArray (d.wt[j].1 * 64) ((bs (d.wt[j].2.take (keepN keep j))).take (min (keepN keep j) (keepN keep j) * 1)) = (bs (splice S (64 * d.wt[j].1) (d.wt[j].2.take (keepN keep j)))).toArray := by
    rw [List.take_of_length_le (by simp [bs]; omega), Nat.mul_comm]
    exact setSeg_bs
   change St _ _ _ _ _ [_, blk s (setSeg (bs S).toArray (d.wt[j].1 * 64) ((bs (d.wt[j].2.take (keepN keep j))).take (min (keepN keep j) (keepN keep j) * 1))) _, _] at st
   rw [e] at st
   refine block_go (then_go ?_)
   refine wc_region ?_
   refine wl_val (v_add' rfl rfl rfl (by first | omega | (dsimp only at *; omega)) (by first | omega | (dsimp only at *; omega))) rfl ?_
   refine wl_val (v_move' (by conv => (lhs; whnf))) rfl ?_
   refine wl_nil ?_
   refine then_go ?_
   refine ⟨k - 1, by simp; omega, j + 1, splice S (64 * d.wt[j].1) (d.wt[j].2.take (keepN keep j)), by omega, rfl, rfl, rfl, rfl, rfl, ?_, ?_, st⟩
   ·rw [length_splice (by simp [hS, hx.2]; omega), hS]
   ·rw [hcr, crash_step hj]
  ·refine wc_skip ?_
   refine block_go (then_go ?_)
   refine wc_region ?_
   refine wl_val (v_add' rfl rfl rfl (by first | omega | (dsimp only at *; omega)) (by first | omega | (dsimp only at *; omega))) rfl ?_
   refine wl_val (v_move' (by conv => (lhs; whnf))) rfl ?_
   refine wl_nil ?_
   refine then_go ?_
   have st := st.drop 0
   have hkn : keepN keep j = 0 := keepN_none (by omega)
   refine ⟨k - 1, by simp; omega, j + 1, S, by omega, rfl, rfl, rfl, rfl, rfl, hS, ?_, st⟩
   rw [hcr, crash_step hj, hkn]
   simp [splice_nil]
 ·refine wc_exit (then_exit (then_exit (block_hit ?_)))
  refine then_go ?_
  have hjl : j = d.wt.length := by omega
  subst hjl
  refine wc_region ?_
  refine wl_val (v_move' (by conv => (lhs; whnf))) rfl ?_
  refine wl_val (v_move' (by conv => (lhs; whnf))) rfl ?_
  refine wl_val (v_move' (by conv => (lhs; whnf))) rfl ?_
  refine wl_val (v_nil rfl) rfl ?_
  refine wl_val (v_fa TF.f68_1 rfl) rfl ?_
  refine wl_store1 0 st rfl TF.t66 rfl (by conv => (lhs; whnf)) rfl (by first | exact lt_ok rfl | decide | simp) ?_
  intro w st
  refine wl_val (v_nil rfl) rfl ?_
  refine wl_val (v_fa TF.f68_3 rfl) rfl ?_
  refine wl_store1 0 st rfl TF.t4 rfl (by conv => (lhs; whnf)) rfl (by first | exact lt_ok rfl | decide | simp) ?_
  intro w st
  refine wl_val (v_nil rfl) rfl ?_
  refine wl_val (v_fa TF.f68_2 rfl) rfl ?_
  refine wl_store1 0 st rfl TF.t3 rfl (by conv => (lhs; whnf)) rfl (by first | exact lt_ok rfl | decide | simp) ?_
  intro w st
  have st := st_nil st 2 rfl
  change St _ _ _ _ _ (diskL b s n (.slice none 0 0) ⟨S, [], -1, false⟩) at st
  refine wl_nil ?_
  refine end0 ⟨_, _, (St.finish (Es := []) st).1, (St.finish (Es := []) st).2, ?_⟩
  unfold crashD
  rw [hcr]
  simp [crashS]
def NewBytes (w w' : World) (v : Value) (l : By) : Prop := ∃ m1, Fresh m1 w ∧ Im m1 w' ∧ SlM m1 v 1 l.length (bs l)
theorem dumpK_all (d : DS) : dumpK d d.wt.length = dump d := by simp [dumpK, dump]
theorem setSeg_sp {S l : By} {sp : List Value} {o : Nat} (h : o + l.length ≤ S.length) : setSeg (bs S ++ sp).toArray o (bs l) = (bs (splice S o l) ++ sp).toArray := by
 apply Array.ext'
 simp only [setSeg, splice, bs, List.map_append, List.map_take, List.map_drop, List.length_map]
 rw [List.take_append_of_le_length (by simp; omega), List.drop_append_of_le_length (by simp; omega)]
 simp
theorem c_dump {wI : World} (him : Im m wI) (hd : diskM m b n d) :
  Ret Try.prog 23 #[.pointer (some ⟨b, 0, none⟩)] wI fun v w' => Tch wI w' [] [] ∧ NewBytes wI w' v (dump d) := by
 obtain ⟨ok, ⟨s, wv, hb, hs, hw⟩, hf⟩ := hd
 have st := St.start him
 have hw0 := hw
 obtain ⟨hwl, wa, wc, rfl, hw1⟩ := hw
 have ok1 := ok.pos
 have ok2 := ok.le
 have ok3 := ok.len
 have ok' := ok.wt
 refine ret_of Try.call23 Try.func23 rfl Try.ntmps23 Try.results23 rfl ?_
 refine wc_seq ?_
 refine wc_region ?_
 refine wl_val (v_assign' (by conv => (lhs; whnf))) rfl ?_
 refine wl_nil ?_
 refine then_go ?_
 refine wc_seq ?_
 refine wc_region ?_
 refine wl_val (v_move' (by conv => (lhs; whnf))) rfl ?_
 refine wl_val (v_nil rfl) rfl ?_
 refine wl_val (v_fa TF.f68_0 rfl) rfl ?_
 refine wl_val (v_load rfl (st.readm hb TF.t65 rfl)) rfl ?_
 refine wl_val (v_len_s Try.underlying65 rfl) rfl ?_
 refine wl_val (v_mul' rfl rfl rfl (by first | omega | (dsimp only at *; omega)) (by first | omega | (dsimp only at *; omega))) rfl ?_
 refine wl_make (l := 0) (c := n * 64) Try.underlying30 TF.t5 TF.z5 rfl rfl rfl (by simp) (by omega) (by omega) (by omega) (by omega) st rfl ?_
 intro b3 w st
 have st := st.rowShut 0 (k := 0) (cap := n * 64) (size := 1) (xs := []) rfl (by omega) (by simp [size_madeCells]) (by omega) (by simp)
 refine wl_val (v_assign' (by conv => (lhs; whnf))) rfl ?_
 refine wl_nil ?_
 refine then_go ?_
 refine wc_seq ?_
 refine wc_region ?_
 refine wl_val (v_move' (by conv => (lhs; whnf))) rfl ?_
 refine wl_val (v_nil rfl) rfl ?_
 refine wl_val (v_fa TF.f68_0 rfl) rfl ?_
 refine wl_val (v_load rfl (st.readm hb TF.t65 rfl)) rfl ?_
 have st := st.new (E := rowE (.slice none 0 0) 73 64 0 []) ⟨rfl, rfl, rfl, Nat.le_refl _, fun _ _ _ => rfl, by simp [rowE, Value.ownBlock]⟩ ⟨by simp, .inl ⟨rfl, rfl⟩⟩
 refine wl_append 0 st rfl Try.underlying65 Try.underlying65 (.inr ⟨_, rfl⟩) TF.t73 TF.z73 (by simp [Value.cells]) rfl rfl ((SlM.of (o := 0) (k := n) (cap := n) (size := 64) (xs := bs d.S) hs (by simp [bs, ok3]; omega) (Nat.le_refl _) (fun j u hj => by simpa using hj)).src st.im (one_bs _)) (by omega) (by omega) rfl ?_
 intro lv w _ st
 rw [Nat.zero_add, List.nil_append] at st
 obtain ⟨g, cap, sp, rfl, hgc, hsp, hcap, st⟩ := st.rowOpen 0 rfl (by omega)
 change St _ _ _ _ _ [blk g (bs d.S ++ sp).toArray 73, rowE (.slice (some ⟨b3, 0, none⟩) 0 (n * 64)) 5 1 0 []] at st
 refine wl_val (v_assign' (by conv => (lhs; whnf))) rfl ?_
 refine wl_nil ?_
 refine then_go ?_
 refine wc_seq ?_
 refine wc_seq ?_
 refine wc_region ?_
 refine wl_val (v_move' (by conv => (lhs; whnf))) rfl ?_
 refine wl_val (v_nil rfl) rfl ?_
 refine wl_val (v_fa TF.f68_1 rfl) rfl ?_
 refine wl_val (v_load rfl (st.readm hb TF.t66 rfl)) rfl ?_
 refine wl_val (v_len_s Try.underlying66 rfl) rfl ?_
 refine wl_val (v_move' (by conv => (lhs; whnf))) rfl ?_
 refine wl_nil ?_
 refine then_go ?_
 refine wc_block ?_
 refine wc_loop (S := Nat) (fun k r w' => ∃ j, k + j = d.wt.length ∧ r 3 = .slice (some ⟨b3, 0, none⟩) 0 (n * 64) ∧ r 4 = .slice (some ⟨g, 0, none⟩) n cap ∧ r 24 = .slice wa d.wt.length wc ∧ r 25 = .int .i64 d.wt.length ∧ r 26 = .int .i64 j ∧
  St m m [] wI w' [blk g (bs (dumpK d j) ++ sp).toArray 73, rowE (.slice (some ⟨b3, 0, none⟩) 0 (n * 64)) 5 1 0 []]) id d.wt.length ⟨0, rfl, rfl, rfl, rfl, rfl, rfl, st⟩ ?_
 rintro k r w2 ⟨j, hkj, h3, h4, h24, h25, h26, st⟩
 refine wc_o 3 h3 (wc_o 4 h4 (wc_o 24 h24 (wc_o 25 h25 (wc_o 26 h26 ?_))))
 refine wc_seq ?_
 refine wc_region ?_
 refine wl_val (v_lss rfl rfl) rfl ?_
 refine wl_nil ?_
 refine then_go ?_
 refine wc_seq ?_
 refine wc_if rfl (fun h27 => ?_) (fun h27 => ?_)
 ·refine wc_skip ?_
  refine then_go ?_
  refine wc_seq ?_
  refine wc_block ?_
  refine wc_seq ?_
  have hj : j < d.wt.length := by omega
  obtain ⟨wb, wo, wcap, hv, _, hrd⟩ := hw0.elem Try.prog (i := j) hj (by omega)
  cases hv
  have hel : cellsAt (wtCells d.wt) 65 j = Value.int .i64 d.wt[j].1 :: bs d.wt[j].2 := wt_elem (fun x hx => (ok' x hx).2) hj
  have hx := ok' d.wt[j] (List.getElem_mem _)
  refine wc_region ?_
  refine wl_val (v_ias j Try.underlying66 TF.t75 rfl rfl (by first | rfl | omega) (by first | omega | (dsimp only at *; omega))) rfl ?_
  refine wl_val (v_load rfl (hrd st.im (off := 0) TF.t75 (getV_all (by rw [hel]; simp [bs, hx.2])))) rfl ?_
  refine wl_alloc TF.z75 st rfl ?_
  intro b6 w st
  refine wl_storeW 0 st rfl TF.t75 rfl rfl (by rw [hel]; simp [bs, hx.2]) (by simp [Value.cells]) (fun u hu => by
   rw [hel] at hu
   rcases List.mem_cons.1 (List.mem_toArray.1 (by simpa using hu)) with rfl | hu'
   ·rfl
   ·exact one_bs _ u hu') ?_
  intro w st
  rw [hel] at st
  refine wl_nil ?_
  refine then_go ?_
  refine wc_region ?_
  refine wl_val (v_move' (by conv => (lhs; whnf))) rfl ?_
  refine wl_val (v_fa TF.f75_0 rfl) rfl ?_
  refine wl_val (v_load rfl (by first | exact st.rdp 0 rfl (by exact rfl) TF.t3 (by exact rfl) | exact st.rdp 1 rfl (by exact rfl) TF.t3 (by exact rfl) | exact st.rdp 2 rfl (by exact rfl) TF.t3 (by exact rfl) | exact st.rdp 3 rfl (by exact rfl) TF.t3 (by exact rfl) | exact st.rdp 4 rfl (by exact rfl) TF.t3 (by exact rfl) | exact st.rdp 5 rfl (by exact rfl) TF.t3 (by exact rfl) | exact st.rdp 6 rfl (by exact rfl) TF.t3 (by exact rfl) | exact st.rdp 7 rfl (by exact rfl) TF.t3 (by exact rfl))) rfl ?_
  refine wl_val (v_fa TF.f75_1 rfl) rfl ?_
  refine wl_val (v_load rfl (st.reads 0 rfl TF.t73 (getV_tl (by simp [bs, hx.2])))) rfl ?_
  refine wl_val (v_ias (d.wt[j].1) Try.underlying65 TF.t73 rfl rfl (by first | rfl | omega) hx.1) rfl ?_
  have hlS : (dumpK d j).length = 64 * n := length_dumpK ok j (by omega)
  refine wl_store (v := .agg (bs d.wt[j].2).toArray) 1 st rfl TF.t73 rfl rfl (by simp [Value.cells, bs, hx.2]) (fun u hu => one_bs _ u (by simpa [Value.cells] using hu)) (by simp [bs, hlS]; omega) ?_
  intro w st
  have e : setSeg (bs (dumpK d j) ++ sp).toArray (0 + d.wt[j].1 * 64) (Value.agg (bs d.wt[j].2).toArray).cells.toList = (bs (dumpK d (j + 1)) ++ sp).toArray := by
   rw [dumpK_succ d j hj, show 0 + d.wt[j].1 * 64 = 64 * d.wt[j].1 by omega]
   exact setSeg_sp (by rw [hlS, hx.2]; omega)
  rw [e] at st
  have st := st.drop 0
  refine wl_nil ?_
  refine block_go (then_go ?_)
  refine wc_region ?_
  refine wl_val (v_add' rfl rfl rfl (by first | omega | (dsimp only at *; omega)) (by first | omega | (dsimp only at *; omega))) rfl ?_
  refine wl_val (v_move' (by conv => (lhs; whnf))) rfl ?_
  refine wl_nil ?_
  refine then_go ?_
  exact ⟨k - 1, by simp; omega, j + 1, by omega, rfl, rfl, rfl, rfl, rfl, st⟩
 ·refine wc_exit (then_exit (then_exit (block_hit ?_)))
  refine then_go ?_
  refine wc_seq ?_
  refine wc_seq ?_
  have hjl : j = d.wt.length := by omega
  subst hjl
  rw [dumpK_all] at st
  have hD : (dump d).length = 64 * n := by rw [← dumpK_all]; exact length_dumpK ok _ (Nat.le_refl _)
  refine wc_region ?_
  refine wl_val (v_move' (by conv => (lhs; whnf))) rfl ?_
  refine wl_val (v_len_s Try.underlying65 rfl) rfl ?_
  refine wl_val (v_move' (by conv => (lhs; whnf))) rfl ?_
  refine wl_nil ?_
  refine then_go ?_
  refine wc_block ?_
  refine wc_loop (S := Nat) (fun k r w' => ∃ j v, k + j = n ∧ r 3 = v ∧ r 37 = .slice (some ⟨g, 0, none⟩) n cap ∧ r 38 = .int .i64 n ∧ r 39 = .int .i64 j ∧
   St m m [] wI w' [blk g (bs (dump d) ++ sp).toArray 73, rowE v 5 1 (64 * j) (bs ((dump d).take (64 * j)))]) id n ⟨0, _, rfl, rfl, rfl, rfl, rfl, by rw [show bs ((dump d).take (64 * 0)) = [] by simp [bs]]; exact st⟩ ?_
  rintro k r w2 ⟨j, v, hkj, h3, h37, h38, h39, st⟩
  refine wc_o 3 h3 (wc_o 37 h37 (wc_o 38 h38 (wc_o 39 h39 ?_)))
  refine wc_seq ?_
  refine wc_region ?_
  refine wl_val (v_lss rfl rfl) rfl ?_
  refine wl_nil ?_
  refine then_go ?_
  refine wc_seq ?_
  refine wc_if rfl (fun h40 => ?_) (fun h40 => ?_)
  ·refine wc_skip ?_
   refine then_go ?_
   refine wc_seq ?_
   refine wc_block ?_
   refine wc_seq ?_
   have hj : j < n := by omega
   have hsec : (sec (dump d) j).length = 64 := by simp [sec, hD]; omega
   refine wc_region ?_
   refine wl_val (v_ias j Try.underlying65 TF.t73 rfl rfl (by first | rfl | omega) (by first | omega | (dsimp only at *; omega))) rfl ?_
   refine wl_val (v_load rfl (st.reads 0 rfl TF.t73 (getV_seg (a := bs ((dump d).take (64 * j))) (b := bs (sec (dump d) j)) (c := bs ((dump d).drop (64 * j + 64)) ++ sp) (by rw [← List.append_assoc, ← bs_append, ← bs_append, secs_split]) (by simp [bs, hD]; omega) (by simp [bs, hsec])))) rfl ?_
   refine wl_alloc TF.z73 st rfl ?_
   intro b8 w st
   refine wl_storeW 0 st rfl TF.t73 rfl rfl (by simp [bs, hsec]) (by simp [Value.cells]) (fun u hu => one_bs _ u (by simpa using hu)) ?_
   intro w st
   refine wl_nil ?_
   refine then_go ?_
   refine wc_region ?_
   refine wl_val (v_move' (by conv => (lhs; whnf))) rfl ?_
   refine wl_val (v_slice_a (l := 0) (h := 64) Try.underlying73 TF.t5 rfl rfl rfl (by omega) (by omega)) rfl ?_
   refine wl_append 2 st rfl Try.underlying30 Try.underlying30 (.inr ⟨_, rfl⟩) TF.t5 TF.z5 (by simp [Value.cells]) rfl rfl (st.srcArr (off := 0) (news := bs (sec (dump d) j)) 0 rfl (by simp [bs, hsec]) (fun q u hq => by simpa using hq) (one_bs _)) (by omega) (by omega) rfl ?_
   intro ov w _ st
   have e : bs ((dump d).take (64 * j)) ++ bs (sec (dump d) j) = bs ((dump d).take (64 * (j + 1))) := by
    rw [← bs_append]
    congr 1
    unfold sec
    rw [show 64 * (j + 1) = 64 * j + 64 by omega, List.take_add]
   rw [e] at st
   have st := st.drop 0
   refine wl_val (v_assign' (by conv => (lhs; whnf))) rfl ?_
   refine wl_nil ?_
   refine block_go (then_go ?_)
   refine wc_region ?_
   refine wl_val (v_add' rfl rfl rfl (by first | omega | (dsimp only at *; omega)) (by first | omega | (dsimp only at *; omega))) rfl ?_
   refine wl_val (v_move' (by conv => (lhs; whnf))) rfl ?_
   refine wl_nil ?_
   refine then_go ?_
   exact ⟨k - 1, by simp; omega, j + 1, ov, by omega, rfl, rfl, rfl, rfl, st⟩
  ·refine wc_exit (then_exit (then_exit (block_hit ?_)))
   refine then_go ?_
   refine wc_seq ?_
   refine wc_region ?_
   refine wl_val (v_move' (by conv => (lhs; whnf))) rfl ?_
   refine wl_val (v_assign' (by conv => (lhs; whnf))) rfl ?_
   refine wl_nil ?_
   refine then_go ?_
   refine wc_ret ?_
   have hjn : j = n := by omega
   obtain ⟨m1, h1, h2, h3'⟩ := st.freshR (i := 1) rfl
   refine ret1 (v := v) rfl ⟨st.touch, m1, h1, h2, ?_⟩
   rw [hjn] at h3'
   rw [List.take_of_length_le (by omega)] at h3'
   rw [hD]
   exact h3'
end
end Go.Proofs.Ytnaoafogdplnaaa

namespace Go.Proofs.Ytnaoafogdplnaaa
open Go Go.RowKit K DK
section
variable {m : Mem}
def NewDisk (w w' : World) (v : Value) (n : Nat) (d : DS) : Prop := ∃ b s wv, v = .pointer (some ⟨b, 0, none⟩) ∧ Tch w w' [] (diskO b s n wv d).foot ∧ (diskO b s n wv d).holds w'
theorem bs_zero (k : Nat) : List.replicate k (Value.int .u8 0) = bs (List.replicate k 0) := by simp [bs, u8]
theorem c_new {wI : World} (i : Int) (him : Im m wI) :
  Ret Try.prog 37 #[.int .i64 i] wI fun v w' =>
   if i < 1 ∨ i > 16384 then Tch wI w' [] [] ∧ v = .tuple #[.pointer none, .int .i64 2]
   else ∃ p, NewDisk wI w' p i.toNat (newD i.toNat) ∧ v = .tuple #[p, .int .i64 0] := by
 have st := St.start him
 refine ret_of Try.call37 Try.func37 rfl Try.ntmps37 Try.results37 rfl ?_
 refine wc_seq ?_
 refine wc_region ?_
 refine wl_val (v_assign' (by conv => (lhs; whnf))) rfl ?_
 refine wl_val (v_assign' (by conv => (lhs; whnf))) rfl ?_
 refine wl_nil ?_
 refine then_go ?_
 refine wc_seq ?_
 refine wc_seq ?_
 refine wc_region ?_
 refine wl_val (v_move' (by conv => (lhs; whnf))) rfl ?_
 refine wl_val (v_lss rfl rfl) rfl ?_
 refine wl_val (v_move' (by conv => (lhs; whnf))) rfl ?_
 by_cases hg2 : i < 1
 ·rw [show decide (i < 1) = true from decide_eq_true hg2]
  refine wl_off rfl rfl rfl rfl ?_
  refine wl_off rfl rfl rfl rfl ?_
  refine wl_val (v_pick rfl) rfl ?_
  refine wl_nil ?_
  refine then_go ?_
  refine wc_true rfl ?_
  refine wc_seq ?_
  refine wc_region ?_
  refine wl_val (v_assign' (by conv => (lhs; whnf))) rfl ?_
  refine wl_val (v_assign' (by conv => (lhs; whnf))) rfl ?_
  refine wl_nil ?_
  refine then_go ?_
  refine wc_ret (then_ret ?_)
  refine ret2 (v := .pointer none) (v' := .int .i64 2) rfl rfl ?_
  rw [if_pos (.inl hg2)]
  exact ⟨st.touch, rfl⟩
 ·rw [show decide (i < 1) = false from decide_eq_false hg2]
  refine wl_on rfl rfl ?_
  refine wl_val (v_move' (by conv => (lhs; whnf))) rfl ?_
  refine wl_on rfl rfl ?_
  refine wl_val (v_gtr rfl rfl) rfl ?_
  refine wl_val (v_pick rfl) rfl ?_
  refine wl_nil ?_
  refine then_go ?_
  refine wc_if rfl (fun h9 => ?_) (fun h9 => ?_)
  ·refine wc_seq ?_
   refine wc_region ?_
   refine wl_val (v_assign' (by conv => (lhs; whnf))) rfl ?_
   refine wl_val (v_assign' (by conv => (lhs; whnf))) rfl ?_
   refine wl_nil ?_
   refine then_go ?_
   refine wc_ret (then_ret ?_)
   refine ret2 (v := .pointer none) (v' := .int .i64 2) rfl rfl ?_
   rw [if_pos (.inr h9)]
   exact ⟨st.touch, rfl⟩
  ·refine wc_skip ?_
   refine then_go ?_
   refine wc_seq ?_
   obtain ⟨n, rfl⟩ : ∃ n : Nat, i = n := ⟨i.toNat, by omega⟩
   refine wc_region ?_
   refine wl_val (v_move' (by conv => (lhs; whnf))) rfl ?_
   refine wl_make (l := n) (c := n) Try.underlying65 TF.t73 TF.z73 rfl rfl rfl rfl (by omega) (by omega) (by omega) (by omega) st rfl ?_
   intro s w st
   have e : madeCells (Value.agg (Array.replicate 64 (Value.int .u8 0))).cells (n * 64) = (bs (List.replicate (64 * n) 0)).toArray := by
    rw [show (Value.agg (Array.replicate 64 (Value.int .u8 0))).cells = Array.replicate (63 + 1) (Value.int .u8 0) from rfl, madeCells_rep, bs_zero, Nat.mul_comm]
   rw [e] at st
   refine wl_val (v_build (c' := #[.slice (some ⟨s, 0, none⟩) n n, .slice none 0 0, .int .i64 (-1), .bool false]) [(0, .slice (some ⟨s, 0, none⟩) n n), (2, .int .i64 (-1))] TF.z68 TF.p68 rfl (fill_one [] [.slice none 0 0] [.slice none 0 0, .int .i64 0, .bool false] rfl rfl rfl (fill_one [.slice (some ⟨s, 0, none⟩) n n, .slice none 0 0] [.int .i64 0] [.bool false] rfl rfl rfl rfl))) rfl ?_
   refine wl_box (v := .agg #[.slice (some ⟨s, 0, none⟩) n n, .slice none 0 0, .int .i64 (-1), .bool false]) rfl st rfl ?_
   intro b w st
   have st := st.new (E := rowE (.slice none 0 0) 75 65 0 []) ⟨rfl, rfl, rfl, Nat.le_refl _, fun _ _ _ => rfl, by simp [rowE, Value.ownBlock]⟩ ⟨by simp, .inl ⟨rfl, rfl⟩⟩
   have st := st.perm (l := diskL b s n (.slice none 0 0) (newD n)) ((List.Perm.swap _ _ _).trans (List.Perm.cons _ (List.Perm.swap _ _ _)))
   refine wl_val (v_assign' (by conv => (lhs; whnf))) rfl ?_
   refine wl_val (v_assign' (by conv => (lhs; whnf))) rfl ?_
   refine wl_nil ?_
   refine then_go ?_
   refine wc_ret ?_
   refine ret2 (v := .pointer (some ⟨b, 0, none⟩)) (v' := .int .i64 0) rfl rfl ?_
   rw [if_neg (by omega)]
   exact ⟨_, ⟨b, s, _, rfl, (St.finish (Es := []) st).1, (St.finish (Es := []) st).2⟩, rfl⟩
end
end Go.Proofs.Ytnaoafogdplnaaa

namespace Go.Proofs.Ytnaoafogdplnaaa
open Go Go.RowKit K SH DK JR
def logB (g b : Nat) (s : LG) (lv : Value) : Ent := K.blk g #[.pointer (some ⟨b, 0, none⟩), .int .i64 s.half, u64 s.gen, .int .i64 s.fin, lv] 70
section
variable {m0 m : Mem} {F : List Nat} {w0 w : World} {Es : List Ent}
theorem disk_callI {f : FuncId} {args : List Value} {R : Value → DS → Prop} {b s n : Nat} {wv : Value} {d : DS} (i : Nat) (st : St m0 m F w0 w Es) (hi : Es[i]? = some (diskO b s n wv d)) (h : DiskCall f args b s n wv d w R) :
  Ret Try.prog f (.pointer (some ⟨b, 0, none⟩) :: args).toArray w fun v w' => ∃ wv' d', St m0 m F w0 w' (Es.set i (diskO b s n wv' d')) ∧ R v d' :=
 h.mono fun _ _ ⟨wv', d', t, hE, hR⟩ => ⟨wv', d', st.step i hi t hE, hR⟩
theorem disk_at {b s n : Nat} {wv : Value} {d : DS} (i : Nat) (st : St m0 m F w0 w Es) (hi : Es[i]? = some (diskO b s n wv d)) (ok : d.ok n) : diskM (heapM w) b n d := by
 have h := (st.at hi).1
 exact ⟨ok, ⟨s, wv, h (K.blk b _ _) (List.mem_cons_self), h (K.blk s _ _) (List.mem_cons_of_mem _ List.mem_cons_self), row_SlM (h (rowE wv 75 65 d.wt.length (wtCells d.wt)) (by simp [diskL])) fun _ _ _ h => h⟩, row_few (h (rowE wv 75 65 d.wt.length (wtCells d.wt)) (by simp [diskL]))⟩
theorem c_lsize {g b s n : Nat} {sl : LG} {lv wv : Value} {d : DS} (st : St m0 m F w0 w (logB g b sl lv :: diskO b s n wv d :: Es)) (ok : d.ok n) :
  Ret Try.prog 42 #[.pointer (some ⟨g, 0, none⟩)] w fun v w' => Tch w w' [] [] ∧ v = .int .i64 ((n / 2 * 64 : Nat) : Int) := by
 have hn := ok.le
 refine ret_of Try.call42 Try.func42 rfl Try.ntmps42 Try.results42 rfl ?_
 refine wc_seq ?_
 refine wc_region ?_
 refine wl_val (v_assign' (by conv => (lhs; whnf))) rfl ?_
 refine wl_nil ?_
 refine then_go ?_
 refine wc_seq ?_
 refine wc_region ?_
 refine wl_val (v_move' (by conv => (lhs; whnf))) rfl ?_
 refine wl_val (v_nil rfl) rfl ?_
 refine wl_val (v_fa TF.f70_0 rfl) rfl ?_
 refine wl_val (v_load rfl (st.reads (v := .pointer (some ⟨b, 0, none⟩)) 0 rfl TF.t23 rfl)) rfl ?_
 refine wl_call rfl (c_size (im_heapM _) (disk_at 1 st rfl ok)) rfl ?_
 rintro v7 w ⟨rfl, rfl⟩
 refine wl_val (v_to (v' := .int .i64 ((n / 2 : Nat) : Int)) (v_quo' rfl rfl (by omega) (by omega) rfl (by omega)) (by rw [Int.natCast_ediv]; rfl)) rfl ?_
 refine wl_val (v_mul' (c := ((n / 2 * 64 : Nat) : Int)) rfl rfl (by omega) (by omega) (by omega)) rfl ?_
 refine wl_val (v_assign' (by conv => (lhs; whnf))) rfl ?_
 refine wl_nil ?_
 refine then_go ?_
 refine wc_ret ?_
 exact ret1 rfl ⟨Tch.refl _ _, rfl⟩
theorem c_put {g b s n hf at' : Nat} {sl : LG} {lv wv bv : Value} {d : DS} {x : By} (st : St m0 m F w0 w (logB g b sl lv :: diskO b s n wv d :: Es)) (hr : Rdy n d 100000) (hx : SlM m bv 1 x.length (bs x)) (hx64 : x.length % 64 = 0) (hxl : x.length ≤ 1048576) (hhf : hf ≤ 1) (hat : at' ≤ 1048576) :
  Ret Try.prog 47 #[.pointer (some ⟨g, 0, none⟩), .int .i64 hf, .int .i64 at', bv] w fun v w' => ∃ wv', St m0 m F w0 w' (logB g b sl lv :: diskO b s n wv' (putD n d ((hf * (n / 2 * 64) + at') / 64) x).1 :: Es) ∧ v = .int .i64 (putD n d ((hf * (n / 2 * 64) + at') / 64) x).2 := by
 obtain ⟨ba, bc, rfl, hbc⟩ := hx.opn
 have hn := hr.ok.le
 have hhl : hf * (n / 2 * 64) ≤ n / 2 * 64 := by rcases Nat.le_one_iff_eq_zero_or_eq_one.1 hhf with h | h <;> rw [h] <;> omega
 obtain ⟨fst, hfst⟩ : ∃ fst, fst = (hf * (n / 2 * 64) + at') / 64 := ⟨_, rfl⟩
 rw [← hfst]
 have hcl := chunk_len (b := x)
 refine ret_of Try.call47 Try.func47 rfl Try.ntmps47 Try.results47 rfl ?_
 refine wc_seq ?_
 refine wc_region ?_
 refine wl_val (v_assign' (by conv => (lhs; whnf))) rfl ?_
 refine wl_nil ?_
 refine then_go ?_
 refine wc_seq ?_
 refine wc_region ?_
 refine wl_val (v_move' (by conv => (lhs; whnf))) rfl ?_
 refine wl_val (v_move' (by conv => (lhs; whnf))) rfl ?_
 refine wl_call rfl (c_lsize st hr.ok) rfl ?_
 rintro v15 w ⟨t15, rfl⟩
 have st := st.pure t15
 refine wl_val (v_mul' (c := ((hf * (n / 2 * 64) : Nat) : Int)) rfl rfl (Int.natCast_mul _ _).symm (by omega) (by omega)) rfl ?_
 refine wl_val (v_move' (by conv => (lhs; whnf))) rfl ?_
 refine wl_val (v_add' (c := ((hf * (n / 2 * 64) + at' : Nat) : Int)) rfl rfl (by omega) (by omega) (by omega)) rfl ?_
 refine wl_val (v_to (v' := .int .i64 (fst : Int)) (v_quo' rfl rfl (by omega) (by omega) rfl (by omega)) (by rw [hfst, Int.natCast_ediv]; rfl)) rfl ?_
 refine wl_val (v_assign' (by conv => (lhs; whnf))) rfl ?_
 refine wl_nil ?_
 refine then_go ?_
 refine wc_seq ?_
 refine wc_region ?_
 refine wl_val (v_move' (by conv => (lhs; whnf))) rfl ?_
 refine wl_val (v_nil rfl) rfl ?_
 refine wl_val (v_fa TF.f70_0 rfl) rfl ?_
 refine wl_val (v_load rfl (st.reads (v := .pointer (some ⟨b, 0, none⟩)) 0 rfl TF.t23 rfl)) rfl ?_
 refine wl_val (v_mkfunc rfl rfl) rfl ?_
 refine wl_val (v_assign' (by conv => (lhs; whnf))) rfl ?_
 refine wl_nil ?_
 refine then_go ?_
 refine wc_seq ?_
 refine wc_seq ?_
 refine wc_region ?_
 refine wl_val (v_assign' (by conv => (lhs; whnf))) rfl ?_
 refine wl_nil ?_
 refine then_go ?_
 refine wc_block ?_
 refine wc_loop (S := Nat) (fun q r w' => ∃ (j : Nat) (wv : Value) (dj : DS), q + j = (chunk x).length ∧ r 0 = .pointer (some ⟨g, 0, none⟩) ∧ r 3 = .slice ba x.length bc ∧ r 9 = .int .i64 fst ∧ r 10 = .func (.func 63) #[.pointer (some ⟨b, 0, none⟩)] #[] ∧ r 11 = .int .i64 ((64 * j : Nat) : Int) ∧ putD n d fst x = writesD n dj (fst + j) ((chunk x).drop j) ∧ Rdy n dj (100000 + j) ∧ St m0 m F w0 w' (logB g b sl lv :: diskO b s n wv dj :: Es)) id (chunk x).length ⟨0, wv, d, by omega, rfl, rfl, rfl, rfl, rfl, rfl, hr, st⟩ ?_
 clear st
 rintro q r w2 ⟨j, wv, dj, hqj, g0, g3, g9, g10, g11, hput, hr, st⟩
 refine wc_o 0 g0 (wc_o 3 g3 (wc_o 9 g9 (wc_o 10 g10 (wc_o 11 g11 ?_))))
 refine wc_seq ?_
 refine wc_seq ?_
 refine wc_region ?_
 refine wl_val (v_move' (by conv => (lhs; whnf))) rfl ?_
 refine wl_val (v_move' (by conv => (lhs; whnf))) rfl ?_
 refine wl_val (v_len_s Try.underlying30 rfl) rfl ?_
 refine wl_val (v_lss rfl rfl) rfl ?_
 refine wl_nil ?_
 refine then_go ?_
 refine wc_if rfl (fun h28 => ?_) (fun h28 => ?_)
 ·refine wc_skip ?_
  refine then_go ?_
  refine wc_seq ?_
  refine wc_block ?_
  refine wc_seq ?_
  have hj : j < (chunk x).length := by omega
  have hjx := hx.partB (64 * j) (64 * j + 64) (by omega) (by omega)
  have hce : (x.drop (64 * j)).take (64 * j + 64 - 64 * j) = (chunk x)[j] := by rw [chunk_at hj]; congr 1; omega
  rw [hce] at hjx
  have hc64 := chunk_64 _ (List.getElem_mem hj)
  rw [List.drop_eq_getElem_cons hj, writesD] at hput
  have hwr : Rdy n (writeD dj n ((fst + j : Nat) : Int) (chunk x)[j]).1 (100000 + (j + 1)) := ⟨ok_write hr.ok, fz_write hr.fz, Nat.le_trans wt_write (by have := hr.few; omega)⟩
  refine wc_region ?_
  refine wl_val (v_move' (by conv => (lhs; whnf))) rfl ?_
  refine wl_val (v_move' (by conv => (lhs; whnf))) rfl ?_
  refine wl_val (v_move' (by conv => (lhs; whnf))) rfl ?_
  refine wl_val (v_to (v' := .int .i64 (j : Int)) (v_quo' rfl rfl (by omega) (by omega) rfl (by omega)) (by congr 1; omega)) rfl ?_
  refine wl_val (v_add' (c := ((fst + j : Nat) : Int)) rfl rfl (by omega) (by omega) (by omega)) rfl ?_
  refine wl_val (v_move' (by conv => (lhs; whnf))) rfl ?_
  refine wl_val (v_move' (by conv => (lhs; whnf))) rfl ?_
  refine wl_val (v_move' (by conv => (lhs; whnf))) rfl ?_
  refine wl_val (v_add' (c := ((64 * j + 64 : Nat) : Int)) rfl rfl (by omega) (by omega) (by omega)) rfl ?_
  refine wl_val (v_sls (64 * j) (64 * j + 64) Try.underlying30 TF.t5 rfl ⟨_, _, rfl, rfl⟩ ⟨_, _, rfl, rfl⟩ (by omega) (by omega)) rfl ?_
  refine wl_callv rfl rfl (disk_callI 1 st rfl (c_write ((fst + j : Nat) : Int) st.im (st.at (i := 1) rfl) (st.none (i := 1) rfl) hr.ok hr.fz (by have := hr.few; omega) hjx)) rfl ?_
  rintro v41 w ⟨wv2, d2, st, rfl, rfl⟩
  refine wl_val (v_assign' (by conv => (lhs; whnf))) rfl ?_
  refine wl_nil ?_
  refine then_go ?_
  refine wc_seq ?_
  refine wc_region ?_
  refine wl_val (v_move' (by conv => (lhs; whnf))) rfl ?_
  refine wl_val (v_neq rfl rfl) rfl ?_
  refine wl_nil ?_
  refine then_go ?_
  refine wc_cond rfl (fun h43 => ?_) (fun h43 => ?_)
  ·refine wc_seq ?_
   refine wc_region ?_
   refine wl_val (v_move' (by conv => (lhs; whnf))) rfl ?_
   refine wl_val (v_assign' (by conv => (lhs; whnf))) rfl ?_
   refine wl_nil ?_
   refine then_go ?_
   refine wc_ret (block_ret (then_ret (then_ret (block_ret (then_ret ?_)))))
   have hz : (writeD dj n ((fst + j : Nat) : Int) (chunk x)[j]).2 ≠ 0 := of_decide_eq_true h43
   rw [if_pos hz] at hput
   exact ret1 rfl ⟨wv2, by rw [hput]; exact st, by rw [hput]; rfl⟩
  ·refine wc_skip ?_
   refine block_go (then_go ?_)
   refine wc_region ?_
   refine wl_val (v_move' (by conv => (lhs; whnf))) rfl ?_
   refine wl_val (v_add' (c := ((64 * (j + 1) : Nat) : Int)) rfl rfl (by omega) (by omega) (by omega)) rfl ?_
   refine wl_val (v_assign' (by conv => (lhs; whnf))) rfl ?_
   refine wl_nil ?_
   refine then_go ?_
   have hz : ¬ (writeD dj n ((fst + j : Nat) : Int) (chunk x)[j]).2 ≠ 0 := of_decide_eq_false h43
   rw [if_neg hz] at hput
   exact ⟨q - 1, by simp; omega, j + 1, wv2, _, by omega, rfl, rfl, rfl, rfl, rfl, hput, hwr, st⟩
 ·refine wc_exit (then_exit (then_exit (block_hit ?_)))
  refine then_go ?_
  refine wc_seq ?_
  refine wc_region ?_
  refine wl_val (v_move' (by conv => (lhs; whnf))) rfl ?_
  refine wl_val (v_nil rfl) rfl ?_
  refine wl_val (v_fa TF.f70_0 rfl) rfl ?_
  refine wl_val (v_load rfl (st.reads (v := .pointer (some ⟨b, 0, none⟩)) 0 rfl TF.t23 rfl)) rfl ?_
  have hjc : (chunk x).length ≤ j := by omega
  rw [List.drop_eq_nil_of_le hjc, writesD] at hput
  refine wl_call rfl (disk_callI 1 st rfl (c_sync st.im (st.at (i := 1) rfl) (st.none (i := 1) rfl) hr.ok hr.fz (by have := hr.few; omega))) rfl ?_
  rintro v49 w ⟨wv3, d3, st, rfl, rfl⟩
  refine wl_val (v_assign' (by conv => (lhs; whnf))) rfl ?_
  refine wl_nil ?_
  refine then_go ?_
  refine wc_ret ?_
  exact ret1 rfl ⟨wv3, by rw [hput]; exact st, by rw [hput]; rfl⟩
end
end Go.Proofs.Ytnaoafogdplnaaa

namespace Go.Proofs.Ytnaoafogdplnaaa
open Go Go.RowKit K SH DK JR
theorem JR.Rdy.mono {n k k' : Nat} {d : DS} (h : Rdy n d k) (hk : k ≤ k') : Rdy n d k' := ⟨h.ok, h.fz, Nat.le_trans h.few hk⟩
theorem rdy_done {n : Nat} {d : DS} {i k : Nat} {b : By} (h : Rdy n d k) (h0 : (putD n d i b).2 = 0) : Rdy n (putD n d i b).1 0 := by
 have := rdy_put (i := i) (b := b) h
 exact ⟨this.1.ok, this.1.fz, by rw [this.2 h0]; exact Nat.le_refl _⟩
theorem fst0 {hf n : Nat} (h : hf ≤ 1) : (hf * (n / 2 * 64) + 0) / 64 = hf * (n / 2) := by rcases Nat.le_one_iff_eq_zero_or_eq_one.1 h with h | h <;> rw [h] <;> omega
theorem fst1 {hf n : Nat} (h : hf ≤ 1) : (hf * (n / 2 * 64) + 64) / 64 = hf * (n / 2) + 1 := by rcases Nat.le_one_iff_eq_zero_or_eq_one.1 h with h | h <;> rw [h] <;> omega
theorem madeZ (n : Nat) : madeCells (Value.int .u8 0).cells (n * 1) = (bs (List.replicate n 0)).toArray := by
 rw [show (Value.int .u8 0).cells = Array.replicate (0 + 1) (Value.int .u8 0) from rfl, madeCells_rep, Nat.mul_one]
 simp [bs, u8]
section
variable {m0 m : Mem} {F : List Nat} {w0 w : World} {Es : List Ent}
theorem c_bcloneR {v : Value} {l : By} (st : St m0 m F w0 w Es) (hv : SlM m v 1 l.length (bs l)) (hL : l.length ≤ 1099511627776) :
  Ret Try.prog 40 #[v] w fun v' w' => St m0 m F w0 w' (byE v' l :: Es) := by
 obtain ⟨_, a, cap, rfl, _⟩ := id hv
 refine ret_of Try.call40 Try.func40 rfl Try.ntmps40 Try.results40 rfl ?_
 refine wc_seq ?_
 refine wc_region ?_
 refine wl_val (v_assign' (by conv => (lhs; whnf))) rfl ?_
 refine wl_nil ?_
 refine then_go ?_
 refine wc_seq ?_
 refine wc_seq ?_
 refine wc_region ?_
 refine wl_val (v_move' (by conv => (lhs; whnf))) rfl ?_
 refine wl_val (v_eq_nilS Try.underlying30 rfl rfl) rfl ?_
 refine wl_nil ?_
 refine then_go ?_
 refine wc_cond rfl (fun h4 => ?_) (fun h4 => ?_)
 ·refine wc_seq ?_
  refine wc_region ?_
  refine wl_val (v_assign' (by conv => (lhs; whnf))) rfl ?_
  refine wl_nil ?_
  refine then_go ?_
  refine wc_ret (then_ret ?_)
  have hL0 : l = [] := by
   obtain ⟨_, a', c', he, hk, hn, _⟩ := hv
   cases he
   have := hn (by simpa using h4)
   exact List.eq_nil_of_length_eq_zero (by omega)
  subst hL0
  exact ret1 rfl (nilRow st 5 1)
 ·refine wc_skip ?_
  refine then_go ?_
  refine wc_seq ?_
  refine wc_region ?_
  refine wl_buildSlice0 (size := 1) Try.underlying30 TF.t5 st rfl ?_
  intro v5 w st
  have st : St m0 m F w0 w (byE v5 [] :: Es) := st
  refine wl_val (v_move' (by conv => (lhs; whnf))) rfl ?_
  refine wl_appB (l2 := l) st Try.underlying30 Try.underlying30 (.inr ⟨_, rfl⟩) TF.t5 TF.z5 rfl rfl (hv.src st.im (one_bs _)) (by simp; omega) (by simp; omega) rfl ?_
  intro v7 w st hv7
  refine wl_val (v_assign' (by conv => (lhs; whnf))) rfl ?_
  refine wl_nil ?_
  refine then_go ?_
  refine wc_ret ?_
  exact ret1 rfl st
theorem c_bcloneA {v : Value} {l : By} (him : Im m w) (hv : SlM m v 1 l.length (bs l)) (hL : l.length ≤ 1099511627776) :
  Ret Try.prog 40 #[v] w fun v' w' => Out m w w' fun m' => SlM m' v' 1 l.length (bs l) ∧ Apart m m' v' l := by
 refine (c_bcloneR (St.start him) hv hL).mono fun v' w' st => ?_
 obtain ⟨m1, hg1, hm1, st1⟩ := st.freezeR (i := 0) rfl (by simp)
 have hown := st.own (byE v' l) (by simp)
 have hs := row_SlM (m := fun k => if m k = none then m1 k else none) (st.at (i := 0) rfl) (fun k o hk ho => by
  have h1 := (hown k (by rw [← Option.mem_toList] at *; simp [rowE, ← hk])).1
  simp [h1, hm1 k o hk ho])
 exact st1.out ⟨row_SlM (m := m1) (st.at (i := 0) rfl) hm1, _, fun k o hk => by
  by_cases h : m k = none
  ·simp [h] at hk; exact ⟨hk, h⟩
  ·simp [h] at hk, hs⟩
theorem c_jall {gen : UInt64} {nv : Value} {N : List (By × Value)} (st : St m0 m F w0 w Es) (hN : PcsM m nv N) (hNl : ∀ x ∈ N, x.1.length ≤ 1048576) (hNn : N.length ≤ 1048576) :
  Ret Try.prog 61 #[u64 gen, nv] w fun v w' => St m0 m F w0 w' (byE v (allB gen 0 (N.map (·.1))) :: Es) := by
 obtain ⟨na, nc, hlv⟩ : ∃ a c, nv = .slice a N.length c := by obtain ⟨⟨_, a, c, h, _⟩, _⟩ := hN; exact ⟨a, c, h⟩
 subst hlv
 refine ret_of Try.call61 Try.func61 rfl Try.ntmps61 Try.results61 rfl ?_
 refine wc_seq ?_
 refine wc_region ?_
 refine wl_val (v_assign' (by conv => (lhs; whnf))) rfl ?_
 refine wl_nil ?_
 refine then_go ?_
 refine wc_seq ?_
 refine wc_region ?_
 refine wl_val (v_assign' (by conv => (lhs; whnf))) rfl ?_
 refine wl_nil ?_
 refine then_go ?_
 refine wc_seq ?_
 refine wc_seq ?_
 refine wc_region ?_
 refine wl_val (v_move' (by conv => (lhs; whnf))) rfl ?_
 refine wl_val (v_len_s Try.underlying29 rfl) rfl ?_
 refine wl_val (v_move' (by conv => (lhs; whnf))) rfl ?_
 refine wl_nil ?_
 refine then_go ?_
 refine wc_block ?_
 have st := nilRow st 5 1
 have st : St m0 m F w0 w (byE (.slice none 0 0) [] :: Es) := st
 refine wc_loop (S := Nat) (fun q r w' => ∃ (i : Nat) (v : Value), q + i = N.length ∧ r 0 = u64 gen ∧ r 5 = v ∧ r 8 = .slice na N.length nc ∧ r 9 = .int .i64 N.length ∧ r 10 = .int .i64 i ∧ St m0 m F w0 w' (byE v (allB gen 0 ((N.take i).map (·.1))) :: Es)) id N.length ⟨0, _, by omega, rfl, rfl, rfl, rfl, rfl, st⟩ ?_
 clear st
 rintro q r w2 ⟨i, v, hqi, g0, g5, g8, g9, g10, st⟩
 refine wc_o 0 g0 (wc_o 5 g5 (wc_o 8 g8 (wc_o 9 g9 (wc_o 10 g10 ?_))))
 refine wc_seq ?_
 refine wc_region ?_
 refine wl_val (v_lss rfl rfl) rfl ?_
 refine wl_nil ?_
 refine then_go ?_
 refine wc_seq ?_
 refine wc_if rfl (fun h11 => ?_) (fun h11 => ?_)
 ·refine wc_skip ?_
  refine then_go ?_
  refine wc_seq ?_
  refine wc_block ?_
  refine wc_seq ?_
  have hi : i < N.length := by omega
  obtain ⟨nb, no, _, hnv, hsk, hrk⟩ := hN.elem hi
  cases hnv
  have hxl := hNl _ (List.getElem_mem hi)
  have hsz : sizeL ((N.take i).map (·.1)) ≤ 1048576 * 1048700 := by
   have key : ∀ M : List (By × Value), (∀ x ∈ M, x.1.length ≤ 1048576) → sizeL (M.map (·.1)) ≤ M.length * 1048700 := by
    intro M
    induction M with
    | nil => intro _; exact Nat.zero_le _
    | cons y M ih =>
     intro h
     have h1 := h y List.mem_cons_self
     have h2 := ih fun z hz => h z (List.mem_cons_of_mem _ hz)
     rw [List.map_cons, sizeL_cons, List.length_cons]
     unfold recL
     omega
   refine Nat.le_trans (key _ fun x hx => hNl x (List.mem_of_mem_take hx)) (Nat.mul_le_mul_right _ (by rw [List.length_take]; omega))
  refine wc_region ?_
  refine wl_val (v_move' (by conv => (lhs; whnf))) rfl ?_
  refine wl_val (v_ias i Try.underlying29 TF.t30 rfl rfl (by first | rfl | omega) (by first | omega | (dsimp only at *; omega))) rfl ?_
  refine wl_val (v_load rfl (hrk st.im)) rfl ?_
  refine wl_val (v_assign' (by conv => (lhs; whnf))) rfl ?_
  refine wl_val (v_assign' (by conv => (lhs; whnf))) rfl ?_
  refine wl_nil ?_
  refine then_go ?_
  refine wc_region ?_
  refine wl_val (v_move' (by conv => (lhs; whnf))) rfl ?_
  refine wl_val (v_move' (by conv => (lhs; whnf))) rfl ?_
  refine wl_val (v_move' (by conv => (lhs; whnf))) rfl ?_
  refine wl_val (v_convi_64 Try.underlying3 Try.underlying42 rfl) rfl ?_
  refine wl_val (v_move' (by conv => (lhs; whnf))) rfl ?_
  refine wl_call rfl (c_jrecord (s := UInt64.ofNat i) st hsk (by omega)) rfl ?_
  intro v20 w st
  refine wl_appBi (l2 := recB gen (UInt64.ofNat i) N[i].1) 1 st rfl Try.underlying30 Try.underlying30 (.inr ⟨_, rfl⟩) TF.t5 TF.z5 rfl rfl ((byE_SlM st 0 rfl).src (im_heapM _) (one_bs _)) (by rw [length_allB, length_recB]; unfold recL; omega) (by rw [length_allB, length_recB]; unfold recL; omega) rfl ?_
  intro v21 w st hv21
  have st : St m0 m F w0 w (byE v21 (allB gen 0 ((N.take (i + 1)).map (·.1))) :: Es) := by
   have e : allB gen 0 ((N.take (i + 1)).map (·.1)) = allB gen 0 ((N.take i).map (·.1)) ++ recB gen (UInt64.ofNat i) N[i].1 := by
    rw [List.take_succ_eq_append_getElem hi, List.map_append, List.map_singleton, allB_snoc, Nat.zero_add, List.length_map, List.length_take, Nat.min_eq_left (by omega)]
   rw [e]
   exact st.drop 0
  refine wl_val (v_assign' (by conv => (lhs; whnf))) rfl ?_
  refine wl_nil ?_
  refine block_go (then_go ?_)
  refine wc_region ?_
  refine wl_val (v_add' (c := ((i + 1 : Nat) : Int)) rfl rfl (by omega) (by omega) (by omega)) rfl ?_
  refine wl_val (v_move' (by conv => (lhs; whnf))) rfl ?_
  refine wl_nil ?_
  refine then_go ?_
  exact ⟨q - 1, by simp; omega, i + 1, v21, by omega, rfl, rfl, rfl, rfl, rfl, st⟩
 ·refine wc_exit (then_exit (then_exit (block_hit ?_)))
  refine then_go ?_
  refine wc_seq ?_
  refine wc_region ?_
  refine wl_val (v_move' (by conv => (lhs; whnf))) rfl ?_
  refine wl_val (v_assign' (by conv => (lhs; whnf))) rfl ?_
  refine wl_nil ?_
  refine then_go ?_
  refine wc_ret ?_
  have hiN : i = N.length := by omega
  subst hiN
  rw [List.take_length] at st
  exact ret1 rfl st
def OverOut (m0 m : Mem) (w0 w' : World) (Es : List Ent) (g b s n : Nat) (sl : LG) (lv : Value) (d : DS) (L : List By) (v : Value) : Prop :=
 ∃ m' wv', (∀ k o, m k = some o → m' k = some o) ∧ v = .int .i64 (overD n d sl L).2.2 ∧
  ((overD n d sl L).2.2 ≠ 0 → (overD n d sl L).2.1 = sl ∧ St m0 m' [] w0 w' (logB g b sl lv :: diskO b s n wv' (overD n d sl L).1 :: Es)) ∧
  ((overD n d sl L).2.2 = 0 → ∃ lv' N', Pcs m' N' ∧ (∀ y ∈ N', Apart m m' y.2 y.1) ∧ N'.map (·.1) = L ∧ St m0 m' [] w0 w' (logB g b (overD n d sl L).2.1 lv' :: lrE lv' N' :: diskO b s n wv' (overD n d sl L).1 :: Es))
theorem OverOut.bad {m0 m m' : Mem} {w0 w' : World} {Es : List Ent} {g b s n : Nat} {sl : LG} {lv wv' : Value} {d d' : DS} {e : Int} {L : List By} (ho : overD n d sl L = (d', sl, e)) (he : e ≠ 0) (hm : ∀ k o, m k = some o → m' k = some o) (st : St m0 m' [] w0 w' (logB g b sl lv :: diskO b s n wv' d' :: Es)) : OverOut m0 m w0 w' Es g b s n sl lv d L (.int .i64 e) := by
 unfold OverOut
 rw [ho]
 exact ⟨m', wv', hm, rfl, fun _ => ⟨rfl, st⟩, fun h => (he h).elim⟩
theorem c_over {g b s n : Nat} {sl : LG} {lv wv nv : Value} {d : DS} {N : List (By × Value)} (st : St m0 m [] w0 w (logB g b sl lv :: diskO b s n wv d :: Es)) (hr : Rdy n d 100000) (hn8 : 8 ≤ n) (hsl : sl.half ≤ 1) (hN : PcsM m nv N) (hNl : ∀ x ∈ N, x.1.length ≤ 1048576) (hNn : N.length ≤ 1048576) :
  Ret Try.prog 44 #[.pointer (some ⟨g, 0, none⟩), nv] w fun v w' => OverOut m0 m w0 w' Es g b s n sl lv d (N.map (·.1)) v := by
 obtain ⟨na, nc, hlv⟩ : ∃ a c, nv = .slice a N.length c := by obtain ⟨⟨_, a, c, h, _⟩, _⟩ := hN; exact ⟨a, c, h⟩
 subst hlv
 have hn := hr.ok.le
 obtain ⟨hf, hhf⟩ : ∃ hf, hf = 1 - sl.half := ⟨_, rfl⟩
 have hf1 : hf ≤ 1 := by omega
 have hfz : (1 : Int) - (sl.half : Int) = (hf : Int) := by omega
 obtain ⟨L, hL⟩ : ∃ L, L = N.map (·.1) := ⟨_, rfl⟩
 rw [← hL]
 have hmm0 : ∀ k o, m k = some o → m k = some o := fun _ _ h => h
 refine ret_of Try.call44 Try.func44 rfl Try.ntmps44 Try.results44 rfl ?_
 refine wc_seq ?_
 refine wc_region ?_
 refine wl_val (v_assign' (by conv => (lhs; whnf))) rfl ?_
 refine wl_nil ?_
 refine then_go ?_
 refine wc_seq ?_
 refine wc_draw TF.mixed ?_
 have st := st.pure (touch_drew _)
 refine fl_val 0 rfl (fun _ => (v_move' (by conv => (lhs; whnf)))) rfl (by kernel_rfl) ?_
 refine fl_val 1 rfl (fun _ => (v_nil rfl)) rfl (by kernel_rfl) ?_
 refine fl_val 2 rfl (fun _ => (v_fa TF.f70_1 rfl)) rfl (by kernel_rfl) ?_
 refine fl_ld 3 rfl (v_load rfl (st.reads (v := .int .i64 sl.half) 0 rfl TF.t3 rfl)) (by kernel_rfl) ?_
 refine fl_val 4 rfl (fun _ => (v_sub' (c := (hf : Int)) rfl rfl hfz (by omega) (by omega))) rfl (by kernel_rfl) ?_
 refine fl_val 5 rfl (fun _ => (v_move' (by conv => (lhs; whnf)))) rfl (by kernel_rfl) ?_
 refine fl_val 6 rfl (fun _ => (v_nil rfl)) rfl (by kernel_rfl) ?_
 refine fl_val 7 rfl (fun _ => (v_fa TF.f70_2 rfl)) rfl (by kernel_rfl) ?_
 refine fl_ld 8 rfl (v_load rfl (st.reads (v := u64 sl.gen) 0 rfl TF.t42 rfl)) (by kernel_rfl) ?_
 refine fl_val 9 rfl (fun _ => (v_add64 (q := 1) rfl rfl)) rfl (by kernel_rfl) ?_
 refine fl_val 10 rfl (fun _ => (v_move' (by conv => (lhs; whnf)))) rfl (by kernel_rfl) ?_
 refine fl_eff1 11 [7, 6, 5, 4, 2, 1, 0] [8, 3] (by kernel_rfl) ⟨obl_ld rfl rfl rfl (v_load rfl (st.reads (v := u64 sl.gen) 0 rfl TF.t42 rfl)), obl_ld rfl rfl rfl (v_load rfl (st.reads (v := .int .i64 sl.half) 0 rfl TF.t3 rfl)), trivial⟩ rfl ?_
 refine wl_call rfl (c_jall (gen := sl.gen + 1) st hN hNl hNn) rfl ?_
 intro v23 w st
 obtain ⟨B, hB⟩ : ∃ B, B = allB (sl.gen + 1) 0 L := ⟨_, rfl⟩
 have hBl : B.length = sizeL L := by rw [hB, length_allB]
 have st : St m0 m [] w0 w (byE v23 B :: logB g b sl lv :: diskO b s n wv d :: Es) := by rw [hB, hL]; exact st
 have st1 := st
 obtain ⟨m1, hg1, hm1, st⟩ := st.freezeR (i := 0) rfl (by simp)
 have hBm : SlM m1 v23 1 B.length (bs B) := row_SlM (m := m1) (st1.at (i := 0) rfl) hm1
 have st : St m0 m1 [] w0 w (logB g b sl lv :: diskO b s n wv d :: Es) := st
 have hmm1 := hg1.le
 have hN := hN.mono hmm1
 obtain ⟨Ba, Bc, hBv, _⟩ := hBm.opn
 subst hBv
 refine wl_nil ⟨rfl, ?_⟩
 refine fl_eff1 12 [7, 6, 5] [8] (by kernel_rfl) ⟨obl_ld rfl rfl rfl (v_load rfl (st.reads (v := u64 sl.gen) 0 rfl TF.t42 rfl)), obl_ld rfl rfl rfl (v_load rfl (st.reads (v := .int .i64 sl.half) 0 rfl TF.t3 rfl)), trivial⟩ rfl ?_
 refine wl_val (v_assign' (by conv => (lhs; whnf))) rfl ?_
 refine wl_nil ⟨rfl, ?_⟩
 refine fl_eff1 13 [] [] (by kernel_rfl) ⟨obl_ld rfl rfl rfl (v_load rfl (st.reads (v := u64 sl.gen) 0 rfl TF.t42 rfl)), trivial⟩ rfl ?_
 refine wl_val (v_assign' (by conv => (lhs; whnf))) rfl ?_
 refine wl_nil ⟨rfl, ?_⟩
 refine fl_nil (by kernel_rfl) trivial ?_
 refine then_go ?_
 refine wc_seq ?_
 refine wc_seq ?_
 refine wc_region ?_
 refine wl_val (v_move' (by conv => (lhs; whnf))) rfl ?_
 refine wl_val (v_len_s Try.underlying30 rfl) rfl ?_
 refine wl_val (v_move' (by conv => (lhs; whnf))) rfl ?_
 refine wl_call rfl (c_lsize st hr.ok) rfl ?_
 rintro v27 w ⟨t27, rfl⟩
 have st := st.pure t27
 refine wl_val (v_sub' (c := ((n / 2 * 64 - 64 : Nat) : Int)) rfl rfl (by omega) (by omega) (by omega)) rfl ?_
 refine wl_val (v_gtr rfl rfl) rfl ?_
 refine wl_nil ?_
 refine then_go ?_
 refine wc_if rfl (fun h29 => ?_) (fun h29 => ?_)
 ·refine wc_seq ?_
  refine wc_region ?_
  refine wl_val (v_assign' (by conv => (lhs; whnf))) rfl ?_
  refine wl_nil ?_
  refine then_go ?_
  refine wc_ret (then_ret ?_)
  exact ret1 rfl (OverOut.bad (e := 13) (by unfold overD; rw [if_pos (by omega)]) (by decide) hmm1 st)
 ·refine wc_skip ?_
  refine then_go ?_
  refine wc_seq ?_
  refine wc_seq ?_
  refine wc_region ?_
  refine wl_val (v_move' (by conv => (lhs; whnf))) rfl ?_
  refine wl_val (v_move' (by conv => (lhs; whnf))) rfl ?_
  refine wl_val (v_move' (by conv => (lhs; whnf))) rfl ?_
  have hfit : ¬ n / 2 * 64 - 64 < sizeL L := by omega
  refine wl_call rfl (c_lsize st hr.ok) rfl ?_
  rintro v33 w ⟨t33, rfl⟩
  have st := st.pure t33
  refine wl_make (l := n / 2 * 64) (c := n / 2 * 64) Try.underlying30 TF.t5 TF.z5 rfl rfl rfl rfl (by omega) (by omega) (by omega) (by omega) st rfl ?_
  intro b34 w st
  rw [madeZ] at st
  obtain ⟨m2, hg2, hm2, st⟩ := st.freeze (i := 0) rfl (by simp)
  have st : St m0 m2 [] w0 w (logB g b sl lv :: diskO b s n wv d :: Es) := st
  obtain ⟨Z, hZ⟩ : ∃ Z : By, Z = List.replicate (n / 2 * 64) 0 := ⟨_, rfl⟩
  have hZl : Z.length = n / 2 * 64 := by rw [hZ, List.length_replicate]
  rw [← hZ] at hm2
  have hZm : SlM m2 (.slice (some ⟨b34, 0, none⟩) (n / 2 * 64) (n / 2 * 64)) 1 Z.length (bs Z) := by
   have := SlM.ofBlock (o := 0) (cap := Z.length) (l := Z) (pre := []) (post := []) hm2 (by simp) rfl (Nat.le_refl _)
   rw [hZl] at this ⊢
   exact this
  have hBm := hBm.mono hg2.le
  have hN := hN.mono hg2.le
  have hmm2 : ∀ k o, m k = some o → m2 k = some o := fun k o h => hg2.le k o (hmm1 k o h)
  refine wl_call rfl (c_put (hf := hf) (at' := 0) st hr hZm (by omega) (by omega) hf1 (by omega)) rfl ?_
  rintro v35 w ⟨wv1, st, rfl⟩
  rw [fst0 hf1] at st ⊢
  have hr1 := rdy_done (i := hf * (n / 2)) (b := Z) hr
  have hd1 : (putD n d ((1 - sl.half) * (n / 2)) (List.replicate (n / 2 * 64) 0)) = putD n d (hf * (n / 2)) Z := by rw [hhf, hZ]
  obtain ⟨P1, hP1⟩ : ∃ P1, P1 = putD n d (hf * (n / 2)) Z := ⟨_, rfl⟩
  rw [← hP1] at st hr1 hd1 ⊢
  refine wl_val (v_assign' (by conv => (lhs; whnf))) rfl ?_
  refine wl_nil ?_
  refine then_go ?_
  refine wc_seq ?_
  refine wc_region ?_
  refine wl_val (v_move' (by conv => (lhs; whnf))) rfl ?_
  refine wl_val (v_neq rfl rfl) rfl ?_
  refine wl_nil ?_
  refine then_go ?_
  refine wc_cond rfl (fun h37 => ?_) (fun h37 => ?_)
  ·refine wc_seq ?_
   refine wc_region ?_
   refine wl_val (v_move' (by conv => (lhs; whnf))) rfl ?_
   refine wl_val (v_assign' (by conv => (lhs; whnf))) rfl ?_
   refine wl_nil ?_
   refine then_go ?_
   refine wc_ret (then_ret ?_)
   have hz := of_decide_eq_true h37
   exact ret1 rfl (OverOut.bad (by unfold overD; rw [if_neg hfit, hd1, if_pos hz]) hz hmm2 st)
  ·refine wc_skip ?_
   refine then_go ?_
   refine wc_seq ?_
   refine wc_seq ?_
   refine wc_region ?_
   refine wl_val (v_move' (by conv => (lhs; whnf))) rfl ?_
   refine wl_val (v_move' (by conv => (lhs; whnf))) rfl ?_
   refine wl_val (v_move' (by conv => (lhs; whnf))) rfl ?_
   have hz1 := of_decide_eq_false h37
   have hr1 := (hr1 (Decidable.not_not.1 hz1)).mono (k' := 100000) (by omega)
   refine wl_call rfl (c_put (hf := hf) (at' := 64) st hr1 hBm (by rw [hBl]; exact sizeL_mod) (by omega) hf1 (by omega)) rfl ?_
   rintro v42 w ⟨wv2, st, rfl⟩
   rw [fst1 hf1] at st ⊢
   have hr2 := rdy_done (i := hf * (n / 2) + 1) (b := B) hr1
   have hd2 : (putD n P1.1 ((1 - sl.half) * (n / 2) + 1) (allB (sl.gen + 1) 0 L)) = putD n P1.1 (hf * (n / 2) + 1) B := by rw [hhf, hB]
   obtain ⟨P2, hP2⟩ : ∃ P2, P2 = putD n P1.1 (hf * (n / 2) + 1) B := ⟨_, rfl⟩
   rw [← hP2] at st hr2 hd2 ⊢
   refine wl_val (v_assign' (by conv => (lhs; whnf))) rfl ?_
   refine wl_nil ?_
   refine then_go ?_
   refine wc_seq ?_
   refine wc_region ?_
   refine wl_val (v_move' (by conv => (lhs; whnf))) rfl ?_
   refine wl_val (v_neq rfl rfl) rfl ?_
   refine wl_nil ?_
   refine then_go ?_
   refine wc_cond rfl (fun h44 => ?_) (fun h44 => ?_)
   ·refine wc_seq ?_
    refine wc_region ?_
    refine wl_val (v_move' (by conv => (lhs; whnf))) rfl ?_
    refine wl_val (v_assign' (by conv => (lhs; whnf))) rfl ?_
    refine wl_nil ?_
    refine then_go ?_
    refine wc_ret (then_ret ?_)
    have hz := of_decide_eq_true h44
    exact ret1 rfl (OverOut.bad (by unfold overD; rw [if_neg hfit, hd1, if_neg hz1, hd2, if_pos hz]) hz hmm2 st)
   ·refine wc_skip ?_
    refine then_go ?_
    refine wc_seq ?_
    refine wc_seq ?_
    refine wc_region ?_
    refine wl_val (v_move' (by conv => (lhs; whnf))) rfl ?_
    refine wl_val (v_move' (by conv => (lhs; whnf))) rfl ?_
    refine wl_val (v_move' (by conv => (lhs; whnf))) rfl ?_
    refine wl_val (v_nil rfl) rfl ?_
    refine wl_val (v_fa TF.f70_2 rfl) rfl ?_
    refine wl_val (v_load rfl (st.reads (v := u64 sl.gen) 0 rfl TF.t42 rfl)) rfl ?_
    refine wl_val (v_add64 (q := 1) rfl rfl) rfl ?_
    have hz2 := of_decide_eq_false h44
    have hr2 := (hr2 (Decidable.not_not.1 hz2)).mono (k' := 100000) (by omega)
    refine wl_call rfl (c_jhead (g := sl.gen + 1) st) rfl ?_
    intro v53 w st
    have st3 := st
    obtain ⟨m3, hg3, hm3, st⟩ := st.freezeR (i := 0) rfl (by simp)
    have hHm : SlM m3 v53 1 (headB (sl.gen + 1)).length (bs (headB (sl.gen + 1))) := row_SlM (m := m3) (st3.at (i := 0) rfl) hm3
    have st : St m0 m3 [] w0 w (logB g b sl lv :: diskO b s n wv2 P2.1 :: Es) := st
    have hN := hN.mono hg3.le
    have hmm3 : ∀ k o, m k = some o → m3 k = some o := fun k o h => hg3.le k o (hmm2 k o h)
    have hHl := length_headB (sl.gen + 1)
    refine wl_call rfl (c_put (hf := hf) (at' := 0) st hr2 hHm (by omega) (by omega) hf1 (by omega)) rfl ?_
    rintro v54 w ⟨wv3, st, rfl⟩
    rw [fst0 hf1] at st ⊢
    have hd3 : (putD n P2.1 ((1 - sl.half) * (n / 2)) (headB (sl.gen + 1))) = putD n P2.1 (hf * (n / 2)) (headB (sl.gen + 1)) := by rw [hhf]
    obtain ⟨P3, hP3⟩ : ∃ P3, P3 = putD n P2.1 (hf * (n / 2)) (headB (sl.gen + 1)) := ⟨_, rfl⟩
    rw [← hP3] at st hd3 ⊢
    refine wl_val (v_assign' (by conv => (lhs; whnf))) rfl ?_
    refine wl_nil ?_
    refine then_go ?_
    refine wc_seq ?_
    refine wc_region ?_
    refine wl_val (v_move' (by conv => (lhs; whnf))) rfl ?_
    refine wl_val (v_neq rfl rfl) rfl ?_
    refine wl_nil ?_
    refine then_go ?_
    refine wc_cond rfl (fun h56 => ?_) (fun h56 => ?_)
    ·refine wc_seq ?_
     refine wc_region ?_
     refine wl_val (v_move' (by conv => (lhs; whnf))) rfl ?_
     refine wl_val (v_assign' (by conv => (lhs; whnf))) rfl ?_
     refine wl_nil ?_
     refine then_go ?_
     refine wc_ret (then_ret ?_)
     have hz := of_decide_eq_true h56
     exact ret1 rfl (OverOut.bad (by unfold overD; rw [if_neg hfit, hd1, if_neg hz1, hd2, if_neg hz2, hd3, if_pos hz]) hz hmm3 st)
    ·refine wc_skip ?_
     refine then_go ?_
     refine wc_seq ?_
     refine wc_region ?_
     refine wl_val (v_move' (by conv => (lhs; whnf))) rfl ?_
     refine wl_val (v_move' (by conv => (lhs; whnf))) rfl ?_
     refine wl_val (v_move' (by conv => (lhs; whnf))) rfl ?_
     refine wl_val (v_move' (by conv => (lhs; whnf))) rfl ?_
     refine wl_val (v_move' (by conv => (lhs; whnf))) rfl ?_
     refine wl_val (v_nil rfl) rfl ?_
     refine wl_val (v_fa TF.f70_2 rfl) rfl ?_
     refine wl_val (v_load rfl (st.reads (v := u64 sl.gen) 0 rfl TF.t42 rfl)) rfl ?_
     refine wl_val (v_add64 (q := 1) rfl rfl) rfl ?_
     refine wl_val (v_move' (by conv => (lhs; whnf))) rfl ?_
     refine wl_val (v_len_s Try.underlying30 rfl) rfl ?_
     refine wl_val (v_add' (c := ((64 + sizeL L : Nat) : Int)) rfl rfl (by omega) (by omega) (by omega)) rfl ?_
     refine wl_val (v_nil rfl) rfl ?_
     refine wl_val (v_fa TF.f70_1 rfl) rfl ?_
     refine wl_store1 0 st rfl TF.t3 rfl (by conv => (lhs; whnf)) rfl (by first | exact lt_ok rfl | decide | simp) ?_
     intro w st
     refine wl_val (v_nil rfl) rfl ?_
     refine wl_val (v_fa TF.f70_2 rfl) rfl ?_
     refine wl_store1 0 st rfl TF.t42 rfl (by conv => (lhs; whnf)) rfl (by first | exact lt_ok rfl | decide | simp) ?_
     intro w st
     refine wl_val (v_nil rfl) rfl ?_
     refine wl_val (v_fa TF.f70_3 rfl) rfl ?_
     refine wl_store1 0 st rfl TF.t3 rfl (by conv => (lhs; whnf)) rfl (by first | exact lt_ok rfl | decide | simp) ?_
     intro w st
     refine wl_nil ?_
     refine then_go ?_
     refine wc_seq ?_
     refine wc_region ?_
     refine wl_val (v_move' (by conv => (lhs; whnf))) rfl ?_
     refine wl_val (v_nil rfl) rfl ?_
     refine wl_val (v_fa TF.f70_4 rfl) rfl ?_
     refine wl_store1 0 st rfl TF.t29 rfl (by conv => (lhs; whnf)) rfl (by first | exact lt_ok rfl | decide | simp) ?_
     intro w st
     have hz3 := of_decide_eq_false h56
     have hfin : overD n d sl L = (P3.1, ⟨hf, sl.gen + 1, 64 + sizeL L⟩, 0) := by unfold overD; rw [if_neg hfit, hd1, if_neg hz1, hd2, if_neg hz2, hd3, if_neg hz3, ← hhf]
     have st : St m0 m3 [] w0 w (logB g b ⟨hf, sl.gen + 1, 64 + sizeL L⟩ (.slice none 0 0) :: diskO b s n wv3 P3.1 :: Es) := st
     refine wl_nil ?_
     refine then_go ?_
     refine wc_seq ?_
     refine wc_seq ?_
     refine wc_region ?_
     refine wl_val (v_move' (by conv => (lhs; whnf))) rfl ?_
     refine wl_val (v_len_s Try.underlying29 rfl) rfl ?_
     refine wl_val (v_move' (by conv => (lhs; whnf))) rfl ?_
     refine wl_nil ?_
     refine then_go ?_
     refine wc_block ?_
     have st := nilRow st 30 1
     have st : St m0 m3 [] w0 w (logB g b ⟨hf, sl.gen + 1, 64 + sizeL L⟩ (.slice none 0 0) :: lrE (.slice none 0 0) [] :: diskO b s n wv3 P3.1 :: Es) := st.perm (List.Perm.swap _ _ _)
     refine wc_loop (S := Nat) (fun q r w' => ∃ (i : Nat) (m' : Mem) (v : Value) (N' : List (By × Value)), q + i = N.length ∧ r 0 = .pointer (some ⟨g, 0, none⟩) ∧ r 79 = .slice na N.length nc ∧ r 80 = .int .i64 N.length ∧ r 81 = .int .i64 i ∧ (∀ k o, m3 k = some o → m' k = some o) ∧ Pcs m' N' ∧ (∀ y ∈ N', Apart m m' y.2 y.1) ∧ N'.map (·.1) = (N.take i).map (·.1) ∧ St m0 m' [] w0 w' (logB g b ⟨hf, sl.gen + 1, 64 + sizeL L⟩ v :: lrE v N' :: diskO b s n wv3 P3.1 :: Es)) id N.length ⟨0, m3, _, [], by omega, rfl, rfl, rfl, rfl, fun _ _ h => h, (by intro x hx; cases hx), (by intro x hx; cases hx), rfl, st⟩ ?_
     clear st
     rintro q r w2 ⟨i, m', v, N', hqi, g0, g79, g80, g81, hmm', hN', hNa, hNN', st⟩
     refine wc_o 0 g0 (wc_o 79 g79 (wc_o 80 g80 (wc_o 81 g81 ?_)))
     have hN := hN.mono hmm'
     refine wc_seq ?_
     refine wc_region ?_
     refine wl_val (v_lss rfl rfl) rfl ?_
     refine wl_nil ?_
     refine then_go ?_
     refine wc_seq ?_
     refine wc_if rfl (fun h82 => ?_) (fun h82 => ?_)
     ·refine wc_skip ?_
      refine then_go ?_
      refine wc_seq ?_
      refine wc_block ?_
      refine wc_seq ?_
      have hi : i < N.length := by omega
      obtain ⟨nb, no, _, hnv, hsk, hrk⟩ := hN.elem hi
      cases hnv
      have hxl := hNl _ (List.getElem_mem hi)
      have hN'l : N'.length = i := by have := congrArg List.length hNN'; rw [List.length_map, List.length_map, List.length_take] at this; omega
      refine wc_region ?_
      refine wl_val (v_ias i Try.underlying29 TF.t30 rfl rfl (by first | rfl | omega) (by first | omega | (dsimp only at *; omega))) rfl ?_
      refine wl_val (v_load rfl (hrk st.im)) rfl ?_
      refine wl_val (v_assign' (by conv => (lhs; whnf))) rfl ?_
      refine wl_nil ?_
      refine then_go ?_
      refine wc_draw TF.mixed ?_
      have st := st.pure (touch_drew _)
      refine fl_val 0 rfl (fun _ => (v_move' (by conv => (lhs; whnf)))) rfl (by kernel_rfl) ?_
      refine fl_val 1 rfl (fun _ => (v_move' (by conv => (lhs; whnf)))) rfl (by kernel_rfl) ?_
      refine fl_val 2 rfl (fun _ => (v_nil rfl)) rfl (by kernel_rfl) ?_
      refine fl_val 3 rfl (fun _ => (v_fa TF.f70_4 rfl)) rfl (by kernel_rfl) ?_
      refine fl_ld 4 rfl (v_load rfl (by first | exact st.reads (v := v) 0 rfl TF.t29 rfl | exact st.reads (v := v) 1 rfl TF.t29 rfl)) (by kernel_rfl) ?_
      refine fl_val 5 rfl (fun _ => (v_move' (by conv => (lhs; whnf)))) rfl (by kernel_rfl) ?_
      refine fl_eff1 6 [3, 2, 1, 0] [4] (by kernel_rfl) ⟨obl_ld rfl rfl rfl (v_load rfl (by first | exact st.reads (v := v) 0 rfl TF.t29 rfl | exact st.reads (v := v) 1 rfl TF.t29 rfl)), trivial⟩ rfl ?_
      refine wl_call rfl (c_bcloneA st.im hsk (by omega)) rfl ?_
      rintro v91 w ⟨t91, m4, hg4, hi4, hxv, hap⟩
      have hap : Apart m m4 v91 N[i].1 := hap.mono (fun k o h => hmm' k o (hmm3 k o h)) fun _ _ h => h
      have hNa : ∀ y ∈ N', Apart m m4 y.2 y.1 := fun y hy => (hNa y hy).mono (fun _ _ h => h) hg4.le
      have st := st.grown hg4 t91 hi4
      have hN' := hN'.mono hg4.le
      have hmm' : ∀ k o, m3 k = some o → m4 k = some o := fun k o h => hg4.le k o (hmm' k o h)
      refine wl_nil ⟨rfl, ?_⟩
      refine fl_eff1 7 [3, 2, 1, 0] [4] (by kernel_rfl) ⟨obl_ld rfl rfl rfl (v_load rfl (by first | exact st.reads (v := v) 0 rfl TF.t29 rfl | exact st.reads (v := v) 1 rfl TF.t29 rfl)), trivial⟩ rfl ?_
      refine wl_svOne (v := v91) Try.underlying29 TF.t30 TF.z30 (SlM.one1 hxv) rfl st rfl ?_
      intro b92 w st
      refine wl_nil ⟨rfl, ?_⟩
      refine fl_eff1 8 [3, 2, 1, 0] [] (by kernel_rfl) ⟨obl_ld rfl rfl rfl (v_load rfl (by first | exact st.reads (v := v) 0 rfl TF.t29 rfl | exact st.reads (v := v) 1 rfl TF.t29 rfl)), trivial⟩ rfl ?_
      refine wl_lrApp (x := N[i].1) 1 st rfl (SlM.one1 hxv) rfl rfl (by omega) rfl ?_
      intro v93 w st
      have st : St m0 m4 [] w0 w (logB g b ⟨hf, sl.gen + 1, 64 + sizeL L⟩ v :: lrE v93 (N' ++ [(N[i].1, v91)]) :: diskO b s n wv3 P3.1 :: Es) := st
      refine wl_nil ⟨rfl, ?_⟩
      refine fl_val 9 rfl (fun _ => (v_nil rfl)) rfl (by kernel_rfl) ?_
      refine fl_val 10 rfl (fun _ => (v_fa TF.f70_4 rfl)) rfl (by kernel_rfl) ?_
      refine fl_eff1 11 [9] [] (by kernel_rfl) trivial rfl ?_
      refine wl_store1 (v := v93) 0 st rfl TF.t29 rfl rfl (row_one (st.at (i := 1) rfl)) (lt_ok rfl) ?_
      intro w st
      have st : St m0 m4 [] w0 w (logB g b ⟨hf, sl.gen + 1, 64 + sizeL L⟩ v93 :: lrE v93 (N' ++ [(N[i].1, v91)]) :: diskO b s n wv3 P3.1 :: Es) := st
      refine wl_nil ⟨rfl, ?_⟩
      refine fl_nil (by kernel_rfl) trivial ?_
      refine block_go (then_go ?_)
      refine wc_region ?_
      refine wl_val (v_add' (c := ((i + 1 : Nat) : Int)) rfl rfl (by omega) (by omega) (by omega)) rfl ?_
      refine wl_val (v_move' (by conv => (lhs; whnf))) rfl ?_
      refine wl_nil ?_
      refine then_go ?_
      refine ⟨q - 1, by simp; omega, i + 1, m4, v93, N' ++ [(N[i].1, v91)], by omega, rfl, rfl, rfl, rfl, hmm', hN'.snoc hxv, fun y hy => (List.mem_append.1 hy).elim (hNa y) fun hy => by rw [List.mem_singleton.1 hy]; exact hap, ?_, st⟩
      rw [List.map_append, hNN', List.take_succ_eq_append_getElem hi, List.map_append]
      rfl
     ·refine wc_exit (then_exit (then_exit (block_hit ?_)))
      refine then_go ?_
      refine wc_seq ?_
      refine wc_region ?_
      refine wl_val (v_assign' (by conv => (lhs; whnf))) rfl ?_
      refine wl_nil ?_
      refine then_go ?_
      refine wc_ret ?_
      have hiN : i = N.length := by omega
      subst hiN
      rw [List.take_length, ← hL] at hNN'
      refine ret1 (v := .int .i64 0) rfl ⟨m', wv3, fun k o h => hmm' k o (hmm3 k o h), by rw [hfin], fun h => (h (by rw [hfin])).elim, fun _ => ⟨v, N', hN', hNa, hNN', by rw [hfin]; exact st⟩⟩
end
end Go.Proofs.Ytnaoafogdplnaaa

namespace Go.Proofs.Ytnaoafogdplnaaa
open Go Go.RowKit K SH DK JR
section
variable {m0 m : Mem} {F : List Nat} {w0 w : World} {Es : List Ent}
def LogOut (m0 m : Mem) (w0 w' : World) (Es : List Ent) (g b s n : Nat) (o : DS × LG × Int) (N : List (By × Value)) (L L' : List By) (v : Value) : Prop :=
 ∃ m' wv' lv' N', (∀ k o, m k = some o → m' k = some o) ∧ v = .int .i64 o.2.2 ∧ Pcs m' N' ∧ PcsN m m' N N' ∧ N'.map (·.1) = (if o.2.2 = 0 then L' else L) ∧ St m0 m' [] w0 w' (logB g b o.2.1 lv' :: lrE lv' N' :: diskO b s n wv' o.1 :: Es)
theorem p132 {a b c : Ent} {l : List Ent} : List.Perm (a :: b :: c :: l) (a :: c :: b :: l) := List.Perm.cons _ (List.Perm.swap _ _ _)
theorem c_append {g b s n : Nat} {sl : LG} {lv wv bv : Value} {d : DS} {N : List (By × Value)} {x : By} (st : St m0 m [] w0 w (logB g b sl lv :: lrE lv N :: diskO b s n wv d :: Es)) (hr : Rdy n d 100000) (hP : Pcs m N) (hx : SlM m bv 1 x.length (bs x)) (hsl : sl.half ≤ 1) (hf1 : sl.fin ≤ n / 2 * 64) (hNn : N.length ≤ 1048576) :
  Ret Try.prog 19 #[.pointer (some ⟨g, 0, none⟩), bv] w fun v w' => LogOut m0 m w0 w' Es g b s n (appD n d sl (N.map (·.1)) x) N (N.map (·.1)) (N.map (·.1) ++ [x]) v := by
 obtain ⟨ba, bc, rfl, hbc⟩ := hx.opn
 have hn := hr.ok.le
 obtain ⟨la, lc, hlv⟩ := row_sl (st.at (i := 1) rfl)
 have hNL : (N.map (·.1)).length = N.length := List.length_map _
 have hrl := length_recB sl.gen (UInt64.ofNat N.length) x
 have hmm0 : ∀ k o, m k = some o → m k = some o := fun _ _ h => h
 have bad : ∀ {d' : DS} {e : Int} {m' : Mem} {wv' : Value} {w' : World}, appD n d sl (N.map (·.1)) x = (d', sl, e) → e ≠ 0 → (∀ k o, m k = some o → m' k = some o) → St m0 m' [] w0 w' (logB g b sl lv :: diskO b s n wv' d' :: lrE lv N :: Es) → LogOut m0 m w0 w' Es g b s n (appD n d sl (N.map (·.1)) x) N (N.map (·.1)) (N.map (·.1) ++ [x]) (.int .i64 e) := by
  intro d' e m' wv' w' ho he hmm st
  unfold LogOut
  rw [ho]
  exact ⟨m', wv', lv, N, hmm, rfl, hP.mono hmm, .refl, by rw [if_neg he], st.perm p132⟩
 have st : St m0 m [] w0 w (logB g b sl lv :: diskO b s n wv d :: lrE lv N :: Es) := st.perm p132
 refine ret_of Try.call19 Try.func19 rfl Try.ntmps19 Try.results19 rfl ?_
 refine wc_seq ?_
 refine wc_region ?_
 refine wl_val (v_assign' (by conv => (lhs; whnf))) rfl ?_
 refine wl_nil ?_
 refine then_go ?_
 refine wc_seq ?_
 refine wc_seq ?_
 refine wc_region ?_
 refine wl_val (v_move' (by conv => (lhs; whnf))) rfl ?_
 refine wl_call rfl (c_jcheck st.im hx) rfl ?_
 rintro v9 w ⟨t9, rfl⟩
 have st := st.pure t9
 have hck : (if 1 ≤ x.length ∧ x.length ≤ 1048576 then (0 : Int) else 1) = ((checkE x : Nat) : Int) := by unfold checkE; split <;> rfl
 rw [hck]
 refine wl_val (v_assign' (by conv => (lhs; whnf))) rfl ?_
 refine wl_nil ?_
 refine then_go ?_
 refine wc_seq ?_
 refine wc_region ?_
 refine wl_val (v_move' (by conv => (lhs; whnf))) rfl ?_
 refine wl_val (v_neq rfl rfl) rfl ?_
 refine wl_nil ?_
 refine then_go ?_
 refine wc_cond rfl (fun h11 => ?_) (fun h11 => ?_)
 ·refine wc_seq ?_
  refine wc_region ?_
  refine wl_val (v_move' (by conv => (lhs; whnf))) rfl ?_
  refine wl_val (v_assign' (by conv => (lhs; whnf))) rfl ?_
  refine wl_nil ?_
  refine then_go ?_
  refine wc_ret (then_ret ?_)
  have hz := of_decide_eq_true h11
  have h1 : checkE x = 1 := by
   have : checkE x = 0 ∨ checkE x = 1 := by
    unfold checkE
    split
    ·exact .inl rfl
    ·exact .inr rfl
   rcases this with h | h
   ·exact (hz (by rw [h]; rfl)).elim
   ·exact h
  exact ret1 (v := .int .i64 1) (by rw [h1]; rfl) (bad (by unfold appD; rw [if_pos (by omega)]) (by decide) hmm0 st)
 ·refine wc_skip ?_
  refine then_go ?_
  refine wc_seq ?_
  have hc0 : ¬ checkE x ≠ 0 := fun h => of_decide_eq_false h11 (by omega)
  have hxm : 1 ≤ x.length ∧ x.length ≤ 1048576 := by
   unfold checkE at hc0
   split at hc0
   ·assumption
   ·exact (hc0 (by decide)).elim
  have hrl2 : recL x.length ≤ 1048696 := by unfold recL; omega
  refine wc_draw TF.mixed ?_
  have st := st.pure (touch_drew _)
  refine fl_val 0 rfl (fun _ => (v_move' (by conv => (lhs; whnf)))) rfl (by kernel_rfl) ?_
  refine fl_val 1 rfl (fun _ => (v_nil rfl)) rfl (by kernel_rfl) ?_
  refine fl_val 2 rfl (fun _ => (v_fa TF.f70_2 rfl)) rfl (by kernel_rfl) ?_
  refine fl_ld 3 rfl (v_load rfl (by first | exact st.reads (v := u64 sl.gen) 0 rfl TF.t42 rfl | exact st.reads (v := u64 sl.gen) 1 rfl TF.t42 rfl)) (by kernel_rfl) ?_
  refine fl_val 4 rfl (fun _ => (v_move' (by conv => (lhs; whnf)))) rfl (by kernel_rfl) ?_
  refine fl_val 5 rfl (fun _ => (v_nil rfl)) rfl (by kernel_rfl) ?_
  refine fl_val 6 rfl (fun _ => (v_fa TF.f70_4 rfl)) rfl (by kernel_rfl) ?_
  refine fl_ld 7 rfl (v_load rfl (by first | exact st.reads (v := .slice la N.length lc) 0 rfl TF.t29 (by rw [hlv]; rfl) | exact st.reads (v := .slice la N.length lc) 1 rfl TF.t29 (by rw [hlv]; rfl))) (by kernel_rfl) ?_
  refine fl_val 8 rfl (fun _ => (v_len_s Try.underlying29 rfl)) rfl (by kernel_rfl) ?_
  refine fl_val 9 rfl (fun _ => (v_convi_64 Try.underlying3 Try.underlying42 rfl)) rfl (by kernel_rfl) ?_
  refine fl_val 10 rfl (fun _ => (v_move' (by conv => (lhs; whnf)))) rfl (by kernel_rfl) ?_
  refine fl_eff1 11 [8, 6, 5, 4, 2, 1, 0] [7] (by kernel_rfl) ⟨obl_ld rfl rfl rfl (v_load rfl (by first | exact st.reads (v := .slice la N.length lc) 0 rfl TF.t29 (by rw [hlv]; rfl) | exact st.reads (v := .slice la N.length lc) 1 rfl TF.t29 (by rw [hlv]; rfl))), obl_ld rfl rfl rfl (v_load rfl (by first | exact st.reads (v := u64 sl.gen) 0 rfl TF.t42 rfl | exact st.reads (v := u64 sl.gen) 1 rfl TF.t42 rfl)), trivial⟩ rfl ?_
  refine wl_call rfl (c_jrecord (g := sl.gen) (s := UInt64.ofNat N.length) st hx (by omega)) rfl ?_
  intro v24 w st
  have st1 := st
  obtain ⟨m1, hg1, hm1, st⟩ := st.freezeR (i := 0) rfl (by simp)
  obtain ⟨R, hR⟩ : ∃ R, R = recB sl.gen (UInt64.ofNat N.length) x := ⟨_, rfl⟩
  rw [← hR] at hrl st1
  have hRm : SlM m1 v24 1 R.length (bs R) := row_SlM (m := m1) (st1.at (i := 0) rfl) hm1
  have st : St m0 m1 [] w0 w (logB g b sl lv :: diskO b s n wv d :: lrE lv N :: Es) := st
  have hmm1 := hg1.le
  have hx := hx.mono hmm1
  obtain ⟨Ra, Rc, hRv, _⟩ := hRm.opn
  subst hRv
  have hRe : recB sl.gen (UInt64.ofNat (N.map (·.1)).length) x = R := by rw [hNL, hR]
  refine wl_nil ⟨rfl, ?_⟩
  refine fl_eff1 12 [] [] (by kernel_rfl) ⟨obl_ld rfl rfl rfl (v_load rfl (by first | exact st.reads (v := .slice la N.length lc) 0 rfl TF.t29 (by rw [hlv]; rfl) | exact st.reads (v := .slice la N.length lc) 1 rfl TF.t29 (by rw [hlv]; rfl))), trivial⟩ rfl ?_
  refine wl_val (v_assign' (by conv => (lhs; whnf))) rfl ?_
  refine wl_nil ⟨rfl, ?_⟩
  refine fl_nil (by kernel_rfl) trivial ?_
  refine then_go ?_
  refine wc_seq ?_
  refine wc_seq ?_
  refine wc_draw TF.mixed ?_
  have st := st.pure (touch_drew _)
  refine fl_val 0 rfl (fun _ => (v_move' (by conv => (lhs; whnf)))) rfl (by kernel_rfl) ?_
  refine fl_val 1 rfl (fun _ => (v_len_s Try.underlying30 rfl)) rfl (by kernel_rfl) ?_
  refine fl_val 2 rfl (fun _ => (v_move' (by conv => (lhs; whnf)))) rfl (by kernel_rfl) ?_
  refine fl_val 4 rfl (fun _ => (v_move' (by conv => (lhs; whnf)))) rfl (by kernel_rfl) ?_
  refine fl_val 5 rfl (fun _ => (v_nil rfl)) rfl (by kernel_rfl) ?_
  refine fl_val 6 rfl (fun _ => (v_fa TF.f70_3 rfl)) rfl (by kernel_rfl) ?_
  refine fl_ld 7 rfl (v_load rfl (st.reads (v := .int .i64 sl.fin) 0 rfl TF.t3 rfl)) (by kernel_rfl) ?_
  refine fl_eff1 3 [6, 5, 4, 1, 0] [7] (by kernel_rfl) ⟨obl_ld rfl rfl rfl (v_load rfl (st.reads (v := .int .i64 sl.fin) 0 rfl TF.t3 rfl)), trivial⟩ rfl ?_
  refine wl_call rfl (c_lsize st hr.ok) rfl ?_
  rintro v28 w ⟨t28, rfl⟩
  have st := st.pure t28
  refine wl_nil ⟨rfl, ?_⟩
  refine fl_val 8 rfl (fun _ => (v_sub' (c := ((n / 2 * 64 - sl.fin : Nat) : Int)) rfl rfl (by omega) (by omega) (by omega))) rfl (by kernel_rfl) ?_
  refine fl_val 9 rfl (fun _ => (v_gtr rfl rfl)) rfl (by kernel_rfl) ?_
  refine fl_nil (by kernel_rfl) ⟨obl_ld rfl rfl rfl (v_load rfl (st.reads (v := .int .i64 sl.fin) 0 rfl TF.t3 rfl)), trivial⟩ ?_
  refine then_go ?_
  refine wc_if rfl (fun h34 => ?_) (fun h34 => ?_)
  ·refine wc_seq ?_
   refine wc_region ?_
   refine wl_val (v_assign' (by conv => (lhs; whnf))) rfl ?_
   refine wl_nil ?_
   refine then_go ?_
   refine wc_ret (then_ret ?_)
   exact ret1 rfl (bad (e := 13) (by unfold appD; rw [if_neg hc0, if_pos (by omega)]) (by decide) hmm1 st)
  ·refine wc_skip ?_
   refine then_go ?_
   refine wc_seq ?_
   refine wc_seq ?_
   refine wc_draw TF.mixed ?_
   have st := st.pure (touch_drew _)
   refine fl_val 0 rfl (fun _ => (v_move' (by conv => (lhs; whnf)))) rfl (by kernel_rfl) ?_
   refine fl_val 1 rfl (fun _ => (v_move' (by conv => (lhs; whnf)))) rfl (by kernel_rfl) ?_
   refine fl_val 2 rfl (fun _ => (v_nil rfl)) rfl (by kernel_rfl) ?_
   refine fl_val 3 rfl (fun _ => (v_fa TF.f70_1 rfl)) rfl (by kernel_rfl) ?_
   refine fl_ld 4 rfl (v_load rfl (st.reads (v := .int .i64 sl.half) 0 rfl TF.t3 rfl)) (by kernel_rfl) ?_
   refine fl_val 5 rfl (fun _ => (v_move' (by conv => (lhs; whnf)))) rfl (by kernel_rfl) ?_
   refine fl_val 6 rfl (fun _ => (v_nil rfl)) rfl (by kernel_rfl) ?_
   refine fl_val 7 rfl (fun _ => (v_fa TF.f70_3 rfl)) rfl (by kernel_rfl) ?_
   refine fl_ld 8 rfl (v_load rfl (st.reads (v := .int .i64 sl.fin) 0 rfl TF.t3 rfl)) (by kernel_rfl) ?_
   refine fl_val 9 rfl (fun _ => (v_move' (by conv => (lhs; whnf)))) rfl (by kernel_rfl) ?_
   refine fl_eff1 10 [7, 6, 5, 3, 2, 1] [] (by kernel_rfl) ⟨obl_ld rfl rfl rfl (v_load rfl (st.reads (v := .int .i64 sl.fin) 0 rfl TF.t3 rfl)), obl_ld rfl rfl rfl (v_load rfl (st.reads (v := .int .i64 sl.half) 0 rfl TF.t3 rfl)), trivial⟩ rfl ?_
   have hfit : ¬ n / 2 * 64 < sl.fin + recL x.length := by omega
   refine wl_call rfl (c_put (hf := sl.half) (at' := sl.fin) st hr hRm (by rw [hrl]; unfold recL; omega) (by omega) hsl (by omega)) rfl ?_
   rintro v45 w ⟨wv1, st, rfl⟩
   have hd1 : putD n d ((sl.half * (n / 2 * 64) + sl.fin) / 64) (recB sl.gen (UInt64.ofNat (N.map (·.1)).length) x) = putD n d ((sl.half * (n / 2 * 64) + sl.fin) / 64) R := by rw [hRe]
   obtain ⟨P1, hP1⟩ : ∃ P1, P1 = putD n d ((sl.half * (n / 2 * 64) + sl.fin) / 64) R := ⟨_, rfl⟩
   rw [← hP1] at st hd1 ⊢
   refine wl_nil ⟨rfl, ?_⟩
   refine fl_eff1 11 [] [] (by kernel_rfl) trivial rfl ?_
   refine wl_val (v_assign' (by conv => (lhs; whnf))) rfl ?_
   refine wl_nil ⟨rfl, ?_⟩
   refine fl_nil (by kernel_rfl) trivial ?_
   refine then_go ?_
   refine wc_seq ?_
   refine wc_region ?_
   refine wl_val (v_move' (by conv => (lhs; whnf))) rfl ?_
   refine wl_val (v_neq rfl rfl) rfl ?_
   refine wl_nil ?_
   refine then_go ?_
   refine wc_cond rfl (fun h47 => ?_) (fun h47 => ?_)
   ·refine wc_seq ?_
    refine wc_region ?_
    refine wl_val (v_move' (by conv => (lhs; whnf))) rfl ?_
    refine wl_val (v_assign' (by conv => (lhs; whnf))) rfl ?_
    refine wl_nil ?_
    refine then_go ?_
    refine wc_ret (then_ret ?_)
    have hz := of_decide_eq_true h47
    exact ret1 rfl (bad (by unfold appD; rw [if_neg hc0, if_neg hfit, hd1, if_pos hz]) hz hmm1 st)
   ·refine wc_skip ?_
    refine then_go ?_
    refine wc_seq ?_
    refine wc_draw TF.mixed ?_
    have st := st.pure (touch_drew _)
    refine fl_val 0 rfl (fun _ => (v_move' (by conv => (lhs; whnf)))) rfl (by kernel_rfl) ?_
    refine fl_val 1 rfl (fun _ => (v_move' (by conv => (lhs; whnf)))) rfl (by kernel_rfl) ?_
    refine fl_val 2 rfl (fun _ => (v_move' (by conv => (lhs; whnf)))) rfl (by kernel_rfl) ?_
    refine fl_val 3 rfl (fun _ => (v_nil rfl)) rfl (by kernel_rfl) ?_
    refine fl_val 4 rfl (fun _ => (v_fa TF.f70_4 rfl)) rfl (by kernel_rfl) ?_
    refine fl_ld 5 rfl (v_load rfl (by first | exact st.reads (v := lv) 0 rfl TF.t29 rfl | exact st.reads (v := lv) 1 rfl TF.t29 rfl)) (by kernel_rfl) ?_
    refine fl_val 6 rfl (fun _ => (v_move' (by conv => (lhs; whnf)))) rfl (by kernel_rfl) ?_
    refine fl_val 10 rfl (fun _ => (v_move' (by conv => (lhs; whnf)))) rfl (by kernel_rfl) ?_
    refine fl_val 11 rfl (fun _ => (v_nil rfl)) rfl (by kernel_rfl) ?_
    refine fl_val 12 rfl (fun _ => (v_fa TF.f70_3 rfl)) rfl (by kernel_rfl) ?_
    refine fl_ld 13 rfl (v_load rfl (by first | exact st.reads (v := .int .i64 sl.fin) 0 rfl TF.t3 rfl | exact st.reads (v := .int .i64 sl.fin) 1 rfl TF.t3 rfl)) (by kernel_rfl) ?_
    refine fl_val 14 rfl (fun _ => (v_move' (by conv => (lhs; whnf)))) rfl (by kernel_rfl) ?_
    refine fl_val 15 rfl (fun _ => (v_len_s Try.underlying30 rfl)) rfl (by kernel_rfl) ?_
    refine fl_val 16 rfl (fun _ => (v_add' (c := ((sl.fin + recL x.length : Nat) : Int)) rfl rfl (by omega) (by omega) (by omega))) rfl (by kernel_rfl) ?_
    refine fl_eff1 7 [16, 15, 14, 12, 11, 10, 4, 3, 2, 1, 0] [13, 5] (by kernel_rfl) ⟨obl_ld rfl rfl rfl (v_load rfl (by first | exact st.reads (v := .int .i64 sl.fin) 0 rfl TF.t3 rfl | exact st.reads (v := .int .i64 sl.fin) 1 rfl TF.t3 rfl)), obl_ld rfl rfl rfl (v_load rfl (by first | exact st.reads (v := lv) 0 rfl TF.t29 rfl | exact st.reads (v := lv) 1 rfl TF.t29 rfl)), trivial⟩ rfl ?_
    refine wl_call rfl (c_bcloneA st.im hx (by omega)) rfl ?_
    rintro v56 w ⟨t56, m2, hg2, hi2, hxv, hap⟩
    have hap : Apart m m2 v56 x := hap.mono hmm1 fun _ _ h => h
    have st := st.grown hg2 t56 hi2
    have hmm2 : ∀ k o, m k = some o → m2 k = some o := fun k o h => hg2.le k o (hmm1 k o h)
    have hP := hP.mono hmm2
    refine wl_nil ⟨rfl, ?_⟩
    refine fl_eff1 8 [16, 15, 14, 12, 11, 10, 4, 3, 2, 1, 0] [13, 5] (by kernel_rfl) ⟨obl_ld rfl rfl rfl (v_load rfl (by first | exact st.reads (v := .int .i64 sl.fin) 0 rfl TF.t3 rfl | exact st.reads (v := .int .i64 sl.fin) 1 rfl TF.t3 rfl)), obl_ld rfl rfl rfl (v_load rfl (by first | exact st.reads (v := lv) 0 rfl TF.t29 rfl | exact st.reads (v := lv) 1 rfl TF.t29 rfl)), trivial⟩ rfl ?_
    refine wl_svOne (v := v56) Try.underlying29 TF.t30 TF.z30 (SlM.one1 hxv) rfl st rfl ?_
    intro b57 w st
    refine wl_nil ⟨rfl, ?_⟩
    refine fl_eff1 9 [16, 15, 14, 12, 11, 10, 4, 3, 2, 1, 0] [13] (by kernel_rfl) ⟨obl_ld rfl rfl rfl (v_load rfl (by first | exact st.reads (v := .int .i64 sl.fin) 0 rfl TF.t3 rfl | exact st.reads (v := .int .i64 sl.fin) 1 rfl TF.t3 rfl)), obl_ld rfl rfl rfl (v_load rfl (by first | exact st.reads (v := lv) 0 rfl TF.t29 rfl | exact st.reads (v := lv) 1 rfl TF.t29 rfl)), trivial⟩ rfl ?_
    refine wl_lrApp (x := x) 2 st rfl (SlM.one1 hxv) rfl rfl (by omega) rfl ?_
    intro v58 w st
    have st : St m0 m2 [] w0 w (logB g b sl lv :: diskO b s n wv1 P1.1 :: lrE v58 (N ++ [(x, v56)]) :: Es) := st
    refine wl_nil ⟨rfl, ?_⟩
    refine fl_val 17 rfl (fun _ => (v_nil rfl)) rfl (by kernel_rfl) ?_
    refine fl_val 18 rfl (fun _ => (v_fa TF.f70_4 rfl)) rfl (by kernel_rfl) ?_
    refine fl_eff1 19 [17, 16, 15, 14, 12, 11, 10, 1] [] (by kernel_rfl) ⟨obl_ld rfl rfl rfl (v_load rfl (by first | exact st.reads (v := .int .i64 sl.fin) 0 rfl TF.t3 rfl | exact st.reads (v := .int .i64 sl.fin) 1 rfl TF.t3 rfl)), trivial⟩ rfl ?_
    refine wl_store1 (v := v58) 0 st rfl TF.t29 rfl rfl (row_one (st.at (i := 2) rfl)) (lt_ok rfl) ?_
    intro w st
    have st : St m0 m2 [] w0 w (logB g b sl v58 :: diskO b s n wv1 P1.1 :: lrE v58 (N ++ [(x, v56)]) :: Es) := st
    refine wl_nil ⟨rfl, ?_⟩
    refine fl_val 20 rfl (fun _ => (v_nil rfl)) rfl (by kernel_rfl) ?_
    refine fl_val 21 rfl (fun _ => (v_fa TF.f70_3 rfl)) rfl (by kernel_rfl) ?_
    refine fl_eff1 22 [20] [] (by kernel_rfl) trivial rfl ?_
    refine wl_store1 (v := .int .i64 ((sl.fin + recL x.length : Nat) : Int)) 0 st rfl TF.t3 rfl rfl rfl (lt_ok rfl) ?_
    intro w st
    have st : St m0 m2 [] w0 w (logB g b { sl with fin := sl.fin + recL x.length } v58 :: diskO b s n wv1 P1.1 :: lrE v58 (N ++ [(x, v56)]) :: Es) := st
    refine wl_nil ⟨rfl, ?_⟩
    refine fl_nil (by kernel_rfl) trivial ?_
    refine then_go ?_
    refine wc_seq ?_
    refine wc_region ?_
    refine wl_val (v_assign' (by conv => (lhs; whnf))) rfl ?_
    refine wl_nil ?_
    refine then_go ?_
    refine wc_ret ?_
    have hz := of_decide_eq_false h47
    have hfin : appD n d sl (N.map (·.1)) x = (P1.1, { sl with fin := sl.fin + recL x.length }, 0) := by unfold appD; rw [if_neg hc0, if_neg hfit, hd1, if_neg hz]
    refine ret1 (v := .int .i64 0) rfl ?_
    unfold LogOut
    rw [hfin]
    exact ⟨m2, wv1, v58, N ++ [(x, v56)], hmm2, rfl, hP.snoc hxv, fun y hy => (List.mem_append.1 hy).imp id fun hy => by rw [List.mem_singleton.1 hy]; exact hap, by rw [if_pos rfl, List.map_append]; rfl, st.perm p132⟩
def resD (n : Nat) (d : DS) (s : LG) (M : List By) : DS × LG × Int := if ∃ b ∈ M, checkE b ≠ 0 then (d, s, 1) else overD n d s M
theorem checkE_or (x : By) : checkE x = 0 ∨ checkE x = 1 := by
 unfold checkE
 split
 ·exact .inl rfl
 ·exact .inr rfl
theorem checkE_len {x : By} (h : ¬ checkE x ≠ 0) : 1 ≤ x.length ∧ x.length ≤ 1048576 := by
 unfold checkE at h
 split at h
 ·assumption
 ·exact (h (by decide)).elim
theorem c_restart {g b s n : Nat} {sl : LG} {lv wv nv : Value} {d : DS} {N M : List (By × Value)} (st : St m0 m [] w0 w (logB g b sl lv :: lrE lv N :: diskO b s n wv d :: Es)) (hr : Rdy n d 100000) (hP : Pcs m N) (hn8 : 8 ≤ n) (hsl : sl.half ≤ 1) (hM : PcsM m nv M) (hMn : M.length ≤ 1048576) :
  Ret Try.prog 39 #[.pointer (some ⟨g, 0, none⟩), nv] w fun v w' => LogOut m0 m w0 w' Es g b s n (resD n d sl (M.map (·.1))) N (N.map (·.1)) (M.map (·.1)) v := by
 obtain ⟨na, nc, hlv⟩ : ∃ a c, nv = .slice a M.length c := by obtain ⟨⟨_, a, c, h, _⟩, _⟩ := hM; exact ⟨a, c, h⟩
 subst hlv
 have hmm0 : ∀ k o, m k = some o → m k = some o := fun _ _ h => h
 refine ret_of Try.call39 Try.func39 rfl Try.ntmps39 Try.results39 rfl ?_
 refine wc_seq ?_
 refine wc_region ?_
 refine wl_val (v_assign' (by conv => (lhs; whnf))) rfl ?_
 refine wl_nil ?_
 refine then_go ?_
 refine wc_seq ?_
 refine wc_seq ?_
 refine wc_region ?_
 refine wl_val (v_move' (by conv => (lhs; whnf))) rfl ?_
 refine wl_val (v_len_s Try.underlying29 rfl) rfl ?_
 refine wl_val (v_move' (by conv => (lhs; whnf))) rfl ?_
 refine wl_nil ?_
 refine then_go ?_
 refine wc_block ?_
 refine wc_loop (S := Nat) (fun q r w' => ∃ (i : Nat), q + i = M.length ∧ r 0 = .pointer (some ⟨g, 0, none⟩) ∧ r 1 = .slice na M.length nc ∧ r 8 = .slice na M.length nc ∧ r 9 = .int .i64 M.length ∧ r 10 = .int .i64 i ∧ (∀ x ∈ M.take i, ¬ checkE x.1 ≠ 0) ∧ St m0 m [] w0 w' (logB g b sl lv :: lrE lv N :: diskO b s n wv d :: Es)) id M.length ⟨0, by omega, rfl, rfl, rfl, rfl, rfl, by simp, st⟩ ?_
 clear st
 rintro q r w2 ⟨i, hqi, g0, g1, g8, g9, g10, hck, st⟩
 refine wc_o 0 g0 (wc_o 1 g1 (wc_o 8 g8 (wc_o 9 g9 (wc_o 10 g10 ?_))))
 refine wc_seq ?_
 refine wc_region ?_
 refine wl_val (v_lss rfl rfl) rfl ?_
 refine wl_nil ?_
 refine then_go ?_
 refine wc_seq ?_
 refine wc_if rfl (fun h11 => ?_) (fun h11 => ?_)
 ·refine wc_skip ?_
  refine then_go ?_
  refine wc_seq ?_
  refine wc_block ?_
  refine wc_seq ?_
  have hi : i < M.length := by omega
  obtain ⟨nb, no, _, hnv, hsk, hrk⟩ := hM.elem hi
  cases hnv
  refine wc_region ?_
  refine wl_val (v_ias i Try.underlying29 TF.t30 rfl rfl (by first | rfl | omega) (by first | omega | (dsimp only at *; omega))) rfl ?_
  refine wl_val (v_load rfl (hrk st.im)) rfl ?_
  refine wl_val (v_assign' (by conv => (lhs; whnf))) rfl ?_
  refine wl_nil ?_
  refine then_go ?_
  refine wc_seq ?_
  refine wc_region ?_
  refine wl_val (v_move' (by conv => (lhs; whnf))) rfl ?_
  refine wl_call rfl (c_jcheck st.im hsk) rfl ?_
  rintro v15 w ⟨t15, rfl⟩
  have st := st.pure t15
  have hcq : (if 1 ≤ M[i].1.length ∧ M[i].1.length ≤ 1048576 then (0 : Int) else 1) = ((checkE M[i].1 : Nat) : Int) := by unfold checkE; split <;> rfl
  rw [hcq]
  refine wl_val (v_assign' (by conv => (lhs; whnf))) rfl ?_
  refine wl_nil ?_
  refine then_go ?_
  refine wc_seq ?_
  refine wc_region ?_
  refine wl_val (v_move' (by conv => (lhs; whnf))) rfl ?_
  refine wl_val (v_neq rfl rfl) rfl ?_
  refine wl_nil ?_
  refine then_go ?_
  refine wc_cond rfl (fun h17 => ?_) (fun h17 => ?_)
  ·refine wc_seq ?_
   refine wc_region ?_
   refine wl_val (v_move' (by conv => (lhs; whnf))) rfl ?_
   refine wl_val (v_assign' (by conv => (lhs; whnf))) rfl ?_
   refine wl_nil ?_
   refine then_go ?_
   refine wc_ret (block_ret (then_ret (then_ret (block_ret (then_ret ?_)))))
   have hz := of_decide_eq_true h17
   have h1 : checkE M[i].1 = 1 := (checkE_or _).resolve_left fun h => hz (by rw [h]; rfl)
   have hfin : resD n d sl (M.map (·.1)) = (d, sl, 1) := by unfold resD; rw [if_pos ⟨_, List.mem_map.2 ⟨_, List.getElem_mem hi, rfl⟩, by omega⟩]
   refine ret1 (v := .int .i64 1) (by rw [h1]; rfl) ?_
   unfold LogOut
   rw [hfin]
   exact ⟨m, wv, lv, N, hmm0, rfl, hP, .refl, by rw [if_neg (show ¬ (1 : Int) = 0 by decide)], st⟩
  ·refine wc_skip ?_
   refine block_go (then_go ?_)
   refine wc_region ?_
   refine wl_val (v_add' (c := ((i + 1 : Nat) : Int)) rfl rfl (by omega) (by omega) (by omega)) rfl ?_
   refine wl_val (v_move' (by conv => (lhs; whnf))) rfl ?_
   refine wl_nil ?_
   refine then_go ?_
   refine ⟨q - 1, by simp; omega, i + 1, by omega, rfl, rfl, rfl, rfl, rfl, fun x hx => ?_, st⟩
   rw [List.take_succ_eq_append_getElem hi] at hx
   rcases List.mem_append.1 hx with hx | hx
   ·exact hck x hx
   ·rw [List.mem_singleton.1 hx]
    exact fun h => of_decide_eq_false h17 (by omega)
 ·refine wc_exit (then_exit (then_exit (block_hit ?_)))
  refine then_go ?_
  refine wc_seq ?_
  refine wc_region ?_
  refine wl_val (v_move' (by conv => (lhs; whnf))) rfl ?_
  refine wl_val (v_move' (by conv => (lhs; whnf))) rfl ?_
  have hiN : i = M.length := by omega
  subst hiN
  rw [List.take_length] at hck
  have hfin : resD n d sl (M.map (·.1)) = overD n d sl (M.map (·.1)) := by
   unfold resD
   rw [if_neg]
   rintro ⟨x, hx, hz⟩
   obtain ⟨y, hy, rfl⟩ := List.mem_map.1 hx
   exact hck y hy hz
  have st := st.perm p132
  refine wl_call rfl (c_over st hr hn8 hsl hM (fun x hx => (checkE_len (hck x hx)).2) hMn) rfl ?_
  rintro v22 w ⟨m1, wv1, hmm1, rfl, hbad, hok⟩
  refine wl_val (v_assign' (by conv => (lhs; whnf))) rfl ?_
  refine wl_nil ?_
  refine then_go ?_
  refine wc_ret ?_
  refine ret1 rfl ?_
  unfold LogOut
  rw [hfin]
  by_cases hz : (overD n d sl (M.map (·.1))).2.2 = 0
  ·obtain ⟨lv', N', hP', hPn, hNN, st⟩ := hok hz
   refine ⟨m1, wv1, lv', N', hmm1, rfl, hP', fun y hy => .inr (hPn y hy), by rw [if_pos hz]; exact hNN, ?_⟩
   exact (st.perm (List.perm_middle (l₁ := [_, _, _]))).drop 0
  ·obtain ⟨hs, st⟩ := hbad hz
   refine ⟨m1, wv1, lv, N, hmm1, rfl, hP.mono hmm1, .refl, by rw [if_neg hz], ?_⟩
   rw [hs]
   exact st.perm p132
abbrev rowsE (A : List (By × Value)) : List Ent := (A.map fun x => byE x.2 x.1).reverse
theorem rows_freeze : ∀ {A : List (By × Value)} {m : Mem} {Es : List Ent}, St m0 m [] w0 w (rowsE A ++ Es) → ∃ m', (∀ k o, m k = some o → m' k = some o) ∧ Pcs m' A ∧ St m0 m' [] w0 w Es := by
 intro A
 induction h : A.length generalizing A with
 | zero =>
  intro m Es st
  have := List.eq_nil_of_length_eq_zero h
  subst this
  exact ⟨m, fun _ _ h => h, (by intro x hx; cases hx), st⟩
 | succ k ih =>
  intro m Es st
  have hne : A ≠ [] := by intro e; subst e; simp at h
  obtain ⟨B, x, rfl⟩ : ∃ B x, A = B ++ [x] := ⟨A.dropLast, A.getLast hne, (List.dropLast_concat_getLast hne).symm⟩
  have e : rowsE (B ++ [x]) ++ Es = byE x.2 x.1 :: (rowsE B ++ Es) := by simp [rowsE]
  rw [e] at st
  obtain ⟨m1, hg1, hm1, st1⟩ := st.freezeR (i := 0) rfl (by simp)
  have hx : SlM m1 x.2 1 x.1.length (bs x.1) := row_SlM (m := m1) (st.at (i := 0) rfl) hm1
  obtain ⟨m2, h2, hP, st2⟩ := ih (A := B) (by simpa using h) (show St m0 m1 [] w0 w (rowsE B ++ Es) from st1)
  exact ⟨m2, fun k o h => h2 k o (hg1.le k o h), hP.snoc (hx.mono h2), st2⟩
theorem c_logAll {g b : Nat} {sl : LG} {lv : Value} {N : List (By × Value)} (st : St m0 m F w0 w (logB g b sl lv :: lrE lv N :: Es)) (hP : Pcs m N) (hNl : ∀ x ∈ N, x.1.length ≤ 1048576) (hNn : N.length ≤ 1048576) :
  Ret Try.prog 13 #[.pointer (some ⟨g, 0, none⟩)] w fun v w' => ∃ A, A.map (·.1) = N.map (·.1) ∧ St m0 m F w0 w' (lrE v A :: (rowsE A ++ logB g b sl lv :: lrE lv N :: Es)) := by
 obtain ⟨la, lc, hlv⟩ := row_sl (st.at (i := 1) rfl)
 subst hlv
 refine ret_of Try.call13 Try.func13 rfl Try.ntmps13 Try.results13 rfl ?_
 refine wc_seq ?_
 refine wc_region ?_
 refine wl_val (v_assign' (by conv => (lhs; whnf))) rfl ?_
 refine wl_nil ?_
 refine then_go ?_
 refine wc_seq ?_
 refine wc_region ?_
 refine wl_val (v_assign' (by conv => (lhs; whnf))) rfl ?_
 refine wl_nil ?_
 refine then_go ?_
 refine wc_seq ?_
 refine wc_seq ?_
 refine wc_region ?_
 refine wl_val (v_move' (by conv => (lhs; whnf))) rfl ?_
 refine wl_val (v_nil rfl) rfl ?_
 refine wl_val (v_fa TF.f70_4 rfl) rfl ?_
 refine wl_val (v_load rfl (st.reads (v := .slice la N.length lc) 0 rfl TF.t29 rfl)) rfl ?_
 refine wl_val (v_len_s Try.underlying29 rfl) rfl ?_
 refine wl_val (v_move' (by conv => (lhs; whnf))) rfl ?_
 refine wl_nil ?_
 refine then_go ?_
 refine wc_block ?_
 have st := nilRow st 30 1
 refine wc_loop (S := Nat) (fun q r w' => ∃ (i : Nat) (v : Value) (A : List (By × Value)), q + i = N.length ∧ r 3 = v ∧ r 9 = .slice la N.length lc ∧ r 10 = .int .i64 N.length ∧ r 11 = .int .i64 i ∧ A.map (·.1) = (N.take i).map (·.1) ∧ St m0 m F w0 w' (lrE v A :: (rowsE A ++ logB g b sl (.slice la N.length lc) :: lrE (.slice la N.length lc) N :: Es))) id N.length ⟨0, _, [], by omega, rfl, rfl, rfl, rfl, rfl, st⟩ ?_
 clear st
 rintro q r w2 ⟨i, v, A, hqi, g3, g9, g10, g11, hA, st⟩
 refine wc_o 3 g3 (wc_o 9 g9 (wc_o 10 g10 (wc_o 11 g11 ?_)))
 refine wc_seq ?_
 refine wc_region ?_
 refine wl_val (v_lss rfl rfl) rfl ?_
 refine wl_nil ?_
 refine then_go ?_
 refine wc_seq ?_
 refine wc_if rfl (fun h12 => ?_) (fun h12 => ?_)
 ·refine wc_skip ?_
  refine then_go ?_
  refine wc_seq ?_
  refine wc_block ?_
  refine wc_seq ?_
  have hi : i < N.length := by omega
  have hAl : A.length = i := by have := congrArg List.length hA; rw [List.length_map, List.length_map, List.length_take] at this; omega
  have hidx : (lrE v A :: (rowsE A ++ logB g b sl (.slice la N.length lc) :: lrE (.slice la N.length lc) N :: Es))[A.length + 2]? = some (lrE (.slice la N.length lc) N) := by
   rw [List.getElem?_cons_succ, List.getElem?_append_right (by simp)]
   simp
  obtain ⟨nb, no, _, hnv, hsk, hrk⟩ := (lr_PcsM st (A.length + 2) hidx hP).elem hi
  cases hnv
  have hxl := hNl _ (List.getElem_mem hi)
  have hsk := hP _ (List.getElem_mem hi)
  refine wc_region ?_
  refine wl_val (v_ias i Try.underlying29 TF.t30 rfl rfl (by first | rfl | omega) (by first | omega | (dsimp only at *; omega))) rfl ?_
  refine wl_val (v_load rfl (hrk (im_heapM _))) rfl ?_
  refine wl_val (v_assign' (by conv => (lhs; whnf))) rfl ?_
  refine wl_nil ?_
  refine then_go ?_
  refine wc_region ?_
  refine wl_val (v_move' (by conv => (lhs; whnf))) rfl ?_
  refine wl_val (v_move' (by conv => (lhs; whnf))) rfl ?_
  refine wl_call rfl (c_bcloneR st hsk (by omega)) rfl ?_
  intro v17 w st
  refine wl_svOne (v := v17) Try.underlying29 TF.t30 TF.z30 (byE_one st 0 rfl) rfl st rfl ?_
  intro b18 w st
  refine wl_lrApp (x := N[i].1) 1 st rfl (byE_one st 1 rfl) rfl rfl (by omega) rfl ?_
  intro v19 w st
  have st : St m0 m F w0 w (lrE v19 (A ++ [(N[i].1, v17)]) :: (rowsE (A ++ [(N[i].1, v17)]) ++ logB g b sl (.slice (some ⟨nb, no, none⟩) N.length lc) :: lrE (.slice (some ⟨nb, no, none⟩) N.length lc) N :: Es)) := by
   have e : rowsE (A ++ [(N[i].1, v17)]) = byE v17 N[i].1 :: rowsE A := by simp [rowsE]
   rw [e]
   exact st.perm (List.Perm.swap _ _ _)
  refine wl_val (v_assign' (by conv => (lhs; whnf))) rfl ?_
  refine wl_nil ?_
  refine block_go (then_go ?_)
  refine wc_region ?_
  refine wl_val (v_add' (c := ((i + 1 : Nat) : Int)) rfl rfl (by omega) (by omega) (by omega)) rfl ?_
  refine wl_val (v_move' (by conv => (lhs; whnf))) rfl ?_
  refine wl_nil ?_
  refine then_go ?_
  refine ⟨q - 1, by simp; omega, i + 1, v19, A ++ [(N[i].1, v17)], by omega, rfl, rfl, rfl, rfl, ?_, st⟩
  rw [List.map_append, hA, List.take_succ_eq_append_getElem hi, List.map_append]
  rfl
 ·refine wc_exit (then_exit (then_exit (block_hit ?_)))
  refine then_go ?_
  refine wc_seq ?_
  refine wc_region ?_
  refine wl_val (v_move' (by conv => (lhs; whnf))) rfl ?_
  refine wl_val (v_assign' (by conv => (lhs; whnf))) rfl ?_
  refine wl_nil ?_
  refine then_go ?_
  refine wc_ret ?_
  have hiN : i = N.length := by omega
  subst hiN
  rw [List.take_length] at hA
  exact ret1 rfl ⟨A, hA, st⟩
theorem c_logGen {g b : Nat} {sl : LG} {lv : Value} (st : St m0 m F w0 w (logB g b sl lv :: Es)) : Ret Try.prog 24 #[.pointer (some ⟨g, 0, none⟩)] w fun v w' => Tch w w' [] [] ∧ v = u64 sl.gen := by
 refine ret_of Try.call24 Try.func24 rfl Try.ntmps24 Try.results24 rfl ?_
 refine wc_seq ?_
 refine wc_region ?_
 refine wl_val (v_assign' (by conv => (lhs; whnf))) rfl ?_
 refine wl_nil ?_
 refine then_go ?_
 refine wc_seq ?_
 refine wc_region ?_
 refine wl_val (v_move' (by conv => (lhs; whnf))) rfl ?_
 refine wl_val (v_nil rfl) rfl ?_
 refine wl_val (v_fa TF.f70_2 rfl) rfl ?_
 refine wl_val (v_load rfl (st.reads (v := u64 sl.gen) 0 rfl TF.t42 rfl)) rfl ?_
 refine wl_val (v_assign' (by conv => (lhs; whnf))) rfl ?_
 refine wl_nil ?_
 refine then_go ?_
 refine wc_ret ?_
 exact ret1 rfl ⟨Tch.refl _ _, rfl⟩
end
end Go.Proofs.Ytnaoafogdplnaaa

namespace Go.Proofs.Ytnaoafogdplnaaa
open Go Go.RowKit K SH DK JR
namespace JR
theorem splice_get {S l : By} {o i : Nat} (h : o + l.length ≤ S.length) : (splice S o l)[i]? = if i < o then S[i]? else if i < o + l.length then l[i - o]? else S[i]? := by
 unfold splice
 have h1 : (S.take o).length = o := by rw [List.length_take]; omega
 by_cases a : i < o
 ·rw [if_pos a, List.append_assoc, List.getElem?_append_left (by omega), List.getElem?_take_of_lt a]
 ·rw [if_neg a]
  by_cases c : i < o + l.length
  ·rw [if_pos c, List.getElem?_append_left (by rw [List.length_append]; omega), List.getElem?_append_right (by omega), h1]
  ·rw [if_neg c, List.getElem?_append_right (by rw [List.length_append]; omega), List.length_append, h1, List.getElem?_drop]
   congr 1
   omega
theorem halfB_get {b : By} {n k i : Nat} : (halfB b n k)[i]? = if i < n then b[k * n + i]? else none := by
 unfold halfB
 rw [List.getElem?_take]
 split
 ·rw [List.getElem?_drop]
 ·rfl
theorem halfB_len {b : By} {n k : Nat} (hk : k ≤ 1) (h : 2 * n ≤ b.length) : (halfB b n k).length = n := by
 unfold halfB
 rw [List.length_take, List.length_drop]
 rcases Nat.le_one_iff_eq_zero_or_eq_one.1 hk with h | h <;> subst h <;> omega
theorem half_other {S l : By} {H k a : Nat} (hk : k ≤ 1) (h : 2 * H ≤ S.length) (ha : a + l.length ≤ H) : halfB (splice S (k * H + a) l) H (1 - k) = halfB S H (1 - k) := by
 apply List.ext_getElem?
 intro i
 rw [halfB_get, halfB_get]
 split
 ·rcases Nat.le_one_iff_eq_zero_or_eq_one.1 hk with hk | hk <;> subst hk
  ·rw [splice_get (by omega), if_neg (by omega), if_neg (by omega)]
  ·rw [splice_get (by omega), if_pos (by omega)]
 ·rfl
theorem half_same {S l : By} {H k a : Nat} (hk : k ≤ 1) (h : 2 * H ≤ S.length) (ha : a + l.length ≤ H) : halfB (splice S (k * H + a) l) H k = splice (halfB S H k) a l := by
 have hkl : k * H ≤ H := by rcases Nat.le_one_iff_eq_zero_or_eq_one.1 hk with hk | hk <;> subst hk <;> omega
 apply List.ext_getElem?
 intro i
 have e : (splice (halfB S H k) a l)[i]? = if i < a then (halfB S H k)[i]? else if i < a + l.length then l[i - a]? else (halfB S H k)[i]? := splice_get (by rw [halfB_len hk h]; exact ha)
 rw [e, halfB_get, halfB_get, splice_get (by omega)]
 by_cases c : i < H
 ·simp only [if_pos c]
  by_cases c1 : i < a
  ·rw [if_pos c1, if_pos (by omega)]
  ·rw [if_neg c1, if_neg (by omega)]
   by_cases c2 : i < a + l.length
   ·rw [if_pos c2, if_pos (by omega)]; congr 1; omega
   ·rw [if_neg c2, if_neg (by omega)]
 ·rw [if_neg c, if_neg (by omega), if_neg (by omega), if_neg c]
structure LogOk (n : Nat) (S : By) (s : LG) (L : List By) : Prop where
 len : S.length = 64 * n
 n8 : 8 ≤ n
 nle : n ≤ 16384
 half : s.half ≤ 1
 fin : s.fin = 64 + sizeL L
 fit : 64 + sizeL L ≤ n / 2 * 64
 here : halfB S (n / 2 * 64) s.half = headB s.gen ++ (allB s.gen 0 L ++ List.replicate (n / 2 * 64 - 64 - sizeL L) 0)
 gen : 0 < s.gen.toNat
 other : (begF (halfB S (n / 2 * 64) (1 - s.half))).toNat < s.gen.toNat + (1 - s.half)
 okr : Okr L
theorem nextF_zeros {g s : UInt64} {k : Nat} : nextF g s (List.replicate k 0) = none := nextF_zero (by rw [List.drop_replicate, rd8_zero]; rfl)
section
variable {n : Nat} {S : By} {s : LG} {L : List By}
theorem LogOk.pick (h : LogOk n S s L) : pickF S (n / 2 * 64) = (s.half, s.gen) := by
 have hb : begF (halfB S (n / 2 * 64) s.half) = s.gen := by rw [h.here]; exact begF_head h.gen
 have ho := h.other
 unfold pickF
 rcases Nat.le_one_iff_eq_zero_or_eq_one.1 h.half with hk | hk
 ·rw [hk] at hb ho ⊢
  have ho : (begF (halfB S (n / 2 * 64) 1)).toNat < s.gen.toNat + 1 := ho
  rw [hb, if_neg]
  intro hlt
  have := UInt64.lt_iff_toNat_lt.1 hlt
  omega
 ·rw [hk] at hb ho ⊢
  have ho : (begF (halfB S (n / 2 * 64) 0)).toNat < s.gen.toNat := ho
  rw [hb, if_pos (UInt64.lt_iff_toNat_lt.2 ho)]
theorem okr_small {L : List By} (h : Okr L) : ∀ x ∈ L, 1 ≤ x.length ∧ x.length < 18446744073709551616 := fun x hx => ⟨(h x hx).1, by have := (h x hx).2; omega⟩
theorem recs_here {H : By} {g : UInt64} {L : List By} {k : Nat} (h : H = headB g ++ (allB g 0 L ++ List.replicate k 0)) (ho : Okr L) : recs g H = L := by
 unfold recs
 have e : H.drop 64 = allB g 0 L ++ List.replicate k 0 := by rw [h]; exact List.drop_left' (length_headB g)
 rw [e]
 refine recs_all (okr_small ho) nextF_zeros ?_
 rw [h, List.length_append, List.length_append, length_allB]
 have := sizeL_ge (l := L)
 omega
theorem LogOk.recs (h : LogOk n S s L) : recs s.gen (halfB S (n / 2 * 64) s.half) = L := recs_here h.here h.okr
theorem hlf_eq {n : Nat} : 64 * n / 64 / 2 * 64 = n / 2 * 64 := by omega
theorem LogOk.app (h : LogOk n S s L) {x : By} : ∃ S' s', appD n (calm S) s L x = (calm S', s', ((appR L x n : Nat) : Int)) ∧ LogOk n S' s' (if appR L x n = 0 then L ++ [x] else L) ∧ s'.gen = s.gen ∧ s'.half = s.half := by
 have hn := h.n8
 have hfit := h.fit
 have hfin := h.fin
 by_cases hc : checkE x ≠ 0
 ·have hR : appR L x n = 1 := by unfold appR; rw [if_pos hc]
  rw [hR]
  exact ⟨S, s, by unfold appD; rw [if_pos hc]; rfl, by rw [if_neg (by decide)]; exact h, rfl, rfl⟩
 ·by_cases hf : n / 2 * 64 < s.fin + recL x.length
  ·have hR : appR L x n = 13 := by unfold appR; rw [if_neg hc, sizeL_snoc, if_neg (by omega)]
   rw [hR]
   exact ⟨S, s, by unfold appD; rw [if_neg hc, if_pos hf]; rfl, by rw [if_neg (by decide)]; exact h, rfl, rfl⟩
  ·have hR : appR L x n = 0 := by unfold appR; rw [if_neg hc, sizeL_snoc, if_pos (by omega)]
   rw [hR]
   have hrl := length_recB s.gen (UInt64.ofNat L.length) x
   have hk := h.half
   have hmod := sizeL_mod (l := L)
   have hpos : 64 * ((s.half * (n / 2 * 64) + s.fin) / 64) = s.half * (n / 2 * 64) + s.fin := by rcases Nat.le_one_iff_eq_zero_or_eq_one.1 hk with hk | hk <;> rw [hk] <;> omega
   have hle : s.half * (n / 2 * 64) ≤ n / 2 * 64 := by rcases Nat.le_one_iff_eq_zero_or_eq_one.1 hk with hk | hk <;> rw [hk] <;> omega
   have h2 : 2 * (n / 2 * 64) ≤ S.length := by rw [h.len]; omega
   have hput : putD n (calm S) ((s.half * (n / 2 * 64) + s.fin) / 64) (recB s.gen (UInt64.ofNat L.length) x) = (calm (splice S (s.half * (n / 2 * 64) + s.fin) (recB s.gen (UInt64.ofNat L.length) x)), 0) := by
    rw [put_calm h.len (by rw [hrl]; unfold recL; omega) (by rw [hpos, hrl]; omega), hpos]
   refine ⟨splice S (s.half * (n / 2 * 64) + s.fin) (recB s.gen (UInt64.ofNat L.length) x), { s with fin := s.fin + recL x.length }, by unfold appD; rw [if_neg hc, if_neg hf, hput, if_neg (by simp)]; rfl, ?_, rfl, rfl⟩
   rw [if_pos rfl]
   have hz : n / 2 * 64 - 64 - sizeL L = recL x.length + (n / 2 * 64 - 64 - sizeL (L ++ [x])) := by rw [sizeL_snoc]; omega
   refine ⟨by rw [length_splice (by rw [hrl, h.len]; omega)]; exact h.len, hn, h.nle, hk, by rw [sizeL_snoc]; show s.fin + recL x.length = _; omega, by rw [sizeL_snoc]; omega, ?_, h.gen, ?_, ?_⟩
   ·show halfB (splice S (s.half * (n / 2 * 64) + s.fin) _) _ s.half = _
    rw [half_same hk h2 (by rw [hrl]; omega), h.here, hz, ← List.replicate_append_replicate]
    have hl : (headB s.gen ++ allB s.gen 0 L).length = s.fin := by rw [List.length_append, length_headB, length_allB]; omega
    unfold splice
    rw [← List.append_assoc (headB s.gen), ← List.append_assoc (headB s.gen ++ allB s.gen 0 L)]
    rw [List.append_assoc (headB s.gen ++ allB s.gen 0 L), List.take_left' hl, ← List.append_assoc (headB s.gen ++ allB s.gen 0 L)]
    rw [List.drop_left' (by rw [List.length_append, hl, List.length_replicate, hrl])]
    rw [allB_snoc, Nat.zero_add, List.append_assoc, List.append_assoc, List.append_assoc]
   ·show (begF (halfB (splice S (s.half * (n / 2 * 64) + s.fin) _) _ (1 - s.half))).toNat < s.gen.toNat + (1 - s.half)
    rw [half_other hk h2 (by rw [hrl]; omega)]
    exact h.other
   ·intro y hy
    rcases List.mem_append.1 hy with hy | hy
    ·exact h.okr y hy
    ·rw [List.mem_singleton.1 hy]; exact checkE_len hc
theorem over_ok (hl : S.length = 64 * n) (hn : 8 ≤ n) (hn2 : n ≤ 16384) (hk : s.half ≤ 1) (hg : (begF (halfB S (n / 2 * 64) s.half)).toNat ≤ s.gen.toNat) (hg2 : s.gen.toNat + 1 < 18446744073709551616) (ho : Okr L) :
  (sizeL L ≤ n / 2 * 64 - 64 → ∃ S', overD n (calm S) s L = (calm S', ⟨1 - s.half, s.gen + 1, 64 + sizeL L⟩, 0) ∧ LogOk n S' ⟨1 - s.half, s.gen + 1, 64 + sizeL L⟩ L) ∧ (¬ sizeL L ≤ n / 2 * 64 - 64 → overD n (calm S) s L = (calm S, s, 13)) := by
 refine ⟨fun hf => ?_, fun hf => by unfold overD; rw [if_pos (by omega)]⟩
 obtain ⟨hh, hhe⟩ : ∃ hh, hh = 1 - s.half := ⟨_, rfl⟩
 obtain ⟨H, hH⟩ : ∃ H, H = n / 2 * 64 := ⟨_, rfl⟩
 have hh1 : hh ≤ 1 := by omega
 have hback : 1 - hh = s.half := by omega
 have h64 : 64 * (hh * (n / 2)) = hh * H := by rcases Nat.le_one_iff_eq_zero_or_eq_one.1 hh1 with h | h <;> rw [h] <;> omega
 have h65 : 64 * (hh * (n / 2) + 1) = hh * H + 64 := by omega
 have hle : hh * H ≤ H := by rcases Nat.le_one_iff_eq_zero_or_eq_one.1 hh1 with h | h <;> rw [h] <;> omega
 have hmod := sizeL_mod (l := L)
 obtain ⟨Z, hZ⟩ : ∃ Z : By, Z = List.replicate H 0 := ⟨_, rfl⟩
 have hZl : Z.length = H := by rw [hZ, List.length_replicate]
 obtain ⟨B, hB⟩ : ∃ B, B = allB (s.gen + 1) 0 L := ⟨_, rfl⟩
 have hBl : B.length = sizeL L := by rw [hB, length_allB]
 obtain ⟨D, hD⟩ : ∃ D, D = headB (s.gen + 1) := ⟨_, rfl⟩
 have hDl : D.length = 64 := by rw [hD, length_headB]
 have p1 : putD n (calm S) (hh * (n / 2)) Z = (calm (splice S (hh * H + 0) Z), 0) := by rw [put_calm hl (by omega) (by omega), h64, Nat.add_zero]
 have l1 : (splice S (hh * H + 0) Z).length = 64 * n := by rw [length_splice (by omega)]; exact hl
 have p2 : putD n (calm (splice S (hh * H + 0) Z)) (hh * (n / 2) + 1) B = (calm (splice (splice S (hh * H + 0) Z) (hh * H + 64) B), 0) := by rw [put_calm l1 (by omega) (by omega), h65]
 have l2 : (splice (splice S (hh * H + 0) Z) (hh * H + 64) B).length = 64 * n := by rw [length_splice (by omega)]; exact l1
 have p3 : putD n (calm (splice (splice S (hh * H + 0) Z) (hh * H + 64) B)) (hh * (n / 2)) D = (calm (splice (splice (splice S (hh * H + 0) Z) (hh * H + 64) B) (hh * H + 0) D), 0) := by rw [put_calm l2 (by omega) (by omega), h64, Nat.add_zero]
 have hov : overD n (calm S) s L = (calm (splice (splice (splice S (hh * H + 0) Z) (hh * H + 64) B) (hh * H + 0) D), ⟨hh, s.gen + 1, 64 + sizeL L⟩, 0) := by
  unfold overD
  rw [← hhe, ← hH, ← hZ, ← hB, ← hD, if_neg (by omega)]
  simp only [p1, p2, p3]
  rfl
 refine ⟨_, by rw [← hhe]; exact hov, ?_⟩
 rw [← hhe]
 have hgs : (s.gen + 1).toNat = s.gen.toNat + 1 := by rw [UInt64.toNat_add]; show (s.gen.toNat + 1) % 18446744073709551616 = _; omega
 refine ⟨by rw [length_splice (by omega)]; exact l2, hn, hn2, hh1, rfl, by omega, ?_, by show 0 < (s.gen + 1).toNat; omega, ?_, ho⟩
 ·show halfB _ (n / 2 * 64) hh = _
  rw [← hH, half_same hh1 (by omega) (by omega), half_same hh1 (by omega) (by omega), half_same hh1 (by omega) (by omega)]
  have hs := halfB_len (b := S) hh1 (show 2 * H ≤ S.length by omega)
  have e1 : splice (halfB S H hh) 0 Z = Z := by
   unfold splice
   rw [List.drop_of_length_le (by omega)]
   simp
  rw [e1]
  have e2 : splice Z 64 B = List.replicate 64 0 ++ (B ++ List.replicate (H - 64 - sizeL L) 0) := by
   unfold splice
   rw [hZ, List.take_replicate, List.drop_replicate, Nat.min_eq_left (by omega), List.append_assoc, hBl]
   congr 3
   omega
  rw [e2]
  unfold splice
  rw [Nat.zero_add, List.drop_left' (by rw [List.length_replicate, hDl]), List.take_zero, List.nil_append, hD, hB]
 ·show (begF (halfB _ (n / 2 * 64) (1 - hh))).toNat < (s.gen + 1).toNat + (1 - hh)
  rw [← hH, half_other hh1 (by omega) (by omega), half_other hh1 (by omega) (by omega), half_other hh1 (by omega) (by omega), hback, hH]
  omega
theorem LogOk.res (h : LogOk n S s L) (hg2 : s.gen.toNat + 1 < 18446744073709551616) {M : List By} : ∃ S' s', resD n (calm S) s M = (calm S', s', ((resR M n : Nat) : Int)) ∧ LogOk n S' s' (if resR M n = 0 then M else L) ∧ s'.gen = (if resR M n = 0 then s.gen + 1 else s.gen) := by
 unfold resD resR
 by_cases hb : ∃ b ∈ M, checkE b ≠ 0
 ·rw [if_pos hb, if_pos hb]
  exact ⟨S, s, rfl, by rw [if_neg (by decide)]; exact h, by rw [if_neg (by decide)]⟩
 ·rw [if_neg hb, if_neg hb]
  have ho : Okr M := fun x hx => checkE_len fun hz => hb ⟨x, hx, hz⟩
  have hbe : begF (halfB S (n / 2 * 64) s.half) = s.gen := by rw [h.here]; exact begF_head h.gen
  obtain ⟨o1, o2⟩ := over_ok (L := M) h.len h.n8 h.nle h.half (by rw [hbe]; exact Nat.le_refl _) hg2 ho
  by_cases hf : sizeL M ≤ n / 2 * 64 - 64
  ·obtain ⟨S', h1, h2⟩ := o1 hf
   rw [if_pos hf]
   exact ⟨S', _, h1, by rw [if_pos rfl]; exact h2, by rw [if_pos rfl]⟩
  ·rw [if_neg hf]
   exact ⟨S, s, o2 hf, by rw [if_neg (by decide)]; exact h, by rw [if_neg (by decide)]⟩
def openD (n : Nat) (S : By) : DS × LG × List By × Int :=
  if (pickF S (n / 2 * 64)).2 = 0 then ((overD n (calm S) ⟨1, 0, 0⟩ []).1, (overD n (calm S) ⟨1, 0, 0⟩ []).2.1, [], (overD n (calm S) ⟨1, 0, 0⟩ []).2.2) else
  if ∃ c ∈ (halfB S (n / 2 * 64) (pickF S (n / 2 * 64)).1).drop (64 + sizeL (JR.recs (pickF S (n / 2 * 64)).2 (halfB S (n / 2 * 64) (pickF S (n / 2 * 64)).1))), c ≠ 0 then
    ((overD n (calm S) ⟨(pickF S (n / 2 * 64)).1, (pickF S (n / 2 * 64)).2, 64 + sizeL (JR.recs (pickF S (n / 2 * 64)).2 (halfB S (n / 2 * 64) (pickF S (n / 2 * 64)).1))⟩ (JR.recs (pickF S (n / 2 * 64)).2 (halfB S (n / 2 * 64) (pickF S (n / 2 * 64)).1))).1,
     (overD n (calm S) ⟨(pickF S (n / 2 * 64)).1, (pickF S (n / 2 * 64)).2, 64 + sizeL (JR.recs (pickF S (n / 2 * 64)).2 (halfB S (n / 2 * 64) (pickF S (n / 2 * 64)).1))⟩ (JR.recs (pickF S (n / 2 * 64)).2 (halfB S (n / 2 * 64) (pickF S (n / 2 * 64)).1))).2.1,
     JR.recs (pickF S (n / 2 * 64)).2 (halfB S (n / 2 * 64) (pickF S (n / 2 * 64)).1),
     (overD n (calm S) ⟨(pickF S (n / 2 * 64)).1, (pickF S (n / 2 * 64)).2, 64 + sizeL (JR.recs (pickF S (n / 2 * 64)).2 (halfB S (n / 2 * 64) (pickF S (n / 2 * 64)).1))⟩ (JR.recs (pickF S (n / 2 * 64)).2 (halfB S (n / 2 * 64) (pickF S (n / 2 * 64)).1))).2.2)
  else (calm S, ⟨(pickF S (n / 2 * 64)).1, (pickF S (n / 2 * 64)).2, 64 + sizeL (JR.recs (pickF S (n / 2 * 64)).2 (halfB S (n / 2 * 64) (pickF S (n / 2 * 64)).1))⟩, JR.recs (pickF S (n / 2 * 64)).2 (halfB S (n / 2 * 64) (pickF S (n / 2 * 64)).1), 0)
theorem pick_le {H : Nat} : (begF (halfB S H (1 - (pickF S H).1))).toNat ≤ (pickF S H).2.toNat ∧ begF (halfB S H (pickF S H).1) = (pickF S H).2 ∧ ((pickF S H).1 = 1 → (begF (halfB S H 0)).toNat < (pickF S H).2.toNat) := by
 unfold pickF
 split
 ·rename_i h
  have := UInt64.lt_iff_toNat_lt.1 h
  exact ⟨Nat.le_of_lt this, rfl, fun _ => this⟩
 ·rename_i h
  refine ⟨?_, rfl, fun h => by cases h⟩
  rcases Nat.lt_or_ge (begF (halfB S H 0)).toNat (begF (halfB S H 1)).toNat with h' | h'
  ·exact (h (UInt64.lt_iff_toNat_lt.2 h')).elim
  ·exact h'
theorem open_ok (hl : S.length = 64 * n) (hn : 8 ≤ n) (hn2 : n ≤ 16384) (hg : (pickF S (n / 2 * 64)).2.toNat + 1 < 18446744073709551616) :
  ∃ S' s' L, openD n S = (calm S', s', L, 0) ∧ LogOk n S' s' L ∧ (readF S).2.1 = L ∧ (s'.gen = (readF S).1 ∨ s'.gen = (readF S).1 + 1) ∧ s'.gen.toNat ≤ (pickF S (n / 2 * 64)).2.toNat + 1 := by
 obtain ⟨H, hH⟩ : ∃ H, H = n / 2 * 64 := ⟨_, rfl⟩
 have hrd : readF S = if (pickF S H).2 = 0 then (0, [], 0) else ((pickF S H).2, JR.recs (pickF S H).2 (halfB S H (pickF S H).1), 0) := by
  unfold readF
  rw [hl, hlf_eq, ← hH, if_neg (by omega)]
 rw [← hH] at hg
 rw [hrd, ← hH]
 obtain ⟨q1, q2, q3⟩ := pick_le (S := S) (H := H)
 have hk := pickF_le (b := S) (n := H)
 unfold openD
 rw [← hH]
 obtain ⟨k, hke⟩ : ∃ k, k = (pickF S H).1 := ⟨_, rfl⟩
 obtain ⟨g, hge⟩ : ∃ g, g = (pickF S H).2 := ⟨_, rfl⟩
 rw [← hke, ← hge] at q1 q2 q3 ⊢
 rw [← hge] at hg
 rw [← hke] at hk
 by_cases hg0 : g = 0
 ·rw [if_pos hg0, if_pos hg0]
  have hb1 : (begF (halfB S H 1)).toNat ≤ 0 := by
   rw [hg0] at q1 q2
   rcases Nat.le_one_iff_eq_zero_or_eq_one.1 hk with h | h
   ·rw [h] at q1; exact q1
   ·rw [h] at q2; rw [q2]; exact Nat.le_refl _
  obtain ⟨o1, _⟩ := over_ok (n := n) (S := S) (s := ⟨1, 0, 0⟩) (L := []) hl hn hn2 (Nat.le_refl _) (by rw [← hH]; exact hb1) (by decide) (by intro x hx; cases hx)
  obtain ⟨S', h1, h2⟩ := o1 (Nat.zero_le _)
  rw [h1]
  exact ⟨S', _, [], rfl, h2, rfl, .inr rfl, by rw [hg0]; exact Nat.le_refl _⟩
 ·rw [if_neg hg0, if_neg hg0]
  have hgp : 0 < g.toNat := by
   rcases Nat.eq_zero_or_pos g.toNat with h | h
   ·exact (hg0 (UInt64.toNat_inj.1 h)).elim
   ·exact h
  obtain ⟨half, hhf⟩ : ∃ half, half = halfB S H k := ⟨_, rfl⟩
  have hhl : half.length = H := by rw [hhf]; exact halfB_len hk (by omega)
  rw [← hhf] at q2 ⊢
  obtain ⟨r1, r2, r3, r4⟩ := recs_there (g := g) (f := half.length) (k := 0) (b := half.drop 64) (by rw [List.length_drop]; omega)
  have hrl : recsF g half.length 0 (half.drop 64) = JR.recs g half := rfl
  rw [hrl] at r1 r2 r3 r4
  rw [List.length_drop] at r1 r4
  obtain ⟨L, hL⟩ : ∃ L, L = JR.recs g half := ⟨_, rfl⟩
  rw [← hL] at r1 r2 r3 r4 ⊢
  have ho : Okr L := fun x hx => ⟨(r4 x hx).1, by have := (r4 x hx).2; omega⟩
  have hmod := sizeL_mod (l := L)
  by_cases hnz : ∃ c ∈ half.drop (64 + sizeL L), c ≠ 0
  ·rw [if_pos hnz]
   obtain ⟨o1, _⟩ := over_ok (n := n) (S := S) (s := ⟨k, g, 64 + sizeL L⟩) (L := L) hl hn hn2 hk (by rw [← hH, ← hhf, q2]; exact Nat.le_refl _) hg ho
   obtain ⟨S', h1, h2⟩ := o1 (by omega)
   rw [h1]
   exact ⟨S', _, L, rfl, h2, rfl, .inr rfl, by show (g + 1).toNat ≤ _; rw [UInt64.toNat_add]; show (g.toNat + 1) % 18446744073709551616 ≤ _; omega⟩
  ·rw [if_neg hnz]
   refine ⟨S, _, L, rfl, ⟨hl, hn, hn2, hk, rfl, by omega, ?_, hgp, ?_, ho⟩, rfl, .inl rfl, Nat.le_succ _⟩
   ·show halfB S (n / 2 * 64) k = headB g ++ (allB g 0 L ++ List.replicate (n / 2 * 64 - 64 - sizeL L) 0)
    rw [← hH, ← hhf, ← begF_is q2 hgp, ← r2]
    have hz : half.drop (64 + sizeL L) = List.replicate (H - 64 - sizeL L) 0 := by
     rw [List.eq_replicate_iff]
     refine ⟨by rw [List.length_drop]; omega, fun c hc => ?_⟩
     by_cases hc0 : c = 0
     ·exact hc0
     ·exact (hnz ⟨c, hc, hc0⟩).elim
    rw [← hz, ← List.drop_drop, List.take_append_drop, List.take_append_drop]
   ·show (begF (halfB S (n / 2 * 64) (1 - k))).toNat < g.toNat + (1 - k)
    rw [← hH]
    rcases Nat.le_one_iff_eq_zero_or_eq_one.1 hk with h | h
    ·rw [h] at q1 ⊢; omega
    ·rw [h]; exact q3 h
theorem LogOk.opens (h : LogOk n S s L) : openD n S = (calm S, s, L, 0) := by
 have hp := h.pick
 have hr := h.recs
 unfold openD
 rw [hp]
 show (if s.gen = 0 then _ else if ∃ c ∈ (halfB S (n / 2 * 64) s.half).drop (64 + sizeL (JR.recs s.gen (halfB S (n / 2 * 64) s.half))), c ≠ 0 then _ else (calm S, (⟨s.half, s.gen, 64 + sizeL (JR.recs s.gen (halfB S (n / 2 * 64) s.half))⟩ : LG), JR.recs s.gen (halfB S (n / 2 * 64) s.half), (0 : Int))) = _
 rw [hr, if_neg (fun e => by have := h.gen; rw [e] at this; exact absurd this (by decide)), if_neg]
 ·have hf := h.fin
  cases s
  simp only at hf
  rw [hf]
 ·rintro ⟨c, hc, hc0⟩
  rw [h.here, ← List.append_assoc, List.drop_left' (by rw [List.length_append, length_headB, length_allB])] at hc
  exact hc0 (List.mem_replicate.1 hc).2
theorem begF_zeros {k : Nat} : begF (List.replicate k 0) = 0 := by
 unfold begF
 rw [List.drop_replicate, rd8_zero, if_neg (fun h => absurd h.1 (by decide))]
theorem open_new {n : Nat} (hn : 8 ≤ n) (hn2 : n ≤ 16384) : ∃ S' s', openD n (List.replicate (64 * n) 0) = (calm S', s', [], 0) ∧ LogOk n S' s' [] ∧ s'.gen = 1 := by
 have hp : (pickF (List.replicate (64 * n) 0) (n / 2 * 64)).2 = 0 := by
  unfold pickF halfB
  rw [List.drop_replicate, List.take_replicate, List.drop_replicate, List.take_replicate, begF_zeros, begF_zeros]
  rfl
 obtain ⟨S', s', L, h1, h2, h3, _, h5⟩ := open_ok (S := List.replicate (64 * n) 0) (by simp) hn hn2 (by rw [hp]; decide)
 have hL : L = [] := by
  rw [← h3]
  unfold readF
  rw [List.length_replicate, hlf_eq, if_neg (by omega), if_pos hp]
 subst hL
 refine ⟨S', s', h1, h2, ?_⟩
 rw [hp] at h5
 have := h2.gen
 have h5 : s'.gen.toNat ≤ 1 := h5
 exact UInt64.toNat_inj.1 (show s'.gen.toNat = 1 by omega)
end
end JR
end Go.Proofs.Ytnaoafogdplnaaa

namespace Go.Proofs.Ytnaoafogdplnaaa
open Go Go.RowKit K SH DK JR
section
variable {m0 m : Mem} {F : List Nat} {w0 w : World} {Es : List Ent}
theorem ok_calm {n : Nat} {S : By} (hl : S.length = 64 * n) (h1 : 1 ≤ n) (h2 : n ≤ 16384) : (calm S).ok n := ⟨h1, hl, h2, by intro x hx; cases hx⟩
theorem rdy_calm {n k : Nat} {S : By} (hl : S.length = 64 * n) (h1 : 1 ≤ n) (h2 : n ≤ 16384) : Rdy n (calm S) k := ⟨ok_calm hl h1 h2, ⟨Int.le_refl _, show (-1 : Int) ≤ 9223372036854775807 by decide⟩, Nat.zero_le _⟩
def OpenOut (m0 m : Mem) (w0 w' : World) (Es : List Ent) (b s n : Nat) (o : DS × LG × List By × Int) (v : Value) : Prop :=
 ∃ m' wv' g lv' N', (∀ k o, m k = some o → m' k = some o) ∧ v = .tuple #[.pointer (some ⟨g, 0, none⟩), .int .i64 o.2.2.2] ∧ Pcs m' N' ∧ N'.map (·.1) = o.2.2.1 ∧ St m0 m' [] w0 w' (logB g b o.2.1 lv' :: lrE lv' N' :: diskO b s n wv' o.1 :: Es)
theorem c_open {b s n : Nat} {wv : Value} {S : By} (st : St m0 m [] w0 w (diskO b s n wv (calm S) :: Es)) (hl : S.length = 64 * n) (hn : 8 ≤ n) (hn2 : n ≤ 16384) (h0 : (openD n S).2.2.2 = 0) :
  Ret Try.prog 17 #[.pointer (some ⟨b, 0, none⟩)] w fun v w' => OpenOut m0 m w0 w' Es b s n (openD n S) v := by
 have ok := ok_calm (n := n) hl (by omega) hn2
 have hr : Rdy n (calm S) 100000 := rdy_calm hl (by omega) hn2
 have hmm0 : ∀ k o, m k = some o → m k = some o := fun _ _ h => h
 have hop := openD.eq_1 n S
 refine ret_of Try.call17 Try.func17 rfl Try.ntmps17 Try.results17 rfl ?_
 refine wc_seq ?_
 refine wc_region ?_
 refine wl_val (v_assign' (by conv => (lhs; whnf))) rfl ?_
 refine wl_val (v_assign' (by conv => (lhs; whnf))) rfl ?_
 refine wl_nil ?_
 refine then_go ?_
 refine wc_seq ?_
 refine wc_seq ?_
 refine wc_region ?_
 refine wl_val (v_move' (by conv => (lhs; whnf))) rfl ?_
 refine wl_val (v_eq_nil (p := some ⟨b, 0, none⟩) Try.underlying23 rfl rfl) rfl ?_
 refine wl_val (v_move' (by conv => (lhs; whnf))) rfl ?_
 refine wl_on rfl rfl ?_
 refine wl_val (v_move' (by conv => (lhs; whnf))) rfl ?_
 refine wl_on rfl rfl ?_
 refine wl_call rfl (c_size (im_heapM _) (disk_at 0 st rfl ok)) rfl ?_
 rintro v14 w ⟨rfl, rfl⟩
 refine wl_on rfl rfl ?_
 refine wl_val (v_lss rfl rfl) rfl ?_
 refine wl_val (v_pick rfl) rfl ?_
 refine wl_nil ?_
 refine then_go ?_
 refine wc_false (congrArg Value.bool (decide_eq_false (by omega))) ?_
 refine wc_skip ?_
 refine then_go ?_
 refine wc_seq ?_
 refine wc_region ?_
 refine wl_val (v_move' (by conv => (lhs; whnf))) rfl ?_
 refine wl_call rfl (c_dump (im_heapM _) (disk_at 0 st rfl ok)) rfl ?_
 rintro v18 w ⟨t18, m1, hf1, hi1, hS⟩
 obtain ⟨m2, hmm2, hm12, st⟩ := st.absorb t18 hf1 hi1
 have hS : SlM m2 v18 1 S.length (bs S) := hS.mono hm12
 obtain ⟨sa, sc, hv18, hsc⟩ := hS.opn
 subst hv18
 refine wl_val (v_assign' (by conv => (lhs; whnf))) rfl ?_
 refine wl_nil ?_
 refine then_go ?_
 refine wc_seq ?_
 refine wc_region ?_
 refine wl_val (v_move' (by conv => (lhs; whnf))) rfl ?_
 refine wl_val (v_build (c' := #[.pointer (some ⟨b, 0, none⟩), .int .i64 0, .int .u64 0, .int .i64 0, .slice none 0 0]) [(0, .pointer (some ⟨b, 0, none⟩))] TF.z70 TF.p70 rfl ⟨0, 1, rfl, rfl, by decide, rfl⟩) rfl ?_
 refine wl_box (v := .agg #[.pointer (some ⟨b, 0, none⟩), .int .i64 0, .int .u64 0, .int .i64 0, .slice none 0 0]) rfl st rfl ?_
 intro g w st
 have st : St m0 m2 [] w0 w (logB g b ⟨0, 0, 0⟩ (.slice none 0 0) :: diskO b s n wv (calm S) :: Es) := st
 refine wl_val (v_assign' (by conv => (lhs; whnf))) rfl ?_
 refine wl_nil ?_
 refine then_go ?_
 refine wc_seq ?_
 refine wc_region ?_
 refine wl_val (v_move' (by conv => (lhs; whnf))) rfl ?_
 refine wl_call rfl (c_lsize st ok) rfl ?_
 rintro v23 w ⟨t23, rfl⟩
 have st := st.pure t23
 obtain ⟨H, hH⟩ : ∃ H, H = n / 2 * 64 := ⟨_, rfl⟩
 rw [← hH]
 refine wl_val (v_assign' (by conv => (lhs; whnf))) rfl ?_
 refine wl_nil ?_
 refine then_go ?_
 refine wc_seq ?_
 refine wc_region ?_
 refine wl_val (v_move' (by conv => (lhs; whnf))) rfl ?_
 refine wl_val (v_move' (by conv => (lhs; whnf))) rfl ?_
 refine wl_val (v_move' (by conv => (lhs; whnf))) rfl ?_
 refine wl_val (v_move' (by conv => (lhs; whnf))) rfl ?_
 refine wl_call rfl (c_pick (n := H) st.im hS (by omega) (by omega) (by omega)) rfl ?_
 rintro v29 w ⟨t29, rfl⟩
 have st := st.pure t29
 obtain ⟨q1, q2, q3⟩ := pick_le (S := S) (H := H)
 have hk := pickF_le (b := S) (n := H)
 obtain ⟨k, hke⟩ : ∃ k, k = (pickF S H).1 := ⟨_, rfl⟩
 obtain ⟨gn, hge⟩ : ∃ g, g = (pickF S H).2 := ⟨_, rfl⟩
 rw [← hH, ← hke, ← hge] at hop
 rw [← hke, ← hge] at q1 q2 q3 ⊢
 rw [← hke] at hk
 have hkl : k * H ≤ H := by rcases Nat.le_one_iff_eq_zero_or_eq_one.1 hk with h | h <;> rw [h] <;> omega
 refine wl_val (v_move' (by conv => (lhs; whnf))) rfl ?_
 refine wl_val (v_extract rfl rfl) rfl ?_
 refine wl_val (v_extract rfl rfl) rfl ?_
 refine wl_val (v_nil rfl) rfl ?_
 refine wl_val (v_fa TF.f70_1 rfl) rfl ?_
 refine wl_store1 0 st rfl TF.t3 rfl (by conv => (lhs; whnf)) rfl (by first | exact lt_ok rfl | decide | simp) ?_
 intro w st
 refine wl_val (v_nil rfl) rfl ?_
 refine wl_val (v_fa TF.f70_2 rfl) rfl ?_
 refine wl_store1 0 st rfl TF.t42 rfl (by conv => (lhs; whnf)) rfl (by first | exact lt_ok rfl | decide | simp) ?_
 intro w st
 have st : St m0 m2 [] w0 w (logB g b ⟨k, gn, 0⟩ (.slice none 0 0) :: diskO b s n wv (calm S) :: Es) := st
 refine wl_nil ?_
 refine then_go ?_
 refine wc_seq ?_
 refine wc_seq ?_
 refine wc_region ?_
 refine wl_val (v_move' (by conv => (lhs; whnf))) rfl ?_
 refine wl_val (v_nil rfl) rfl ?_
 refine wl_val (v_fa TF.f70_2 rfl) rfl ?_
 refine wl_val (v_load rfl (st.reads (v := u64 gn) 0 rfl TF.t42 rfl)) rfl ?_
 refine wl_val (v_eql64 (q := 0) rfl rfl) rfl ?_
 refine wl_nil ?_
 refine then_go ?_
 refine wc_if rfl (fun h40 => ?_) (fun h40 => ?_)
 ·refine wc_seq ?_
  refine wc_region ?_
  refine wl_val (v_move' (by conv => (lhs; whnf))) rfl ?_
  refine wl_val (v_nil rfl) rfl ?_
  refine wl_val (v_fa TF.f70_1 rfl) rfl ?_
  refine wl_store1 0 st rfl TF.t3 rfl (by conv => (lhs; whnf)) rfl (by first | exact lt_ok rfl | decide | simp) ?_
  intro w st
  have st : St m0 m2 [] w0 w (logB g b ⟨1, gn, 0⟩ (.slice none 0 0) :: diskO b s n wv (calm S) :: Es) := st
  refine wl_nil ?_
  refine then_go ?_
  refine wc_seq ?_
  refine wc_region ?_
  refine wl_val (v_move' (by conv => (lhs; whnf))) rfl ?_
  refine wl_val (v_move' (by conv => (lhs; whnf))) rfl ?_
  rw [if_pos h40] at hop
  rw [h40] at st
  refine wl_call rfl (c_over (N := []) st hr hn (Nat.le_refl _) ⟨SlM.nil, by intro x hx; cases hx⟩ (by intro x hx; cases hx) (Nat.zero_le _)) rfl ?_
  rintro v46 w ⟨m3, wv3, hmm3, rfl, hbad, hok⟩
  have hz : (overD n (calm S) ⟨1, 0, 0⟩ []).2.2 = 0 := by rw [hop] at h0; exact h0
  obtain ⟨lv', N', hP', _, hNN, st⟩ := hok hz
  refine wl_val (v_assign' (by conv => (lhs; whnf))) rfl ?_
  refine wl_val (v_assign' (by conv => (lhs; whnf))) rfl ?_
  refine wl_nil ?_
  refine then_go ?_
  refine wc_ret (then_ret ?_)
  refine ret2 rfl rfl ⟨m3, wv3, g, lv', N', fun k o h => hmm3 k o (hmm2 k o h), by rw [hop]; rfl, hP', by rw [hop]; exact hNN, by rw [hop]; exact st⟩
 ·refine wc_skip ?_
  refine then_go ?_
  refine wc_seq ?_
  rw [if_neg h40] at hop
  obtain ⟨half, hhf⟩ : ∃ half, half = halfB S H k := ⟨_, rfl⟩
  have hhl : half.length = H := by rw [hhf]; exact halfB_len hk (by omega)
  have hh : SlM m2 (.slice (sliceOff sa sc (k * H) 1) half.length (sc - k * H)) 1 half.length (bs half) := by
   have h := hS.partB (k * H) (k * H + H) (by omega) (by omega)
   rw [Nat.add_sub_cancel_left] at h
   rw [hhl]
   have e : (S.drop (k * H)).take H = half := by rw [hhf]; rfl
   rw [e, hhl] at h
   exact h
  rw [← hhf] at hop q2
  refine wc_draw TF.mixed ?_
  have st := st.pure (touch_drew _)
  refine fl_val 0 rfl (fun _ => (v_move' (by conv => (lhs; whnf)))) rfl (by kernel_rfl) ?_
  refine fl_val 1 rfl (fun _ => (v_move' (by conv => (lhs; whnf)))) rfl (by kernel_rfl) ?_
  refine fl_val 2 rfl (fun _ => (v_nil rfl)) rfl (by kernel_rfl) ?_
  refine fl_val 3 rfl (fun _ => (v_fa TF.f70_1 rfl)) rfl (by kernel_rfl) ?_
  refine fl_ld 4 rfl (v_load rfl (st.reads (v := .int .i64 k) 0 rfl TF.t3 rfl)) (by kernel_rfl) ?_
  refine fl_val 5 rfl (fun _ => (v_move' (by conv => (lhs; whnf)))) rfl (by kernel_rfl) ?_
  refine fl_val 6 rfl (fun _ => (v_mul' (c := ((k * H : Nat) : Int)) rfl rfl (Int.natCast_mul _ _).symm (by omega) (by omega))) rfl (by kernel_rfl) ?_
  refine fl_val 7 rfl (fun _ => (v_move' (by conv => (lhs; whnf)))) rfl (by kernel_rfl) ?_
  refine fl_val 8 rfl (fun _ => (v_nil rfl)) rfl (by kernel_rfl) ?_
  refine fl_val 9 rfl (fun _ => (v_fa TF.f70_1 rfl)) rfl (by kernel_rfl) ?_
  refine fl_ld 10 rfl (v_load rfl (st.reads (v := .int .i64 k) 0 rfl TF.t3 rfl)) (by kernel_rfl) ?_
  refine fl_val 11 rfl (fun _ => (v_add' (c := ((k + 1 : Nat) : Int)) rfl rfl (by omega) (by omega) (by omega))) rfl (by kernel_rfl) ?_
  refine fl_val 12 rfl (fun _ => (v_move' (by conv => (lhs; whnf)))) rfl (by kernel_rfl) ?_
  refine fl_val 13 rfl (fun _ => (v_mul' (c := ((k * H + H : Nat) : Int)) rfl rfl (by rw [Int.natCast_add, Int.natCast_add, Int.natCast_mul, Int.add_mul]; omega) (by omega) (by omega))) rfl (by kernel_rfl) ?_
  refine fl_val 14 rfl (fun _ => (v_to (v' := .slice (sliceOff sa sc (k * H) 1) half.length (sc - k * H)) (v_sls (k * H) (k * H + H) Try.underlying30 TF.t5 rfl ⟨_, _, rfl, rfl⟩ ⟨_, _, rfl, rfl⟩ (by omega) (by omega)) (by rw [Nat.add_sub_cancel_left, hhl]))) rfl (by kernel_rfl) ?_
  refine fl_eff1 15 [] [] (by kernel_rfl) ⟨obl_ld rfl rfl rfl (v_load rfl (st.reads (v := .int .i64 k) 0 rfl TF.t3 rfl)), obl_ld rfl rfl rfl (v_load rfl (st.reads (v := .int .i64 k) 0 rfl TF.t3 rfl)), trivial⟩ rfl ?_
  refine wl_val (v_assign' (by conv => (lhs; whnf))) rfl ?_
  refine wl_nil ⟨rfl, ?_⟩
  refine fl_nil (by kernel_rfl) trivial ?_
  refine then_go ?_
  refine wc_seq ?_
  refine wc_region ?_
  refine wl_val (v_move' (by conv => (lhs; whnf))) rfl ?_
  refine wl_val (v_move' (by conv => (lhs; whnf))) rfl ?_
  refine wl_val (v_move' (by conv => (lhs; whnf))) rfl ?_
  refine wl_val (v_nil rfl) rfl ?_
  refine wl_val (v_fa TF.f70_2 rfl) rfl ?_
  refine wl_val (v_load rfl (st.reads (v := u64 gn) 0 rfl TF.t42 rfl)) rfl ?_
  refine wl_val (v_move' (by conv => (lhs; whnf))) rfl ?_
  obtain ⟨L, hL⟩ : ∃ L, L = recs gn half := ⟨_, rfl⟩
  refine wl_call rfl (c_jread st hh (by omega) (by omega)) rfl ?_
  rintro v70 w ⟨m3, lv, N, st, hmm3, hP, hNN, rfl⟩
  obtain ⟨r1, _, _, r4⟩ := recs_there (g := gn) (f := half.length) (k := 0) (b := half.drop 64) (by rw [List.length_drop]; omega)
  have hrl : recsF gn half.length 0 (half.drop 64) = recs gn half := rfl
  rw [hrl, ← hL, List.length_drop] at r1 r4
  rw [← hL] at hNN hop ⊢
  have hLg := sizeL_ge (l := L)
  have hNL : L.length = N.length := by rw [← hNN, List.length_map]
  have st : St m0 m3 [] w0 w (logB g b ⟨k, gn, 0⟩ (.slice none 0 0) :: lrE lv N :: diskO b s n wv (calm S) :: Es) := st.perm (List.Perm.swap _ _ _)
  have hh := hh.mono hmm3
  have hmm3 : ∀ k o, m k = some o → m3 k = some o := fun k o h => hmm3 k o (hmm2 k o h)
  refine wl_val (v_move' (by conv => (lhs; whnf))) rfl ?_
  refine wl_val (v_extract rfl rfl) rfl ?_
  refine wl_val (v_extract rfl rfl) rfl ?_
  refine wl_val (v_nil rfl) rfl ?_
  refine wl_val (v_fa TF.f70_4 rfl) rfl ?_
  refine wl_store1 (v := lv) 0 st rfl TF.t29 rfl rfl (row_one (st.at (i := 1) rfl)) (lt_ok rfl) ?_
  intro w st
  have st : St m0 m3 [] w0 w (logB g b ⟨k, gn, 0⟩ lv :: lrE lv N :: diskO b s n wv (calm S) :: Es) := st
  refine wl_val (v_nil rfl) rfl ?_
  refine wl_val (v_fa TF.f70_3 rfl) rfl ?_
  refine wl_store1 (v := .int .i64 ((64 + sizeL L : Nat) : Int)) 0 st rfl TF.t3 rfl rfl rfl (lt_ok rfl) ?_
  intro w st
  have st : St m0 m3 [] w0 w (logB g b ⟨k, gn, 64 + sizeL L⟩ lv :: lrE lv N :: diskO b s n wv (calm S) :: Es) := st
  refine wl_nil ?_
  refine then_go ?_
  refine wc_seq ?_
  refine wc_seq ?_
  refine wc_region ?_
  refine wl_val (v_move' (by conv => (lhs; whnf))) rfl ?_
  refine wl_val (v_move' (by conv => (lhs; whnf))) rfl ?_
  refine wl_val (v_nil rfl) rfl ?_
  refine wl_val (v_fa TF.f70_3 rfl) rfl ?_
  refine wl_val (v_load rfl (st.reads (v := .int .i64 ((64 + sizeL L : Nat) : Int)) 0 rfl TF.t3 rfl)) rfl ?_
  refine wl_val (v_sls (64 + sizeL L) half.length Try.underlying30 TF.t5 rfl ⟨_, _, rfl, rfl⟩ rfl (by omega) (by omega)) rfl ?_
  refine wl_val (v_len_s Try.underlying30 rfl) rfl ?_
  refine wl_val (v_move' (by conv => (lhs; whnf))) rfl ?_
  refine wl_nil ?_
  refine then_go ?_
  refine wc_block ?_
  have htl := hh.tailB (64 + sizeL L) (by omega)
  obtain ⟨tl, htle⟩ : ∃ tl, tl = half.drop (64 + sizeL L) := ⟨_, rfl⟩
  have htll : tl.length = half.length - (64 + sizeL L) := by rw [htle, List.length_drop]
  rw [← htle] at htl hop
  rw [← htll] at htl ⊢
  obtain ⟨ta, tc, htv⟩ : ∃ a c, Value.slice (sliceOff (sliceOff sa sc (k * H) 1) (sc - k * H) (64 + sizeL L) 1) tl.length (sc - k * H - (64 + sizeL L)) = .slice a tl.length c := ⟨_, _, rfl⟩
  rw [htv] at htl ⊢
  refine wc_loop (S := Nat) (fun q r w' => ∃ (i : Nat), q + i = tl.length ∧ r 5 = .pointer (some ⟨g, 0, none⟩) ∧ r 82 = .slice ta tl.length tc ∧ r 83 = .int .i64 tl.length ∧ r 84 = .int .i64 i ∧ (∀ c ∈ tl.take i, c = 0) ∧ St m0 m3 [] w0 w' (logB g b ⟨k, gn, 64 + sizeL L⟩ lv :: lrE lv N :: diskO b s n wv (calm S) :: Es)) id tl.length ⟨0, by omega, rfl, rfl, rfl, rfl, by simp, st⟩ ?_
  clear st
  rintro q r w2 ⟨i, hqi, g5, g82, g83, g84, hz, st⟩
  refine wc_o 5 g5 (wc_o 82 g82 (wc_o 83 g83 (wc_o 84 g84 ?_)))
  refine wc_seq ?_
  refine wc_region ?_
  refine wl_val (v_lss rfl rfl) rfl ?_
  refine wl_nil ?_
  refine then_go ?_
  refine wc_seq ?_
  refine wc_if rfl (fun h85 => ?_) (fun h85 => ?_)
  ·refine wc_skip ?_
   refine then_go ?_
   refine wc_seq ?_
   refine wc_block ?_
   refine wc_seq ?_
   have hi : i < tl.length := by omega
   obtain ⟨tb, to, tcc, htb, _⟩ := htl.ptr1 (by omega) (by decide)
   cases htb
   refine wc_region ?_
   refine wl_val (v_ias i Try.underlying30 TF.t5 rfl rfl (by first | rfl | omega) (by first | omega | (dsimp only at *; omega))) rfl ?_
   refine wl_val (v_load rfl (SlM.rdB TF.t5 i htl hi st.im)) rfl ?_
   refine wl_val (v_assign' (by conv => (lhs; whnf))) rfl ?_
   refine wl_nil ?_
   refine then_go ?_
   refine wc_seq ?_
   refine wc_region ?_
   refine wl_val (v_move' (by conv => (lhs; whnf))) rfl ?_
   refine wl_val (v_neq rfl rfl) rfl ?_
   refine wl_nil ?_
   refine then_go ?_
   refine wc_if rfl (fun h89 => ?_) (fun h89 => ?_)
   ·refine wc_seq ?_
    refine wc_region ?_
    refine wl_val (v_move' (by conv => (lhs; whnf))) rfl ?_
    refine wl_val (v_move' (by conv => (lhs; whnf))) rfl ?_
    refine wl_val (v_move' (by conv => (lhs; whnf))) rfl ?_
    refine wl_val (v_nil rfl) rfl ?_
    refine wl_val (v_fa TF.f70_4 rfl) rfl ?_
    refine wl_val (v_load rfl (st.reads (v := lv) 0 rfl TF.t29 rfl)) rfl ?_
    have hnz : ∃ c ∈ tl, c ≠ 0 := ⟨tl[i], List.getElem_mem hi, fun e => h89 (by rw [e]; rfl)⟩
    rw [if_pos hnz] at hop
    have st1 := st
    obtain ⟨m4, hg4, hm4, st⟩ := st.freezeR (i := 1) rfl (by simp)
    have hNM : PcsM m4 lv N := ⟨row_SlM (m := m4) (st1.at (i := 1) rfl) hm4, hP.mono hg4.le⟩
    have st : St m0 m4 [] w0 _ (logB g b ⟨k, gn, 64 + sizeL L⟩ lv :: diskO b s n wv (calm S) :: Es) := st
    refine wl_call rfl (c_over (sl := ⟨k, gn, 64 + sizeL L⟩) st hr hn hk hNM (fun x hx => by have := (r4 x.1 (by rw [← hNN]; exact List.mem_map.2 ⟨x, hx, rfl⟩)).2; omega) (by omega)) rfl ?_
    rintro v96 w ⟨m5, wv5, hmm5, rfl, hbad, hok⟩
    rw [hNN] at hbad hok ⊢
    have hz : (overD n (calm S) ⟨k, gn, 64 + sizeL L⟩ L).2.2 = 0 := by rw [hop] at h0; exact h0
    obtain ⟨lv', N', hP', _, hNN', st⟩ := hok hz
    refine wl_val (v_assign' (by conv => (lhs; whnf))) rfl ?_
    refine wl_val (v_assign' (by conv => (lhs; whnf))) rfl ?_
    refine wl_nil ?_
    refine then_go ?_
    refine wc_ret (block_ret (then_ret (then_ret (block_ret (then_ret ?_)))))
    refine ret2 rfl rfl ⟨m5, wv5, g, lv', N', fun k o h => hmm5 k o (hg4.le k o (hmm3 k o h)), by rw [hop]; rfl, hP', by rw [hop]; exact hNN', by rw [hop]; exact st⟩
   ·refine wc_skip ?_
    refine block_go (then_go ?_)
    refine wc_region ?_
    refine wl_val (v_add' (c := ((i + 1 : Nat) : Int)) rfl rfl (by omega) (by omega) (by omega)) rfl ?_
    refine wl_val (v_move' (by conv => (lhs; whnf))) rfl ?_
    refine wl_nil ?_
    refine then_go ?_
    refine ⟨q - 1, by simp; omega, i + 1, by omega, rfl, rfl, rfl, rfl, fun c hc => ?_, st⟩
    rw [List.take_succ_eq_append_getElem hi] at hc
    rcases List.mem_append.1 hc with hc | hc
    ·exact hz c hc
    ·rw [List.mem_singleton.1 hc]
     have : tl[i].toNat = 0 := by have := Decidable.not_not.1 h89; omega
     exact UInt8.toNat_inj.1 this
  ·refine wc_exit (then_exit (then_exit (block_hit ?_)))
   refine then_go ?_
   refine wc_seq ?_
   refine wc_region ?_
   refine wl_val (v_move' (by conv => (lhs; whnf))) rfl ?_
   refine wl_val (v_assign' (by conv => (lhs; whnf))) rfl ?_
   refine wl_val (v_assign' (by conv => (lhs; whnf))) rfl ?_
   refine wl_nil ?_
   refine then_go ?_
   refine wc_ret ?_
   have hiN : i = tl.length := by omega
   subst hiN
   rw [List.take_length] at hz
   rw [if_neg (by rintro ⟨c, hc, hc0⟩; exact hc0 (hz c hc))] at hop
   refine ret2 rfl rfl ⟨m3, wv, g, lv, N, hmm3, by rw [hop]; rfl, hP, by rw [hop]; exact hNN, by rw [hop]; exact st⟩
end
end Go.Proofs.Ytnaoafogdplnaaa

namespace Go.Proofs.Ytnaoafogdplnaaa
open Go Go.RowKit K SH DK JR
structure OpV where
 ag : Bool
 B : By
 bv : Value
 M : List (By × Value)
 lv : Value
def opC (o : OpV) : List Value := [.bool o.ag, o.bv, o.lv]
def OpOk (m : Mem) (o : OpV) : Prop := SlM m o.bv 1 o.B.length (bs o.B) ∧ PcsM m o.lv o.M
def OpsM (m : Mem) (v : Value) (L : List OpV) : Prop := LsM m v opC 3 L ∧ ∀ o ∈ L, OpOk m o
theorem OpsM.mono {m m' : Mem} {v : Value} {L : List OpV} (h : OpsM m v L) (hm : ∀ k o, m k = some o → m' k = some o) : OpsM m' v L := ⟨h.1.mono hm, fun o ho => ⟨(h.2 o ho).1.mono hm, (h.2 o ho).2.mono hm⟩⟩
theorem PcsM.sl {m : Mem} {v : Value} {N : List (By × Value)} (h : PcsM m v N) : ∃ a c, v = .slice a N.length c := by obtain ⟨⟨_, a, c, h, _⟩, _⟩ := h; exact ⟨a, c, h⟩
section
variable {m : Mem} {wI : World}
theorem c_few14 {v : Value} {L : List OpV} (him : Im m wI) (hv : OpsM m v L) (hLm : ∀ o ∈ L, o.M.length ≤ 1048576) : Ret Try.prog 9 #[v] wI fun v' w' => Tch wI w' [] [] ∧ ∃ c : Bool, v' = .bool c ∧ (c = true → L.length ≤ 20) := by
 have st := St.start him
 obtain ⟨la, lc, rfl⟩ := hv.1.sl
 refine ret_of Try.call9 Try.func9 rfl Try.ntmps9 Try.results9 rfl ?_
 refine wc_seq ?_
 refine wc_region ?_
 refine wl_val (v_assign' (by conv => (lhs; whnf))) rfl ?_
 refine wl_nil ?_
 refine then_go ?_
 refine wc_seq ?_
 refine wc_seq ?_
 refine wc_region ?_
 refine wl_val (v_move' (by conv => (lhs; whnf))) rfl ?_
 refine wl_val (v_len_s Try.underlying22 rfl) rfl ?_
 refine wl_val (v_gtr rfl rfl) rfl ?_
 refine wl_nil ?_
 refine then_go ?_
 refine wc_if rfl (fun h8 => ?_) (fun h8 => ?_)
 ·refine wc_seq ?_
  refine wc_region ?_
  refine wl_val (v_assign' (by conv => (lhs; whnf))) rfl ?_
  refine wl_nil ?_
  refine then_go ?_
  refine wc_ret (then_ret ?_)
  exact ret1 rfl ⟨st.touch, false, rfl, fun h => by cases h⟩
 ·refine wc_skip ?_
  refine then_go ?_
  refine wc_seq ?_
  refine wc_region ?_
  refine wl_val (v_assign' (by conv => (lhs; whnf))) rfl ?_
  refine wl_nil ?_
  refine then_go ?_
  refine wc_seq ?_
  refine wc_seq ?_
  refine wc_region ?_
  refine wl_val (v_assign' (by conv => (lhs; whnf))) rfl ?_
  refine wl_nil ?_
  refine then_go ?_
  refine wc_block ?_
  refine wc_loop (S := Nat) (fun q r w' => ∃ (i : Nat) (z : Int), q + i = L.length ∧ r 0 = .slice la L.length lc ∧ r 3 = .int .i64 z ∧ r 4 = .int .i64 i ∧ St m m [] wI w' []) id L.length ⟨0, 0, by omega, rfl, rfl, rfl, st⟩ ?_
  clear st
  rintro q r w2 ⟨i, z, hqi, g0, g3, g4, st⟩
  refine wc_o 0 g0 (wc_o 3 g3 (wc_o 4 g4 ?_))
  refine wc_seq ?_
  refine wc_seq ?_
  refine wc_region ?_
  refine wl_val (v_move' (by conv => (lhs; whnf))) rfl ?_
  refine wl_val (v_move' (by conv => (lhs; whnf))) rfl ?_
  refine wl_val (v_len_s Try.underlying22 rfl) rfl ?_
  refine wl_val (v_lss rfl rfl) rfl ?_
  refine wl_val (v_move' (by conv => (lhs; whnf))) rfl ?_
  refine wl_valg rfl rfl (fun e => (v_move' (by conv => (lhs; whnf)))) rfl ?_
  refine wl_valg rfl rfl (fun e => (v_leq (by first | rfl | exact gx e rfl) (by first | rfl | exact gx e rfl))) rfl ?_
  refine wl_val (v_pickA rfl rfl rfl) rfl ?_
  refine wl_nil ?_
  refine then_go ?_
  refine wc_cond rfl (fun h16 => ?_) (fun h16 => ?_)
  ·refine wc_skip ?_
   refine then_go ?_
   refine wc_seq ?_
   refine wc_block ?_
   refine wc_seq ?_
   have hi : i < L.length := by
    rw [Bool.and_eq_true, decide_eq_true_eq] at h16
    omega
   obtain ⟨ba, oa, hba⟩ := hv.1.ptr (by omega) (by decide)
   subst hba
   obtain ⟨hB, hM⟩ := hv.2 _ (List.getElem_mem hi)
   have hMl := hLm _ (List.getElem_mem hi)
   obtain ⟨xa, xc, hxv, _⟩ := hB.opn
   obtain ⟨ya, yc, hyv⟩ := hM.sl
   have hrB : ∀ {w : World}, Im m w → Reads Try.prog w 30 ⟨ba, oa + i * 3 + 1, none⟩ (.slice xa L[i].B.length xc) := fun him => hv.1.rd rfl hi (by decide) TF.t30 (by rw [← hxv]; rfl) him
   have hrL : ∀ {w : World}, Im m w → Reads Try.prog w 29 ⟨ba, oa + i * 3 + 2, none⟩ (.slice ya L[i].M.length yc) := fun him => hv.1.rd rfl hi (by decide) TF.t29 (by rw [← hyv]; rfl) him
   refine wc_draw TF.mixed ?_
   have st := st.pure (touch_drew _)
   refine fl_val 0 rfl (fun _ => (v_move' (by conv => (lhs; whnf)))) rfl (by kernel_rfl) ?_
   refine fl_val 1 rfl (fun _ => (v_move' (by conv => (lhs; whnf)))) rfl (by kernel_rfl) ?_
   refine fl_val 2 rfl (fun _ => (v_move' (by conv => (lhs; whnf)))) rfl (by kernel_rfl) ?_
   refine fl_val 3 rfl (fun _ => (v_ias i Try.underlying22 TF.t32 rfl rfl (by first | rfl | omega) (by first | omega | (dsimp only at *; omega)))) rfl (by kernel_rfl) ?_
   refine fl_val 4 rfl (fun _ => (v_fa TF.f32_1 rfl)) rfl (by kernel_rfl) ?_
   refine fl_ld 5 rfl (v_load rfl (hrB st.im)) (by kernel_rfl) ?_
   refine fl_val 6 rfl (fun _ => (v_len_s Try.underlying30 rfl)) rfl (by kernel_rfl) ?_
   refine fl_val 7 rfl (fun _ => (v_add rfl rfl)) rfl (by kernel_rfl) ?_
   refine fl_val 8 rfl (fun _ => (v_move' (by conv => (lhs; whnf)))) rfl (by kernel_rfl) ?_
   refine fl_val 9 rfl (fun _ => (v_move' (by conv => (lhs; whnf)))) rfl (by kernel_rfl) ?_
   refine fl_val 10 rfl (fun _ => (v_ias i Try.underlying22 TF.t32 rfl rfl (by first | rfl | omega) (by first | omega | (dsimp only at *; omega)))) rfl (by kernel_rfl) ?_
   refine fl_val 11 rfl (fun _ => (v_fa TF.f32_2 rfl)) rfl (by kernel_rfl) ?_
   refine fl_ld 12 rfl (v_load rfl (hrL st.im)) (by kernel_rfl) ?_
   refine fl_val 13 rfl (fun _ => (v_len_s Try.underlying29 rfl)) rfl (by kernel_rfl) ?_
   refine fl_val 14 rfl (fun _ => (v_add rfl rfl)) rfl (by kernel_rfl) ?_
   refine fl_eff1 15 [] [] (by kernel_rfl) ⟨obl_ld rfl rfl rfl (v_load rfl (hrL st.im)), obl_ld rfl rfl rfl (v_load rfl (hrB st.im)), trivial⟩ rfl ?_
   refine wl_val (v_assign' (by conv => (lhs; whnf))) rfl ?_
   refine wl_nil ⟨rfl, ?_⟩
   refine fl_nil (by kernel_rfl) trivial ?_
   refine then_go ?_
   refine wc_seq ?_
   refine wc_region ?_
   refine wl_val (v_assign' (by conv => (lhs; whnf))) rfl ?_
   refine wl_nil ?_
   refine then_go ?_
   refine wc_block ?_
   obtain ⟨z1, hz1⟩ : ∃ z1 : Int, z1 = IntKind.i64.wrap (IntKind.i64.wrap (z + (L[i].B.length : Int)) + (L[i].M.length : Int)) := ⟨_, rfl⟩
   refine wc_loop (S := Nat) (fun q r w' => ∃ (j : Nat) (z : Int), q + j = L[i].M.length ∧ r 0 = .slice (some ⟨ba, oa, none⟩) L.length lc ∧ r 3 = .int .i64 z ∧ r 4 = .int .i64 i ∧ r 5 = .int .i64 j ∧ St m m [] wI w' []) id L[i].M.length ⟨0, z1, by omega, rfl, by rw [hz1]; rfl, rfl, rfl, st⟩ ?_
   clear st
   rintro q2 r w3 ⟨j, z2, hqj, g0, g3, g4, g5, st⟩
   refine wc_o 0 g0 (wc_o 3 g3 (wc_o 4 g4 (wc_o 5 g5 ?_)))
   refine wc_seq ?_
   refine wc_seq ?_
   refine wc_region ?_
   refine wl_val (v_move' (by conv => (lhs; whnf))) rfl ?_
   refine wl_val (v_move' (by conv => (lhs; whnf))) rfl ?_
   refine wl_val (v_move' (by conv => (lhs; whnf))) rfl ?_
   refine wl_val (v_ias i Try.underlying22 TF.t32 rfl rfl (by first | rfl | omega) (by first | omega | (dsimp only at *; omega))) rfl ?_
   refine wl_val (v_fa TF.f32_2 rfl) rfl ?_
   refine wl_val (v_load rfl (hrL st.im)) rfl ?_
   refine wl_val (v_len_s Try.underlying29 rfl) rfl ?_
   refine wl_val (v_lss rfl rfl) rfl ?_
   refine wl_val (v_move' (by conv => (lhs; whnf))) rfl ?_
   refine wl_valg rfl rfl (fun e => (v_move' (by conv => (lhs; whnf)))) rfl ?_
   refine wl_valg rfl rfl (fun e => (v_leq (by first | rfl | exact gx e rfl) (by first | rfl | exact gx e rfl))) rfl ?_
   refine wl_val (v_pickA rfl rfl rfl) rfl ?_
   refine wl_nil ?_
   refine then_go ?_
   refine wc_cond rfl (fun h45 => ?_) (fun h45 => ?_)
   ·refine wc_skip ?_
    refine then_go ?_
    refine wc_seq ?_
    refine wc_block ?_
    have hj : j < L[i].M.length := by
     rw [Bool.and_eq_true, decide_eq_true_eq] at h45
     omega
    rw [hyv] at hM
    obtain ⟨nb, no, _, hnv, hsk, hrk⟩ := hM.elem hj
    cases hnv
    obtain ⟨_, qa, qc, hqv, _⟩ := id hsk
    rw [hqv] at hrk
    refine wc_region ?_
    refine wl_val (v_move' (by conv => (lhs; whnf))) rfl ?_
    refine wl_val (v_move' (by conv => (lhs; whnf))) rfl ?_
    refine wl_val (v_move' (by conv => (lhs; whnf))) rfl ?_
    refine wl_val (v_ias i Try.underlying22 TF.t32 rfl rfl (by first | rfl | omega) (by first | omega | (dsimp only at *; omega))) rfl ?_
    refine wl_val (v_fa TF.f32_2 rfl) rfl ?_
    refine wl_val (v_load rfl (hrL st.im)) rfl ?_
    refine wl_val (v_move' (by conv => (lhs; whnf))) rfl ?_
    refine wl_val (v_ias j Try.underlying29 TF.t30 rfl rfl (by first | rfl | omega) (by first | omega | (dsimp only at *; omega))) rfl ?_
    refine wl_val (v_load rfl (hrk st.im)) rfl ?_
    refine wl_val (v_len_s Try.underlying30 rfl) rfl ?_
    refine wl_val (v_add rfl rfl) rfl ?_
    refine wl_val (v_assign' (by conv => (lhs; whnf))) rfl ?_
    refine wl_nil ?_
    refine block_go (then_go ?_)
    refine wc_region ?_
    refine wl_val (v_move' (by conv => (lhs; whnf))) rfl ?_
    refine wl_val (v_add' (c := ((j + 1 : Nat) : Int)) rfl rfl (by omega) (by omega) (by omega)) rfl ?_
    refine wl_val (v_assign' (by conv => (lhs; whnf))) rfl ?_
    refine wl_nil ?_
    refine then_go ?_
    exact ⟨q2 - 1, by simp; omega, j + 1, _, by omega, rfl, rfl, rfl, rfl, st⟩
   ·refine wc_exit (then_exit (then_exit (block_hit ?_)))
    refine block_go (then_go ?_)
    refine wc_region ?_
    refine wl_val (v_move' (by conv => (lhs; whnf))) rfl ?_
    refine wl_val (v_add' (c := ((i + 1 : Nat) : Int)) rfl rfl (by omega) (by omega) (by omega)) rfl ?_
    refine wl_val (v_assign' (by conv => (lhs; whnf))) rfl ?_
    refine wl_nil ?_
    refine then_go ?_
    exact ⟨q - 1, by simp; omega, i + 1, _, by omega, rfl, rfl, rfl, st⟩
  ·refine wc_exit (then_exit (then_exit (block_hit ?_)))
   refine then_go ?_
   refine wc_seq ?_
   refine wc_region ?_
   refine wl_val (v_move' (by conv => (lhs; whnf))) rfl ?_
   refine wl_val (v_leq rfl rfl) rfl ?_
   refine wl_val (v_assign' (by conv => (lhs; whnf))) rfl ?_
   refine wl_nil ?_
   refine then_go ?_
   refine wc_ret ?_
   exact ret1 rfl ⟨st.touch, _, rfl, fun _ => by omega⟩
def ApartR (m m' : Mem) (v : Value) (N : List (By × Value)) : Prop := ∃ m1, (∀ k o, m1 k = some o → m' k = some o ∧ m k = none) ∧ SlM m1 v 1 N.length (N.map (·.2))
theorem ApartR.mono {m n m' m'' : Mem} {v : Value} {N : List (By × Value)} (h : ApartR m m' v N) (hn : ∀ k o, n k = some o → m k = some o) (hm : ∀ k o, m' k = some o → m'' k = some o) : ApartR n m'' v N := by
 obtain ⟨m1, h1, h2⟩ := h
 refine ⟨m1, fun k o hk => ⟨hm k o (h1 k o hk).1, ?_⟩, h2⟩
 cases hq : n k with
 | none => rfl
 | some q => have := hn k q hq; rw [(h1 k o hk).2] at this; cases this
theorem row_apart {m0 m m' : Mem} {w0 w : World} {Es : List Ent} {v : Value} {N : List (By × Value)} (st : St m0 m [] w0 w (lrE v N :: Es)) (hm : ∀ k o, some k = v.ownBlock → w.heap[k]? = some o → m' k = some o) : ApartR m m' v N := by
 have hown := st.own (lrE v N) (by simp)
 refine ⟨fun k => if m k = none then m' k else none, fun k o hk => ?_, row_SlM (m := fun k => if m k = none then m' k else none) (st.at (i := 0) rfl) (fun k o hk ho => ?_)⟩
 ·by_cases h : m k = none
  ·simp [h] at hk; exact ⟨hk, h⟩
  ·simp [h] at hk
 ·have h1 := (hown k (by rw [← Option.mem_toList] at *; simp [rowE, ← hk])).1
  simp [h1, hm k o hk ho]
theorem c_rappend {lv bv : Value} {N : List (By × Value)} {x : By} {n : Nat} (him : Im m wI) (hN : PcsM m lv N) (hNl : ∀ y ∈ N, y.1.length ≤ 1048576) (hNn : N.length ≤ 100000) (hx : SlM m bv 1 x.length (bs x)) (hn : n ≤ 1000000) (hn2 : 2 ≤ n) :
  Ret Try.prog 18 #[lv, bv, .int .i64 n] wI fun v' w' => Out m wI w' fun m' => ∃ mv, v' = .tuple #[mv, .int .i64 (appR (N.map (·.1)) x n : Nat)] ∧ PcsM m' mv (if appR (N.map (·.1)) x n = 0 then N ++ [(x, bv)] else N) ∧ (appR (N.map (·.1)) x n = 0 → ApartR m m' mv (N ++ [(x, bv)])) ∧ (appR (N.map (·.1)) x n ≠ 0 → mv = lv) := by
 have st := St.start him
 obtain ⟨la, lc, rfl⟩ := hN.sl
 obtain ⟨xa, xc, rfl, _⟩ := hx.opn
 refine ret_of Try.call18 Try.func18 rfl Try.ntmps18 Try.results18 rfl ?_
 refine wc_seq ?_
 refine wc_region ?_
 refine wl_val (v_assign' (by conv => (lhs; whnf))) rfl ?_
 refine wl_val (v_assign' (by conv => (lhs; whnf))) rfl ?_
 refine wl_nil ?_
 refine then_go ?_
 refine wc_seq ?_
 refine wc_seq ?_
 refine wc_region ?_
 refine wl_val (v_move' (by conv => (lhs; whnf))) rfl ?_
 refine wl_call rfl (c_rcheck st.im hx) rfl ?_
 rintro v11 w ⟨t11, rfl⟩
 have st := st.pure t11
 refine wl_val (v_assign' (by conv => (lhs; whnf))) rfl ?_
 refine wl_nil ?_
 refine then_go ?_
 refine wc_seq ?_
 refine wc_region ?_
 refine wl_val (v_move' (by conv => (lhs; whnf))) rfl ?_
 refine wl_val (v_neq rfl rfl) rfl ?_
 refine wl_nil ?_
 refine then_go ?_
 refine wc_cond rfl (fun h13 => ?_) (fun h13 => ?_)
 ·refine wc_seq ?_
  refine wc_region ?_
  refine wl_val (v_move' (by conv => (lhs; whnf))) rfl ?_
  refine wl_val (v_move' (by conv => (lhs; whnf))) rfl ?_
  refine wl_val (v_assign' (by conv => (lhs; whnf))) rfl ?_
  refine wl_val (v_assign' (by conv => (lhs; whnf))) rfl ?_
  refine wl_nil ?_
  refine then_go ?_
  refine wc_ret (then_ret ?_)
  have hz := of_decide_eq_true h13
  have h1 : checkE x = 1 := (checkE_or _).resolve_left fun h => hz (by rw [h]; rfl)
  have hR : appR (N.map (·.1)) x n = 1 := by unfold appR; rw [if_pos (by omega)]
  exact ret2 rfl rfl (st.out ⟨_, by rw [hR, h1]; rfl, by rw [hR, if_neg (by decide)]; exact hN, fun h => absurd (hR ▸ h) (by decide), fun _ => rfl⟩)
 ·refine wc_skip ?_
  refine then_go ?_
  refine wc_seq ?_
  refine wc_region ?_
  refine wl_val (v_assign' (by conv => (lhs; whnf))) rfl ?_
  refine wl_nil ?_
  refine then_go ?_
  refine wc_seq ?_
  have hc0 : ¬ checkE x ≠ 0 := fun h => of_decide_eq_false h13 (by omega)
  have hxm := checkE_len hc0
  have st := nilRow st 30 1
  refine wc_region ?_
  refine wl_val (v_move' (by conv => (lhs; whnf))) rfl ?_
  refine wl_val (v_move' (by conv => (lhs; whnf))) rfl ?_
  refine wl_append (news := N.map (fun y : By × Value => y.2)) (j := N.length) 0 st rfl Try.underlying29 Try.underlying29 (.inr ⟨_, rfl⟩) TF.t30 TF.z30 rfl rfl rfl (hN.1.src st.im fun u hu => by obtain ⟨y, hy, rfl⟩ := List.mem_map.1 hu; exact SlM.one1 (hN.2 y hy)) (by omega) (by omega) rfl ?_
  clear st
  intro v18 w _ st
  have st : St m m [] wI w [lrE v18 N] := by rw [Nat.zero_add, List.nil_append] at st; exact st
  refine wl_val (v_assign' (by conv => (lhs; whnf))) rfl ?_
  refine wl_nil ?_
  refine then_go ?_
  refine wc_seq ?_
  refine wc_region ?_
  refine wl_val (v_move' (by conv => (lhs; whnf))) rfl ?_
  refine wl_val (v_move' (by conv => (lhs; whnf))) rfl ?_
  refine wl_svOne (v := .slice xa x.length xc) Try.underlying29 TF.t30 TF.z30 rfl rfl st rfl ?_
  intro b21 w st
  refine wl_lrApp (x := x) 0 st rfl rfl rfl rfl (by omega) rfl ?_
  intro v22 w st
  obtain ⟨N1, hN1⟩ : ∃ N1, N1 = N ++ [(x, Value.slice xa x.length xc)] := ⟨_, rfl⟩
  rw [← hN1] at st
  have hP1 : Pcs m N1 := by rw [hN1]; exact Pcs.snoc hN.2 hx
  have hN1l : N1.length = N.length + 1 := by rw [hN1, List.length_append]; rfl
  have hN1x : ∀ y ∈ N1, y.1.length ≤ 1000000000 := fun y hy => by
   rw [hN1] at hy
   rcases List.mem_append.1 hy with hy | hy
   ·have := hNl y hy; omega
   ·rw [List.mem_singleton.1 hy]; show x.length ≤ _; omega
  have st0 := st
  obtain ⟨m1, hg1, hm1, st⟩ := st.freezeR (i := 0) rfl (by simp)
  have hra : ApartR m m1 v22 N1 := row_apart st0 hm1
  have hNM : PcsM m1 v22 N1 := ⟨row_SlM (m := m1) (st0.at (i := 0) rfl) hm1, hP1.mono hg1.le⟩
  have st : St m m1 [] wI w [] := st
  have hR1 : N1.map (·.1) = N.map (·.1) ++ [x] := by rw [hN1, List.map_append]; rfl
  refine wl_val (v_assign' (by conv => (lhs; whnf))) rfl ?_
  refine wl_nil ?_
  refine then_go ?_
  refine wc_seq ?_
  refine wc_seq ?_
  refine wc_region ?_
  refine wl_val (v_move' (by conv => (lhs; whnf))) rfl ?_
  refine wl_val (v_move' (by conv => (lhs; whnf))) rfl ?_
  refine wl_call rfl (c_fits st.im hNM hN1x (by omega) hn hn2) rfl ?_
  rintro v25 w ⟨t25, rfl⟩
  have st := st.pure t25
  rw [hR1]
  refine wl_val (v_not rfl) rfl ?_
  refine wl_nil ?_
  refine then_go ?_
  refine wc_cond rfl (fun h26 => ?_) (fun h26 => ?_)
  ·refine wc_seq ?_
   refine wc_region ?_
   refine wl_val (v_move' (by conv => (lhs; whnf))) rfl ?_
   refine wl_val (v_assign' (by conv => (lhs; whnf))) rfl ?_
   refine wl_val (v_assign' (by conv => (lhs; whnf))) rfl ?_
   refine wl_nil ?_
   refine then_go ?_
   refine wc_ret (then_ret ?_)
   have hR : appR (N.map (·.1)) x n = 13 := by unfold appR; rw [if_neg hc0, if_neg (by simpa using h26)]
   exact ret2 rfl rfl (st.out ⟨_, by rw [hR]; rfl, by rw [hR, if_neg (by decide)]; exact hN.mono hg1.le, fun h => absurd (hR ▸ h) (by decide), fun _ => rfl⟩)
  ·refine wc_skip ?_
   refine then_go ?_
   refine wc_seq ?_
   refine wc_region ?_
   refine wl_val (v_move' (by conv => (lhs; whnf))) rfl ?_
   refine wl_val (v_assign' (by conv => (lhs; whnf))) rfl ?_
   refine wl_val (v_assign' (by conv => (lhs; whnf))) rfl ?_
   refine wl_nil ?_
   refine then_go ?_
   refine wc_ret ?_
   have hR : appR (N.map (·.1)) x n = 0 := by unfold appR; rw [if_neg hc0, if_pos (by simpa using h26)]
   exact ret2 rfl rfl (st.out ⟨_, by rw [hR]; rfl, by rw [hR, if_pos rfl, ← hN1]; exact hNM, fun _ => by rw [← hN1]; exact hra, fun h => (h hR).elim⟩)
theorem c_rrestart {lv mv : Value} {N M : List (By × Value)} {n : Nat} (him : Im m wI) (hN : PcsM m lv N) (hM : PcsM m mv M) (hMn : M.length ≤ 1048576) (hn : n ≤ 1000000) (hn2 : 2 ≤ n) :
  Ret Try.prog 38 #[lv, mv, .int .i64 n] wI fun v' w' => Tch wI w' [] [] ∧ v' = .tuple #[if resR (M.map (·.1)) n = 0 then mv else lv, .int .i64 (resR (M.map (·.1)) n : Nat)] := by
 have st := St.start him
 obtain ⟨la, lc, rfl⟩ := hN.sl
 obtain ⟨na, nc, rfl⟩ := hM.sl
 refine ret_of Try.call38 Try.func38 rfl Try.ntmps38 Try.results38 rfl ?_
 refine wc_seq ?_
 refine wc_region ?_
 refine wl_val (v_assign' (by conv => (lhs; whnf))) rfl ?_
 refine wl_val (v_assign' (by conv => (lhs; whnf))) rfl ?_
 refine wl_nil ?_
 refine then_go ?_
 refine wc_seq ?_
 refine wc_seq ?_
 refine wc_region ?_
 refine wl_val (v_assign' (by conv => (lhs; whnf))) rfl ?_
 refine wl_nil ?_
 refine then_go ?_
 refine wc_block ?_
 refine wc_loop (S := Nat) (fun q r w' => ∃ (i : Nat), q + i = M.length ∧ r 0 = .slice la N.length lc ∧ r 1 = .slice na M.length nc ∧ r 2 = .int .i64 n ∧ r 8 = .int .i64 i ∧ (∀ x ∈ M.take i, ¬ checkE x.1 ≠ 0) ∧ St m m [] wI w' []) id M.length ⟨0, by omega, rfl, rfl, rfl, rfl, by simp, st⟩ ?_
 clear st
 rintro q r w2 ⟨i, hqi, g0, g1, g2, g8, hck, st⟩
 refine wc_o 0 g0 (wc_o 1 g1 (wc_o 2 g2 (wc_o 8 g8 ?_)))
 refine wc_seq ?_
 refine wc_seq ?_
 refine wc_region ?_
 refine wl_val (v_move' (by conv => (lhs; whnf))) rfl ?_
 refine wl_val (v_move' (by conv => (lhs; whnf))) rfl ?_
 refine wl_val (v_len_s Try.underlying29 rfl) rfl ?_
 refine wl_val (v_lss rfl rfl) rfl ?_
 refine wl_nil ?_
 refine then_go ?_
 refine wc_if rfl (fun h13 => ?_) (fun h13 => ?_)
 ·refine wc_skip ?_
  refine then_go ?_
  refine wc_seq ?_
  refine wc_block ?_
  refine wc_seq ?_
  have hi : i < M.length := by omega
  obtain ⟨nb, no, _, hnv, hsk, hrk⟩ := hM.elem hi
  cases hnv
  refine wc_region ?_
  refine wl_val (v_move' (by conv => (lhs; whnf))) rfl ?_
  refine wl_val (v_move' (by conv => (lhs; whnf))) rfl ?_
  refine wl_val (v_ias i Try.underlying29 TF.t30 rfl rfl (by first | rfl | omega) (by first | omega | (dsimp only at *; omega))) rfl ?_
  refine wl_val (v_load rfl (hrk st.im)) rfl ?_
  refine wl_call rfl (c_rcheck st.im hsk) rfl ?_
  rintro v20 w ⟨t20, rfl⟩
  have st := st.pure t20
  refine wl_val (v_assign' (by conv => (lhs; whnf))) rfl ?_
  refine wl_nil ?_
  refine then_go ?_
  refine wc_seq ?_
  refine wc_region ?_
  refine wl_val (v_move' (by conv => (lhs; whnf))) rfl ?_
  refine wl_val (v_neq rfl rfl) rfl ?_
  refine wl_nil ?_
  refine then_go ?_
  refine wc_cond rfl (fun h22 => ?_) (fun h22 => ?_)
  ·refine wc_seq ?_
   refine wc_region ?_
   refine wl_val (v_move' (by conv => (lhs; whnf))) rfl ?_
   refine wl_val (v_move' (by conv => (lhs; whnf))) rfl ?_
   refine wl_val (v_assign' (by conv => (lhs; whnf))) rfl ?_
   refine wl_val (v_assign' (by conv => (lhs; whnf))) rfl ?_
   refine wl_nil ?_
   refine then_go ?_
   refine wc_ret (block_ret (then_ret (then_ret (block_ret (then_ret ?_)))))
   have hz := of_decide_eq_true h22
   have h1 : checkE M[i].1 = 1 := (checkE_or _).resolve_left fun h => hz (by rw [h]; rfl)
   have hR : resR (M.map (·.1)) n = 1 := by unfold resR; rw [if_pos ⟨_, List.mem_map.2 ⟨_, List.getElem_mem hi, rfl⟩, by omega⟩]
   exact ret2 rfl rfl ⟨st.touch, by rw [hR, h1, if_neg (by decide)]; rfl⟩
  ·refine wc_skip ?_
   refine block_go (then_go ?_)
   refine wc_region ?_
   refine wl_val (v_move' (by conv => (lhs; whnf))) rfl ?_
   refine wl_val (v_add' (c := ((i + 1 : Nat) : Int)) rfl rfl (by omega) (by omega) (by omega)) rfl ?_
   refine wl_val (v_assign' (by conv => (lhs; whnf))) rfl ?_
   refine wl_nil ?_
   refine then_go ?_
   refine ⟨q - 1, by simp; omega, i + 1, by omega, rfl, rfl, rfl, rfl, fun x hx => ?_, st⟩
   rw [List.take_succ_eq_append_getElem hi] at hx
   rcases List.mem_append.1 hx with hx | hx
   ·exact hck x hx
   ·rw [List.mem_singleton.1 hx]
    exact fun h => of_decide_eq_false h22 (by omega)
 ·refine wc_exit (then_exit (then_exit (block_hit ?_)))
  refine then_go ?_
  refine wc_seq ?_
  refine wc_seq ?_
  refine wc_region ?_
  refine wl_val (v_move' (by conv => (lhs; whnf))) rfl ?_
  refine wl_val (v_move' (by conv => (lhs; whnf))) rfl ?_
  have hiN : i = M.length := by omega
  subst hiN
  rw [List.take_length] at hck
  have hnb : ¬ ∃ b ∈ M.map (·.1), checkE b ≠ 0 := by
   rintro ⟨x, hx, hz⟩
   obtain ⟨y, hy, rfl⟩ := List.mem_map.1 hx
   exact hck y hy hz
  refine wl_call rfl (c_fits st.im hM (fun x hx => by have := (checkE_len (hck x hx)).2; omega) (by omega) hn hn2) rfl ?_
  rintro v27 w ⟨t27, rfl⟩
  have st := st.pure t27
  refine wl_val (v_not rfl) rfl ?_
  refine wl_nil ?_
  refine then_go ?_
  refine wc_cond rfl (fun h28 => ?_) (fun h28 => ?_)
  ·refine wc_seq ?_
   refine wc_region ?_
   refine wl_val (v_move' (by conv => (lhs; whnf))) rfl ?_
   refine wl_val (v_assign' (by conv => (lhs; whnf))) rfl ?_
   refine wl_val (v_assign' (by conv => (lhs; whnf))) rfl ?_
   refine wl_nil ?_
   refine then_go ?_
   refine wc_ret (then_ret ?_)
   have hR : resR (M.map (·.1)) n = 13 := by unfold resR; rw [if_neg hnb, if_neg (by simpa using h28)]
   exact ret2 rfl rfl ⟨st.touch, by rw [hR, if_neg (by decide)]; rfl⟩
  ·refine wc_skip ?_
   refine then_go ?_
   refine wc_seq ?_
   refine wc_region ?_
   refine wl_val (v_move' (by conv => (lhs; whnf))) rfl ?_
   refine wl_val (v_assign' (by conv => (lhs; whnf))) rfl ?_
   refine wl_val (v_assign' (by conv => (lhs; whnf))) rfl ?_
   refine wl_nil ?_
   refine then_go ?_
   refine wc_ret ?_
   have hR : resR (M.map (·.1)) n = 0 := by unfold resR; rw [if_neg hnb, if_pos (by simpa using h28)]
   exact ret2 rfl rfl ⟨st.touch, by rw [hR, if_pos rfl]; rfl⟩
end
end Go.Proofs.Ytnaoafogdplnaaa

namespace Go.Proofs.Ytnaoafogdplnaaa
open Go Go.RowKit Go.ChangeShapes Go.WideShapes K SH DK JR
section
variable {H : Type} {enc : TypeId × Value → H} {w : World} {sp : Nat → Bool} {held : Bool} {fuel : Nat} {x : DataW H × List MemPlace} {v : Value} {cs : List Value}
theorem trod_op (h : DataW.trod enc Try.prog w 0 sp held fuel 32 cs = some x) : ∃ o : OpV, cs = opC o ∧ OpOk (heapM w) o ∧ o.M.length ≤ Rows.uptoBulk x.1 ∧ o.B.length ≤ Rows.uptoBulk x.1 := by
 have hl := trod_len Try.underlying32 TF.t32 h
 obtain ⟨_, _, e0⟩ := trod_seg TF.f32_0 TF.t4 h
 obtain ⟨_, y1, e1, hy1⟩ := trod_segB TF.f32_1 TF.t30 h
 obtain ⟨_, y, e2, hy⟩ := trod_segB TF.f32_2 TF.t29 h
 match cs, hl with
 | [a, b, c], _ =>
  obtain ⟨ag, q0⟩ := trod_bo e0
  obtain ⟨B, hB, hBl⟩ := open_bytesB (v := b) e1
  obtain ⟨M, hM, _, hMl⟩ := open_rowsB (v := c) e2
  have q0 : [a] = [.bool ag] := q0
  rw [List.cons.injEq] at q0
  exact ⟨⟨ag, B, b, M, c⟩, by rw [q0.1]; rfl, ⟨hB, hM⟩, Nat.le_trans hMl hy, Nat.le_trans hBl hy1⟩
theorem open_jops2B (h : DataW.trod enc Try.prog w 0 sp held fuel 22 [v] = some x) : ∃ L : List OpV, OpsM (heapM w) v L ∧ ∀ o ∈ L, o.M.length ≤ Rows.uptoBulk x.1 ∧ o.B.length ≤ Rows.uptoBulk x.1 := by
 obtain ⟨L, h1, h2, _⟩ := trod_listB (c := opC) (Q := fun o n => OpOk (heapM w) o ∧ o.M.length ≤ n ∧ o.B.length ≤ n) Try.underlying22 TF.t32 (by decide) (fun h => by obtain ⟨o, q1, q2, q3⟩ := trod_op h; exact ⟨o, q1, q2, q3⟩) (fun h hle => ⟨h.1, Nat.le_trans h.2.1 hle, Nat.le_trans h.2.2 hle⟩) h
 exact ⟨L, ⟨h1, fun o ho => (h2 o ho).1⟩, fun o ho => (h2 o ho).2⟩
end
end Go.Proofs.Ytnaoafogdplnaaa

namespace Go.Proofs.Ytnaoafogdplnaaa
open Go Go.RowKit K
def objE (b : Nat) (o : Obj) : Ent where
 foot := [b]
 holds := fun w => w.heap[b]? = some o
 keep := fun h hw => by rw [h b (by simp)]; exact hw
 live := fun h k hk => by simp at hk; subst hk; exact lt_of_get h
section
variable {m0 m : Mem} {F : List Nat} {w0 w : World} {Es : List Ent}
theorem K.St.freezeO (h : St m0 m F w0 w Es) {i b : Nat} {ob : Obj} (hi : Es[i]? = some (objE b ob)) (hb : b ∉ F) :
  ∃ m', Grow m m' w0.heap.size ∧ m' b = some ob ∧ St m0 m' F w0 w (Es.eraseIdx i) := by
 have hmem := List.mem_of_getElem? hi
 have ho := h.own _ hmem b (by simp [objE])
 have hB : w0.heap.size ≤ b := ho.2.resolve_right hb
 have hg : Grow m (fun k => if k = b then some ob else m k) w0.heap.size := by
  refine ⟨fun k o hk => ?_, fun k o hk => ?_⟩
  ·have : k ≠ b := fun e => by rw [e, ho.1] at hk; cases hk
   simp [this, hk]
  ·by_cases hkb : k = b
   ·exact .inr (hkb ▸ hB)
   ·simp [hkb] at hk; exact .inl hk
 refine ⟨_, hg, by simp, ⟨h.touch, h.grow.trans hg (Nat.le_refl _), ?_, (h.drop i).holds, (h.drop i).sep, ?_⟩⟩
 ·intro k o hk
  by_cases hkb : k = b
  ·subst hkb
   simp at hk
   rw [← hk]
   exact h.at hi
  ·simp [hkb] at hk; exact h.im k o hk
 ·intro E hE k hk
  have hE' := List.mem_of_mem_eraseIdx hE
  refine ⟨?_, (h.own E hE' k hk).2⟩
  have hne : k ≠ b := by
   intro e
   subst e
   have hlt : i < Es.length := by
    rcases Nat.lt_or_ge i Es.length with h' | h'
    ·exact h'
    ·rw [List.getElem?_eq_none h'] at hi; cases hi
   have hget : Es[i] = objE k ob := by rw [List.getElem?_eq_getElem hlt] at hi; exact Option.some.inj hi
   obtain ⟨j, hj, hje⟩ := List.getElem_of_mem hE
   rw [List.getElem_eraseIdx] at hje
   have hpw := List.pairwise_iff_getElem.1 h.sep
   split at hje
   ·rename_i hji
    have hj' : j < Es.length := by omega
    exact hpw j i hj' hlt hji k (by rw [hje]; exact hk) (by rw [hget]; simp [objE])
   ·rename_i hji
    have hj' : j + 1 < Es.length := by rw [List.length_eraseIdx] at hj; split at hj <;> omega
    exact hpw i (j + 1) hlt hj' (by omega) k (by rw [hget]; simp [objE]) (by rw [hje]; exact hk)
  simp [hne, (h.own E hE' k hk).1]
theorem K.St.thaw (h : St m0 m F w0 w Es) {b : Nat} {c : Array Value} {t : TypeId} (hb : m b = some (.cells c t (0, 0))) (h0 : m0 b = Option.none) (hB : w0.heap.size ≤ b) :
  St m0 (fun k => if k = b then Option.none else m k) F w0 w (blk b c t :: Es) := by
 refine ⟨h.touch, ⟨fun k o hk => ?_, fun k o hk => ?_⟩, fun k o hk => ?_, fun E hE => ?_, ?_, fun E hE k hk => ?_⟩
 ·have : k ≠ b := fun e => by rw [e, h0] at hk; cases hk
  simp [this, h.grow.le k o hk]
 ·by_cases e : k = b
  ·simp [e] at hk
  ·simp [e] at hk; exact h.grow.new k o hk
 ·by_cases e : k = b
  ·simp [e] at hk
  ·simp [e] at hk; exact h.im k o hk
 ·rcases List.mem_cons.1 hE with rfl | hE
  ·exact h.im _ _ hb
  ·exact h.holds E hE
 ·refine List.pairwise_cons.2 ⟨fun E hE k hk hk' => ?_, h.sep⟩
  simp [blk] at hk
  subst hk
  have := (h.own E hE k hk').1
  rw [hb] at this
  cases this
 ·rcases List.mem_cons.1 hE with rfl | hE
  ·simp [blk] at hk
   subst hk
   exact ⟨by simp, .inl hB⟩
  ·refine ⟨?_, (h.own E hE k hk).2⟩
   have := (h.own E hE k hk).1
   simp [this]
end
section
variable {P : Program} {n : Nat} {ops : Array Oper} {Q : Po} {rest : List Oper} {r : Fr} {w : World} {d : Nat} {ty : TypeId} {pos : String} {after : Array Edge} {m0 m : Mem} {F : List Nat} {w0 : World} {Es : List Ent}
theorem wl_constB {T E b l c : Nat} {C : Array Value} {x : Operand} (hT : P.underlying T = some (.slice E)) (hE : P.underlying E = some (.int .u8)) (hx : ev r x = .slice (some ⟨b, 0, none⟩) l c) (st : St m0 m F w0 w (blk b C E :: Es)) (hF : b ∉ F) (hd : Nat.blt d n = true)
  (k : ∀ m' w', (∀ k o, m k = some o → m' k = some o) → m' b = some (.cells C E (C.size, C.size + 1)) → St m0 m' F w0 w' Es → WL P n ops Q rest (upd d (.slice (some ⟨b, 0, none⟩) l c) r) w') :
  WL P n ops Q (⟨some d, .convert T T x, ty, pos, after, none⟩ :: rest) r w := by
 have hb : w.heap[b]? = some (.cells C E (0, 0)) := st.at (i := 0) rfl
 have hlt : b < w.heap.size := lt_of_get hb
 have hsh : w.shape? b = some (E, C.size) := by unfold World.shape?; rw [hb]
 have hrun : (convert T T (.slice (some ⟨b, 0, none⟩) l c)).run P w = .ok (.slice (some ⟨b, 0, none⟩) l c) (w.freeze ⟨b, C.size, none⟩ 1) := by
  simp [convert, run_underlying hT, run_underlying hE, markStringish, hsh]
 have hnb : (w.freeze ⟨b, C.size, none⟩ 1).heap[b]? = some (.cells C E (C.size, C.size + 1)) := by
  unfold World.freeze
  rw [if_neg (by decide)]
  show (w.heap.modify b _)[b]? = _
  rw [Array.getElem?_modify, if_pos rfl, hb]
  rfl
 have ht : Tch w (w.freeze ⟨b, C.size, none⟩ 1) [b] [b] := by
  refine ⟨?_, ?_, ?_, ?_, fun k hk hkb => ?_, fun _ h => .inl h⟩
  ·unfold World.freeze; rw [if_neg (by decide)]
  ·unfold World.freeze; rw [if_neg (by decide)]
  ·unfold World.freeze; rw [if_neg (by decide)]
  ·unfold World.freeze
   rw [if_neg (by decide)]
   show w.heap.size ≤ (w.heap.modify b _).size
   simp
  ·unfold World.freeze
   rw [if_neg (by decide)]
   show (w.heap.modify b _)[k]? = _
   rw [Array.getElem?_modify, if_neg (fun e => hkb (by simp [e]))]
 have st1 := st.step (E' := objE b (.cells C E (C.size, C.size + 1))) 0 rfl ht hnb
 obtain ⟨m', hg, hm, st2⟩ := K.St.freezeO st1 (i := 0) rfl hF
 refine wl_val (v := .slice (some ⟨b, 0, none⟩) l c) (w' := w.freeze ⟨b, C.size, none⟩ 1) ?_ hd (k m' _ hg.le hm st2)
 intro _ _ _ _
 simp only [execOp, hx, Sem.run_bind, hrun, Result.andThen_ok, Sem.run_pure]
end
end Go.Proofs.Ytnaoafogdplnaaa

namespace Go.Proofs.Ytnaoafogdplnaaa
open Go Go.RowKit K SH DK JR
def actD (n : Nat) (d : DS) (s : LG) (L : List By) (o : OpV) : DS × LG × Int := if o.ag = true then resD n d s (o.M.map (·.1)) else appD n d s L o.B
def actR (W : List By) (o : OpV) (n : Nat) : Nat := if o.ag = true then resR (o.M.map (·.1)) n else appR W o.B n
def nxt (W : List By) (o : OpV) : List By := if o.ag = true then o.M.map (·.1) else W ++ [o.B]
def nxtV (W : List (By × Value)) (o : OpV) : List (By × Value) := if o.ag = true then o.M else W ++ [(o.B, o.bv)]
section
variable {m0 m : Mem} {w0 w : World} {Es : List Ent}
def DoOut (m0 m : Mem) (w0 w' : World) (Es : List Ent) (g b s n : Nat) (d : DS) (sl : LG) (N : List (By × Value)) (L : List By) (wl : Value) (W : List (By × Value)) (o : OpV) (v : Value) : Prop :=
 ∃ m' wv' lv' N' mv, (∀ k o, m k = some o → m' k = some o) ∧ v = .tuple #[mv, .int .i64 (actD n d sl L o).2.2, .int .i64 (actR (W.map (·.1)) o n : Nat)] ∧ Pcs m' N' ∧ N'.map (·.1) = (if (actD n d sl L o).2.2 = 0 then nxt L o else L) ∧
  PcsM m' mv (if actR (W.map (·.1)) o n = 0 then nxtV W o else W) ∧ PcsN m m' N N' ∧ (actR (W.map (·.1)) o n = 0 → ¬ o.ag = true → ApartR m m' mv (W ++ [(o.B, o.bv)])) ∧ (actR (W.map (·.1)) o n = 0 → o.ag = true → mv = o.lv) ∧ (actR (W.map (·.1)) o n ≠ 0 → mv = wl) ∧ St m0 m' [] w0 w' (logB g b (actD n d sl L o).2.1 lv' :: lrE lv' N' :: diskO b s n wv' (actD n d sl L o).1 :: Es)
theorem c_do {g b s n : Nat} {sl : LG} {lv wv wl : Value} {d : DS} {N W : List (By × Value)} {o : OpV} (st : St m0 m [] w0 w (logB g b sl lv :: lrE lv N :: diskO b s n wv d :: Es)) (hr : Rdy n d 100000) (hP : Pcs m N) (hn8 : 8 ≤ n) (hsl : sl.half ≤ 1) (hf1 : sl.fin ≤ n / 2 * 64) (hNn : N.length ≤ 100000)
  (hW : PcsM m wl W) (hWl : ∀ y ∈ W, y.1.length ≤ 1048576) (hWn : W.length ≤ 100000) (ho : OpOk m o) (hoM : o.M.length ≤ 1048576) :
  Ret Try.prog 11 #[.pointer (some ⟨g, 0, none⟩), wl, .agg (opC o).toArray, .int .i64 n] w fun v w' => DoOut m0 m w0 w' Es g b s n d sl N (N.map (·.1)) wl W o v := by
 have hn := hr.ok.le
 obtain ⟨hB, hM⟩ := ho
 have hNl : (N.map (·.1)).length = N.length := List.length_map _
 refine ret_of Try.call11 Try.func11 rfl Try.ntmps11 Try.results11 rfl ?_
 refine wc_seq ?_
 refine wc_region ?_
 refine wl_box (v := .agg (opC o).toArray) rfl st rfl ?_
 intro b6 w st
 have st : St m0 m [] w0 w (logB g b sl lv :: lrE lv N :: diskO b s n wv d :: K.blk b6 (opC o).toArray 32 :: Es) := st.perm (List.perm_middle (l₁ := [_, _, _])).symm
 refine wl_val (v_assign' (by conv => (lhs; whnf))) rfl ?_
 refine wl_val (v_assign' (by conv => (lhs; whnf))) rfl ?_
 refine wl_val (v_assign' (by conv => (lhs; whnf))) rfl ?_
 refine wl_nil ?_
 refine then_go ?_
 refine wc_seq ?_
 refine wc_seq ?_
 refine wc_region ?_
 refine wl_val (v_fa TF.f32_0 rfl) rfl ?_
 refine wl_val (v_load rfl (st.reads (v := .bool o.ag) 3 rfl TF.t4 rfl)) rfl ?_
 refine wl_nil ?_
 refine then_go ?_
 refine wc_cond rfl (fun h16 => ?_) (fun h16 => ?_)
 ·refine wc_seq ?_
  refine wc_region ?_
  refine wl_val (v_move' (by conv => (lhs; whnf))) rfl ?_
  refine wl_val (v_fa TF.f32_2 rfl) rfl ?_
  refine wl_val (v_load rfl (st.reads (v := o.lv) 3 rfl TF.t29 rfl)) rfl ?_
  refine wl_val (v_move' (by conv => (lhs; whnf))) rfl ?_
  refine wl_call rfl (c_rrestart st.im hW hM hoM (by omega) (by omega)) rfl ?_
  rintro v22 w ⟨t22, rfl⟩
  have st := st.pure t22
  refine wl_val (v_move' (by conv => (lhs; whnf))) rfl ?_
  refine wl_val (v_extract rfl rfl) rfl ?_
  refine wl_val (v_extract rfl rfl) rfl ?_
  refine wl_val (v_assign' (by conv => (lhs; whnf))) rfl ?_
  refine wl_val (v_assign' (by conv => (lhs; whnf))) rfl ?_
  refine wl_nil ?_
  refine then_go ?_
  refine wc_seq ?_
  refine wc_region ?_
  refine wl_val (v_move' (by conv => (lhs; whnf))) rfl ?_
  refine wl_val (v_move' (by conv => (lhs; whnf))) rfl ?_
  refine wl_val (v_fa TF.f32_2 rfl) rfl ?_
  refine wl_val (v_load rfl (st.reads (v := o.lv) 3 rfl TF.t29 rfl)) rfl ?_
  refine wl_call rfl (c_restart st hr hP hn8 hsl hM hoM) rfl ?_
  rintro v29 w ⟨m1, wv1, lv1, N1, hmm1, rfl, hP1, hPn1, hN1, st⟩
  refine wl_val (v_move' (by conv => (lhs; whnf))) rfl ?_
  refine wl_val (v_assign' (by conv => (lhs; whnf))) rfl ?_
  refine wl_val (v_assign' (by conv => (lhs; whnf))) rfl ?_
  refine wl_val (v_assign' (by conv => (lhs; whnf))) rfl ?_
  refine wl_nil ?_
  refine then_go ?_
  refine wc_ret (then_ret ?_)
  have e1 : actD n d sl (N.map (·.1)) o = resD n d sl (o.M.map (·.1)) := by unfold actD; rw [if_pos h16]
  have e2 : actR (W.map (·.1)) o n = resR (o.M.map (·.1)) n := by unfold actR; rw [if_pos h16]
  refine ret3 rfl rfl rfl ⟨m1, wv1, lv1, N1, _, hmm1, by rw [e1, e2]; rfl, hP1, by rw [e1, hN1]; unfold nxt; rw [if_pos h16], ?_, hPn1, fun _ h => (h h16).elim, fun h _ => by rw [e2] at h; exact if_pos h, fun h => by rw [e2] at h; exact if_neg h, by rw [e1]; exact st.keepOnly (List.Sublist.cons_cons _ (List.Sublist.cons_cons _ (List.Sublist.cons_cons _ (List.sublist_cons_self _ _))))⟩
  rw [e2]
  unfold nxtV
  rw [if_pos h16]
  show PcsM m1 (if resR (o.M.map (·.1)) n = 0 then o.lv else wl) _
  split
  ·exact hM.mono hmm1
  ·exact hW.mono hmm1
 ·refine wc_skip ?_
  refine then_go ?_
  refine wc_seq ?_
  refine wc_region ?_
  refine wl_val (v_move' (by conv => (lhs; whnf))) rfl ?_
  refine wl_val (v_fa TF.f32_1 rfl) rfl ?_
  refine wl_val (v_load rfl (st.reads (v := o.bv) 3 rfl TF.t30 rfl)) rfl ?_
  refine wl_val (v_move' (by conv => (lhs; whnf))) rfl ?_
  refine wl_call rfl (c_rappend st.im hW hWl hWn hB (by omega) (by omega)) rfl ?_
  rintro v36 w ⟨t36, m1, hg1, hi1, mv, rfl, hmv, hma, hme⟩
  have st := st.grown hg1 t36 hi1
  have hP := hP.mono hg1.le
  have hB := hB.mono hg1.le
  refine wl_val (v_move' (by conv => (lhs; whnf))) rfl ?_
  refine wl_val (v_extract rfl rfl) rfl ?_
  refine wl_val (v_extract rfl rfl) rfl ?_
  refine wl_val (v_assign' (by conv => (lhs; whnf))) rfl ?_
  refine wl_val (v_assign' (by conv => (lhs; whnf))) rfl ?_
  refine wl_nil ?_
  refine then_go ?_
  refine wc_seq ?_
  refine wc_region ?_
  refine wl_val (v_move' (by conv => (lhs; whnf))) rfl ?_
  refine wl_val (v_move' (by conv => (lhs; whnf))) rfl ?_
  refine wl_val (v_fa TF.f32_1 rfl) rfl ?_
  refine wl_val (v_load rfl (st.reads (v := o.bv) 3 rfl TF.t30 rfl)) rfl ?_
  refine wl_call rfl (c_append st hr hP hB hsl hf1 (by omega)) rfl ?_
  rintro v43 w ⟨m2, wv1, lv1, N1, hmm1, rfl, hP1, hPn1, hN1, st⟩
  refine wl_val (v_move' (by conv => (lhs; whnf))) rfl ?_
  refine wl_val (v_assign' (by conv => (lhs; whnf))) rfl ?_
  refine wl_val (v_assign' (by conv => (lhs; whnf))) rfl ?_
  refine wl_val (v_assign' (by conv => (lhs; whnf))) rfl ?_
  refine wl_nil ?_
  refine then_go ?_
  refine wc_ret ?_
  have h16' : ¬ o.ag = true := by rw [h16]; decide
  have e1 : actD n d sl (N.map (·.1)) o = appD n d sl (N.map (·.1)) o.B := by unfold actD; rw [if_neg h16']
  have e2 : actR (W.map (·.1)) o n = appR (W.map (·.1)) o.B n := by unfold actR; rw [if_neg h16']
  refine ret3 rfl rfl rfl ⟨m2, wv1, lv1, N1, mv, fun k o h => hmm1 k o (hg1.le k o h), by rw [e1, e2]; rfl, hP1, by rw [e1, hN1]; unfold nxt; rw [if_neg h16'], ?_, fun y hy => (hPn1 y hy).imp id fun h => h.mono hg1.le fun _ _ h => h, fun h _ => (hma (by rw [← e2]; exact h)).mono (fun _ _ h => h) hmm1, fun _ h => (h16' h).elim, fun h => hme (by rw [← e2]; exact h), by rw [e1]; exact st.keepOnly (List.Sublist.cons_cons _ (List.Sublist.cons_cons _ (List.Sublist.cons_cons _ (List.sublist_cons_self _ _))))⟩
  rw [e2]
  unfold nxtV
  rw [if_neg h16']
  exact hmv.mono hmm1
theorem c_fresh {z : Int} (st : St m0 m [] w0 w Es) :
  Ret Try.prog 8 #[.int .i64 z] w fun v w' => ∃ m' b s wv g lv n S sl, 8 ≤ n ∧ n ≤ 47 ∧ LogOk n S sl [] ∧ sl.gen = 1 ∧ (∀ k o, m k = some o → m' k = some o) ∧ v = .tuple #[.pointer (some ⟨b, 0, none⟩), .pointer (some ⟨g, 0, none⟩)] ∧ St m0 m' [] w0 w' (logB g b sl lv :: lrE lv [] :: diskO b s n wv (calm S) :: Es) := by
 refine ret_of Try.call8 Try.func8 rfl Try.ntmps8 Try.results8 rfl ?_
 refine wc_seq ?_
 refine wc_region ?_
 refine wl_val (v_assign' (by conv => (lhs; whnf))) rfl ?_
 refine wl_val (v_assign' (by conv => (lhs; whnf))) rfl ?_
 refine wl_nil ?_
 refine then_go ?_
 refine wc_seq ?_
 obtain ⟨u, hu⟩ : ∃ u, u = IntKind.u64.wrap z := ⟨_, rfl⟩
 have hu0 : 0 ≤ u := by rw [hu, IntKind.wrap_u64]; omega
 obtain ⟨k, hk⟩ : ∃ k : Nat, u % 40 = k := ⟨(u % 40).toNat, (Int.toNat_of_nonneg (Int.emod_nonneg _ (by omega))).symm⟩
 have hkl : k < 40 := by omega
 refine wc_region ?_
 refine wl_val (v_move' (by conv => (lhs; whnf))) rfl ?_
 refine wl_val (v_to (v' := .int .u64 u) (v_conv Try.underlying3 Try.underlying42 rfl) (by rw [hu])) rfl ?_
 refine wl_val (v_rem' rfl rfl hu0 (by omega) hk) rfl ?_
 refine wl_val (v_to (v' := .int .i64 (k : Nat)) (v_conv Try.underlying42 Try.underlying3 rfl) (by rw [wrap_i64 (by omega) (by omega)])) rfl ?_
 refine wl_val (v_add' (c := ((8 + k : Nat) : Int)) rfl rfl (by omega) (by omega) (by omega)) rfl ?_
 refine wl_call rfl (c_new ((8 + k : Nat) : Int) st.im) rfl ?_
 intro v13 w h13
 rw [if_neg (by omega)] at h13
 obtain ⟨p, ⟨b, s, wv, rfl, t13, hE⟩, rfl⟩ := h13
 have st := st.new t13 hE
 obtain ⟨n, hn⟩ : ∃ n, n = 8 + k := ⟨_, rfl⟩
 have hn8 : 8 ≤ n := by omega
 have hn2 : n ≤ 47 := by omega
 have st : St m0 m [] w0 w (diskO b s n wv (calm (List.replicate (64 * n) 0)) :: Es) := by rw [hn]; exact st
 obtain ⟨S', s', ho, hlog, hgen⟩ := open_new hn8 (by omega : n ≤ 16384)
 refine wl_val (v_move' (by conv => (lhs; whnf))) rfl ?_
 refine wl_val (v_extract rfl rfl) rfl ?_
 refine wl_val (v_extract rfl rfl) rfl ?_
 refine wl_val (v_assign' (by conv => (lhs; whnf))) rfl ?_
 refine wl_val (v_assign' (by conv => (lhs; whnf))) rfl ?_
 refine wl_nil ?_
 refine then_go ?_
 refine wc_seq ?_
 refine wc_seq ?_
 refine wc_region ?_
 refine wl_val (v_move' (by conv => (lhs; whnf))) rfl ?_
 refine wl_val (wl_valD (v_neq rfl rfl) (q := false) rfl) rfl ?_
 refine wl_val (v_move' (by conv => (lhs; whnf))) rfl ?_
 refine wl_on rfl rfl ?_
 refine wl_val (v_move' (by conv => (lhs; whnf))) rfl ?_
 refine wl_on rfl rfl ?_
 refine wl_val (v_eq_nil (p := some ⟨b, 0, none⟩) Try.underlying23 rfl rfl) rfl ?_
 refine wl_val (v_pick rfl) rfl ?_
 refine wl_nil ?_
 refine then_go ?_
 refine wc_false rfl ?_
 refine wc_skip ?_
 refine then_go ?_
 refine wc_seq ?_
 refine wc_region ?_
 refine wl_val (v_move' (by conv => (lhs; whnf))) rfl ?_
 refine wl_call rfl (c_open st (by simp) hn8 (by omega) (by rw [ho])) rfl ?_
 rintro v24 w ⟨m1, wv1, g, lv, N', hmm1, rfl, hP, hN, st⟩
 rw [ho] at hN st ⊢
 have hN0 : N' = [] := List.map_eq_nil_iff.1 hN
 subst hN0
 refine wl_val (v_move' (by conv => (lhs; whnf))) rfl ?_
 refine wl_val (v_extract rfl rfl) rfl ?_
 refine wl_val (v_extract rfl rfl) rfl ?_
 refine wl_val (v_assign' (by conv => (lhs; whnf))) rfl ?_
 refine wl_val (v_assign' (by conv => (lhs; whnf))) rfl ?_
 refine wl_nil ?_
 refine then_go ?_
 refine wc_seq ?_
 refine wc_seq ?_
 refine wc_region ?_
 refine wl_val (v_move' (by conv => (lhs; whnf))) rfl ?_
 refine wl_val (v_neq rfl rfl) rfl ?_
 refine wl_nil ?_
 refine then_go ?_
 refine wc_false rfl ?_
 refine wc_skip ?_
 refine then_go ?_
 refine wc_seq ?_
 refine wc_region ?_
 refine wl_val (v_move' (by conv => (lhs; whnf))) rfl ?_
 refine wl_val (v_move' (by conv => (lhs; whnf))) rfl ?_
 refine wl_val (v_assign' (by conv => (lhs; whnf))) rfl ?_
 refine wl_val (v_assign' (by conv => (lhs; whnf))) rfl ?_
 refine wl_nil ?_
 refine then_go ?_
 refine wc_ret ?_
 exact ret2 rfl rfl ⟨m1, b, s, wv1, g, lv, n, S', s', hn8, hn2, hlog, hgen, hmm1, rfl, st⟩
theorem act_ok {n : Nat} {S : By} {s : LG} {L : List By} {o : OpV} (h : LogOk n S s L) (hg : s.gen.toNat + 1 < 18446744073709551616) : ∃ S' s', actD n (calm S) s L o = (calm S', s', ((actR L o n : Nat) : Int)) ∧ LogOk n S' s' (if actR L o n = 0 then nxt L o else L) ∧ s'.gen = (if o.ag = true ∧ actR L o n = 0 then s.gen + 1 else s.gen) := by
 unfold actD actR nxt
 by_cases ha : o.ag = true
 ·simp only [if_pos ha]
  obtain ⟨S', s', h1, h2, h3⟩ := h.res hg (M := o.M.map (·.1))
  exact ⟨S', s', h1, h2, by rw [h3]; simp [ha]⟩
 ·simp only [if_neg ha]
  obtain ⟨S', s', h1, h2, h3, _⟩ := h.app (x := o.B)
  exact ⟨S', s', h1, h2, by rw [h3, if_neg (fun h => ha h.1)]⟩
theorem JR.LogOk.few {n : Nat} {S : By} {s : LG} {L : List By} (h : LogOk n S s L) : L.length ≤ 8192 ∧ ∀ x ∈ L, x.length ≤ 1048576 := by
 have h1 := sizeL_ge (l := L)
 have h2 := h.fit
 have h3 := h.nle
 exact ⟨by omega, fun x hx => (h.okr x hx).2⟩
theorem JR.LogOk.finle {n : Nat} {S : By} {s : LG} {L : List By} (h : LogOk n S s L) : s.fin ≤ n / 2 * 64 := by rw [h.fin]; exact h.fit
theorem c_works14 (st : St m0 m [] w0 w Es) : Ret Try.prog 10 #[] w fun v w' => (∃ m', (∀ k o, m k = some o → m' k = some o) ∧ St m0 m' [] w0 w' Es) ∧ v = .bool true := by
 refine ret_of Try.call10 Try.func10 rfl Try.ntmps10 Try.results10 rfl ?_
 refine wc_seq ?_
 refine wc_region ?_
 refine wl_val (v_assign' (by conv => (lhs; whnf))) rfl ?_
 refine wl_nil ?_
 refine then_go ?_
 refine wc_seq ?_
 refine wc_region ?_
 refine wl_call rfl (c_new 8 st.im) rfl ?_
 intro v7 w h7
 rw [if_neg (by decide)] at h7
 obtain ⟨p, ⟨b, s, wv, rfl, t7, hE⟩, rfl⟩ := h7
 have st := st.new t7 hE
 have st : St m0 m [] w0 w (diskO b s 8 wv (calm (List.replicate (64 * 8) 0)) :: Es) := st
 obtain ⟨S1, s1, ho, hlog, hgen⟩ := open_new (n := 8) (by decide) (by decide)
 refine wl_val (v_move' (by conv => (lhs; whnf))) rfl ?_
 refine wl_val (v_extract rfl rfl) rfl ?_
 refine wl_val (v_extract rfl rfl) rfl ?_
 refine wl_val (v_assign' (by conv => (lhs; whnf))) rfl ?_
 refine wl_val (v_assign' (by conv => (lhs; whnf))) rfl ?_
 refine wl_nil ?_
 refine then_go ?_
 refine wc_seq ?_
 refine wc_seq ?_
 refine wc_region ?_
 refine wl_val (v_move' (by conv => (lhs; whnf))) rfl ?_
 refine wl_val (wl_valD (v_neq rfl rfl) (q := false) rfl) rfl ?_
 refine wl_val (v_move' (by conv => (lhs; whnf))) rfl ?_
 refine wl_on rfl rfl ?_
 refine wl_val (v_move' (by conv => (lhs; whnf))) rfl ?_
 refine wl_on rfl rfl ?_
 refine wl_val (v_eq_nil (p := some ⟨b, 0, none⟩) Try.underlying23 rfl rfl) rfl ?_
 refine wl_val (v_pick rfl) rfl ?_
 refine wl_nil ?_
 refine then_go ?_
 refine wc_false rfl ?_
 refine wc_skip ?_
 refine then_go ?_
 refine wc_seq ?_
 refine wc_region ?_
 refine wl_val (v_move' (by conv => (lhs; whnf))) rfl ?_
 refine wl_call rfl (c_open st List.length_replicate (by decide) (by decide) (by rw [ho])) rfl ?_
 rintro v18 w ⟨m1, wv1, g, lv, N', hmm1, rfl, hP, hN, st⟩
 rw [ho] at hN st ⊢
 have hN0 : N' = [] := List.map_eq_nil_iff.1 hN
 subst hN0
 have st : St m0 m1 [] w0 w (logB g b s1 lv :: lrE lv [] :: diskO b s 8 wv1 (calm S1) :: Es) := st
 refine wl_val (v_move' (by conv => (lhs; whnf))) rfl ?_
 refine wl_val (v_extract rfl rfl) rfl ?_
 refine wl_val (v_extract rfl rfl) rfl ?_
 refine wl_val (v_assign' (by conv => (lhs; whnf))) rfl ?_
 refine wl_val (v_assign' (by conv => (lhs; whnf))) rfl ?_
 refine wl_nil ?_
 refine then_go ?_
 refine wc_seq ?_
 refine wc_seq ?_
 refine wc_region ?_
 refine wl_val (v_move' (by conv => (lhs; whnf))) rfl ?_
 refine wl_val (wl_valD (v_neq rfl rfl) (q := false) rfl) rfl ?_
 refine wl_val (v_move' (by conv => (lhs; whnf))) rfl ?_
 refine wl_on rfl rfl ?_
 refine wl_val (v_move' (by conv => (lhs; whnf))) rfl ?_
 refine wl_on rfl rfl ?_
 refine wl_val (v_eq_nil (p := some ⟨g, 0, none⟩) Try.underlying24 rfl rfl) rfl ?_
 refine wl_val (v_pick rfl) rfl ?_
 refine wl_val (v_move' (by conv => (lhs; whnf))) rfl ?_
 refine wl_on rfl rfl ?_
 refine wl_val (v_move' (by conv => (lhs; whnf))) rfl ?_
 refine wl_on rfl rfl ?_
 refine wl_byte1 97 Try.underlying30 TF.t5 TF.z5 rfl st rfl ?_
 intro b29 w st
 refine wl_on rfl rfl ?_
 refine wl_constB Try.underlying30 Try.underlying5 rfl st (by simp) rfl ?_
 intro m2 w hmm2 hm2 st
 have hmm2 : ∀ k o, m k = some o → m2 k = some o := fun k o h => hmm2 k o (hmm1 k o h)
 have hb29 : SlM m2 (.slice (some ⟨b29, 0, none⟩) 1 1) 1 ([97] : By).length (bs [97]) := SlM.ofBlock (o := 0) (cap := 1) (l := [97]) (pre := []) (post := []) hm2 rfl rfl (Nat.le_refl _)
 refine wl_on rfl rfl ?_
 refine wl_call rfl (c_append (N := []) st (rdy_calm hlog.len (by decide) (by decide)) (by intro x hx; cases hx) hb29 hlog.half hlog.finle (Nat.zero_le _)) rfl ?_
 rintro v31 w ⟨m3, wv3, lv3, N3, hmm3, rfl, hP3, _, hN3, st⟩
 obtain ⟨S2, s2, ha, hlog2, hg2, _⟩ := hlog.app (x := [97])
 have hR : appR [] [97] 8 = 0 := by decide
 rw [hR, if_pos rfl] at hlog2
 have ha : appD 8 (calm S1) s1 (([] : List (By × Value)).map (·.1)) [97] = (calm S2, s2, 0) := by rw [hR] at ha; exact ha
 rw [ha] at hN3 st ⊢
 have hmm3 : ∀ k o, m k = some o → m3 k = some o := fun k o h => hmm3 k o (hmm2 k o h)
 have st : St m0 m3 [] w0 w (logB g b s2 lv3 :: lrE lv3 N3 :: diskO b s 8 wv3 (calm S2) :: Es) := st
 refine wl_on rfl rfl ?_
 refine wl_val (wl_valD (v_neq rfl rfl) (q := false) rfl) rfl ?_
 refine wl_val (v_pick rfl) rfl ?_
 refine wl_nil ?_
 refine then_go ?_
 refine wc_false rfl ?_
 refine wc_skip ?_
 refine then_go ?_
 refine wc_seq ?_
 refine wc_region ?_
 refine wl_val (v_move' (by conv => (lhs; whnf))) rfl ?_
 refine wl_call rfl (disk_callI 2 st rfl (c_crash (keep := []) st.im (st.at (i := 2) rfl) (st.none (i := 2) rfl) (ok_calm hlog2.len (by decide) (by decide)) (Nat.zero_le _) SlM.nil)) rfl ?_
 rintro v35 w ⟨wv4, d4, st, rfl⟩
 have st : St m0 m3 [] w0 w (diskO b s 8 wv4 (calm S2) :: Es) := (st.drop 0).drop 0
 have hop2 := hlog2.opens
 refine wl_nil ?_
 refine then_go ?_
 refine wc_seq ?_
 refine wc_region ?_
 refine wl_val (v_move' (by conv => (lhs; whnf))) rfl ?_
 refine wl_call rfl (c_open st hlog2.len (by decide) (by decide) (by rw [hop2])) rfl ?_
 rintro v38 w ⟨m4, wv5, g2, lv5, N5, hmm4, rfl, hP5, hN5, st⟩
 rw [hop2] at hN5 st ⊢
 have hmm4 : ∀ k o, m k = some o → m4 k = some o := fun k o h => hmm4 k o (hmm3 k o h)
 have st : St m0 m4 [] w0 w (logB g2 b s2 lv5 :: lrE lv5 N5 :: diskO b s 8 wv5 (calm S2) :: Es) := st
 have hN5 : N5.map (·.1) = [[97]] := hN5
 refine wl_val (v_move' (by conv => (lhs; whnf))) rfl ?_
 refine wl_val (v_extract rfl rfl) rfl ?_
 refine wl_val (v_extract rfl rfl) rfl ?_
 refine wl_val (v_assign' (by conv => (lhs; whnf))) rfl ?_
 refine wl_val (v_assign' (by conv => (lhs; whnf))) rfl ?_
 refine wl_nil ?_
 refine then_go ?_
 refine wc_seq ?_
 refine wc_seq ?_
 refine wc_region ?_
 refine wl_val (v_move' (by conv => (lhs; whnf))) rfl ?_
 refine wl_val (wl_valD (v_neq rfl rfl) (q := false) rfl) rfl ?_
 refine wl_val (v_move' (by conv => (lhs; whnf))) rfl ?_
 refine wl_on rfl rfl ?_
 refine wl_val (v_move' (by conv => (lhs; whnf))) rfl ?_
 refine wl_on rfl rfl ?_
 refine wl_val (v_eq_nil (p := some ⟨g2, 0, none⟩) Try.underlying24 rfl rfl) rfl ?_
 refine wl_val (v_pick rfl) rfl ?_
 refine wl_nil ?_
 refine then_go ?_
 refine wc_false rfl ?_
 refine wc_skip ?_
 refine then_go ?_
 refine wc_seq ?_
 refine wc_region ?_
 refine wl_val (v_move' (by conv => (lhs; whnf))) rfl ?_
 refine wl_call rfl (c_logAll st hP5 (fun x hx => (hlog2.few).2 x.1 (by show x.1 ∈ [[97]]; rw [← hN5]; exact List.mem_map.2 ⟨x, hx, rfl⟩)) (by have := congrArg List.length hN5; rw [List.length_map] at this; rw [this]; decide)) rfl ?_
 rintro v48 w ⟨A, hA, st⟩
 obtain ⟨x, hAx⟩ : ∃ x, A = [([97], x)] := by
  rw [hN5] at hA
  match A, hA with
  | [y], hA => exact ⟨y.2, by rw [List.map_singleton, List.cons.injEq] at hA; rw [← hA.1]⟩
  | _ :: _ :: _, hA => simp at hA
 subst hAx
 have st : St m0 m4 [] w0 w (lrE v48 [([97], x)] :: byE x [97] :: logB g2 b s2 lv5 :: lrE lv5 N5 :: diskO b s 8 wv5 (calm S2) :: Es) := st
 have hM := lr_PcsM (N := [([97], x)]) st 0 rfl
 obtain ⟨va, vc, hv48⟩ := row_sl (st.at (i := 0) rfl)
 subst hv48
 have hxS := byE_SlM st 1 rfl
 have hpc : PcsM (heapM w) (.slice va 1 vc) [([97], x)] := ⟨row_SlM (m := heapM w) (st.at (i := 0) rfl) (fun _ _ _ h => h), fun y hy => by rw [List.mem_singleton.1 hy]; exact hxS⟩
 obtain ⟨eb, eo, _, hev, hse, hre⟩ := hpc.elem (i := 0) Nat.zero_lt_one
 cases hev
 refine wl_val (v_assign' (by conv => (lhs; whnf))) rfl ?_
 refine wl_nil ?_
 refine then_go ?_
 refine wc_seq ?_
 refine wc_region ?_
 refine wl_val (v_move' (by conv => (lhs; whnf))) rfl ?_
 refine wl_val (v_len_s Try.underlying29 rfl) rfl ?_
 refine wl_val (v_eqlT (by rfl) rfl rfl) rfl ?_
 refine wl_val (v_move' (by conv => (lhs; whnf))) rfl ?_
 refine wl_on rfl rfl ?_
 refine wl_val (v_move' (by conv => (lhs; whnf))) rfl ?_
 refine wl_on rfl rfl ?_
 refine wl_val (v_ias 0 Try.underlying29 TF.t30 rfl rfl (by first | rfl | omega) Nat.zero_lt_one) rfl ?_
 refine wl_on rfl rfl ?_
 refine wl_val (v_load rfl (hre (im_heapM _))) rfl ?_
 refine wl_on rfl rfl ?_
 refine wl_val (v_b2s Try.underlying30 Try.underlying5 Try.underlying9 (im_heapM _) hse rfl) rfl ?_
 refine wl_on rfl rfl ?_
 refine wl_val (wl_valD (v_eqs (b := [97]) rfl rfl) (q := true) (decide_eq_true rfl)) rfl ?_
 refine wl_val (v_pick rfl) rfl ?_
 refine wl_val (v_move' (by conv => (lhs; whnf))) rfl ?_
 refine wl_on rfl rfl ?_
 refine wl_val (v_move' (by conv => (lhs; whnf))) rfl ?_
 refine wl_on rfl rfl ?_
 have st := (st.drop 0).drop 0
 refine wl_call rfl (c_logGen (lv := lv5) st) rfl ?_
 rintro v61 w ⟨t61, rfl⟩
 have st := st.pure t61
 refine wl_on rfl rfl ?_
 refine wl_val (wl_valD (v_eql64 (q := 1) rfl rfl) (q := true) (decide_eq_true (by rw [hg2, hgen]))) rfl ?_
 refine wl_val (v_pick rfl) rfl ?_
 refine wl_val (v_assign' (by conv => (lhs; whnf))) rfl ?_
 refine wl_nil ?_
 refine then_go ?_
 refine wc_ret ?_
 exact ret1 rfl ⟨⟨m4, hmm4, ((st.drop 0).drop 0).drop 0⟩, rfl⟩
end
end Go.Proofs.Ytnaoafogdplnaaa

namespace Go.Proofs.Ytnaoafogdplnaaa
open Go Go.RowKit K SH DK JR
section
variable {m : Mem} {wI : World}
theorem c_same14 {av bv : Value} {A B : List (By × Value)} (him : Im m wI) (ha : PcsM m av A) (hb : PcsM m bv B) (hAB : A.map (·.1) = B.map (·.1)) (hA : A.length ≤ 1000000000) :
  Ret Try.prog 14 #[av, bv] wI fun v w' => Tch wI w' [] [] ∧ v = .bool true := by
 have st := St.start him
 refine ret_of Try.call14 Try.func14 rfl Try.ntmps14 Try.results14 rfl ?_
 refine wc_seq ?_
 refine wc_region ?_
 refine wl_val (v_assign' (by conv => (lhs; whnf))) rfl ?_
 refine wl_nil ?_
 refine then_go ?_
 refine wc_seq ?_
 refine wc_region ?_
 refine wl_val (v_move' (by conv => (lhs; whnf))) rfl ?_
 refine wl_val (v_move' (by conv => (lhs; whnf))) rfl ?_
 refine wl_call rfl (c_sametexts st.im ha hb hAB hA) rfl ?_
 rintro v7 w ⟨t7, rfl⟩
 have st := st.pure t7
 refine wl_val (v_assign' (by conv => (lhs; whnf))) rfl ?_
 refine wl_nil ?_
 refine then_go ?_
 refine wc_ret ?_
 exact ret1 rfl ⟨st.touch, rfl⟩
end
end Go.Proofs.Ytnaoafogdplnaaa

namespace Go.Proofs.Ytnaoafogdplnaaa
open Go Go.RowKit K SH DK JR
end Go.Proofs.Ytnaoafogdplnaaa

namespace Go.Proofs.Ytnaoafogdplnaaa
open Go Go.RowKit K SH DK JR
end Go.Proofs.Ytnaoafogdplnaaa

namespace Go.Proofs.Ytnaoafogdplnaaa
open Go Go.RowKit K SH DK JR
theorem v_add8 {P : Program} {r : Fr} {w : World} {ty T U : TypeId} {x y : Operand} {a b : UInt8} (hx : ev r x = u8 a) (hy : ev r y = u8 b) : Val P (.binOp .add T x y U) ty r w (u8 (a + b)) w := by
 have h := v_add (P := P) (w := w) (ty := ty) (T := T) (U := U) hx hy
 have e : IntKind.u8.wrap ((a.toNat : Int) + (b.toNat : Int)) = ((a + b).toNat : Int) := by
  rw [show (a.toNat : Int) + (b.toNat : Int) = ((a.toNat + b.toNat : Nat) : Int) by omega, wrap_u8, UInt8.toNat_add, UInt8.toNat_ofNat']
 rw [e] at h
 exact h
section
variable {m0 m : Mem} {w0 w : World} {Es : List Ent}
def DoOutB (m0 m : Mem) (w0 w' : World) (Es : List Ent) (g b s n : Nat) (d : DS) (sl : LG) (L : List By) (wl : Value) (W : List (By × Value)) (o : OpV) (v : Value) : Prop :=
 ∃ m' wv' lv' N' mv, (∀ k o, m k = some o → m' k = some o) ∧ v = .tuple #[mv, .int .i64 (actD n d sl L o).2.2, .int .i64 (actR (W.map (·.1)) o n : Nat)] ∧ Pcs m' N' ∧ N'.map (·.1) = (if (actD n d sl L o).2.2 = 0 then nxt L o else L) ∧
  (actR (W.map (·.1)) o n = 0 → ¬ o.ag = true → SlM m' mv 1 (W ++ [(o.B, o.bv)]).length ((W ++ [(o.B, o.bv)]).map (·.2))) ∧ (actR (W.map (·.1)) o n = 0 → o.ag = true → mv = o.lv) ∧ (actR (W.map (·.1)) o n ≠ 0 → mv = wl) ∧
  St m0 m' [] w0 w' (byE o.bv o.B :: logB g b (actD n d sl L o).2.1 lv' :: lrE lv' N' :: diskO b s n wv' (actD n d sl L o).1 :: Es)
theorem p4 {a b c d : Ent} {l : List Ent} : List.Perm (a :: b :: c :: d :: l) (b :: c :: d :: a :: l) := (List.perm_middle (l₁ := [b, c, d])).symm
theorem c_doB {g b s n : Nat} {sl : LG} {lv wv wl : Value} {d : DS} {N W : List (By × Value)} {o : OpV} (st : St m0 m [] w0 w (byE o.bv o.B :: logB g b sl lv :: lrE lv N :: diskO b s n wv d :: Es)) (hr : Rdy n d 100000) (hP : Pcs m N) (hn8 : 8 ≤ n) (hsl : sl.half ≤ 1) (hf1 : sl.fin ≤ n / 2 * 64) (hNn : N.length ≤ 100000)
  (hW : PcsM m wl W) (hWl : ∀ y ∈ W, y.1.length ≤ 1048576) (hWn : W.length ≤ 100000) (ho : PcsM m o.lv o.M) (hoM : o.M.length ≤ 1048576) :
  Ret Try.prog 11 #[.pointer (some ⟨g, 0, none⟩), wl, .agg (opC o).toArray, .int .i64 n] w fun v w' => DoOutB m0 m w0 w' Es g b s n d sl (N.map (·.1)) wl W o v := by
 by_cases hB : o.B = []
 ·have hs : SlM m o.bv 1 o.B.length (bs o.B) := by
   have h := byE_SlM st 0 rfl
   rw [hB] at h ⊢
   obtain ⟨h1, a, c, h2, h3, h4, _⟩ := h
   exact ⟨h1, a, c, h2, h3, h4, by intro j u hj; simp [bs] at hj⟩
  refine (c_do (st.perm p4) hr hP hn8 hsl hf1 hNn hW hWl hWn ⟨hs, ho⟩ hoM).mono ?_
  rintro v w' ⟨m', wv', lv', N', mv, hmm, hv, hP', hN', hmv, _, ha, hb, hc, st'⟩
  refine ⟨m', wv', lv', N', mv, hmm, hv, hP', hN', fun h1 h2 => ?_, hb, hc, st'.perm p4.symm⟩
  obtain ⟨m1, q1, q2⟩ := ha h1 h2
  exact q2.mono fun k o hk => (q1 k o hk).1
 ·have hpos : 0 < o.B.length := by
   cases h : o.B with
   | nil => exact (hB h).elim
   | cons c l => simp
  obtain ⟨g1, cap, sp, hbv, _, _, _, stO⟩ := st.rowOpen 0 rfl hpos
  have hH : w.heap[g1]? = some (.cells (bs o.B ++ sp).toArray 5 (0, 0)) := stO.at (i := 0) rfl
  have hown := st.own (byE o.bv o.B) (by simp) g1 (by simp [rowE, hbv, Value.ownBlock])
  obtain ⟨m2, hg2, hm2, st2⟩ := st.freezeR (i := 0) rfl (by simp)
  have hs : SlM m2 o.bv 1 o.B.length (bs o.B) := row_SlM (m := m2) (st.at (i := 0) rfl) hm2
  have hbb : m2 g1 = some (.cells (bs o.B ++ sp).toArray 5 (0, 0)) := hm2 g1 _ (by rw [hbv]; rfl) hH
  have h0 : m0 g1 = none := by
   cases hq : m0 g1 with
   | none => rfl
   | some q => have := st.grow.le g1 q hq; rw [hown.1] at this; cases this
  have hBn : w0.heap.size ≤ g1 := hown.2.resolve_right (by simp)
  refine (c_do st2 hr (hP.mono hg2.le) hn8 hsl hf1 hNn (hW.mono hg2.le) hWl hWn ⟨hs, ho.mono hg2.le⟩ hoM).mono ?_
  rintro v w' ⟨m3, wv', lv', N', mv, hmm, hv, hP', hN', hmv, hPn, ha, hb, hc, st3⟩
  have st4 := K.St.thaw st3 (hmm _ _ hbb) h0 hBn
  have hle : ∀ k o, m k = some o → (fun k => if k = g1 then none else m3 k) k = some o := fun k o hk => by
   have hne : k ≠ g1 := fun e => by rw [e, hown.1] at hk; cases hk
   simp [hne, hmm k o (hg2.le k o hk)]
  have hap : ∀ {m1 : Mem}, (∀ k o, m1 k = some o → m3 k = some o ∧ m2 k = none) → ∀ k o, m1 k = some o → (fun k => if k = g1 then none else m3 k) k = some o := fun {m1} q k o hk => by
   have hne : k ≠ g1 := fun e => by have := (q k o hk).2; rw [e, hbb] at this; cases this
   simp [hne, (q k o hk).1]
  have hrow : rowE (.slice (some ⟨g1, 0, none⟩) o.B.length cap) 5 1 o.B.length (bs o.B) = byE o.bv o.B := by rw [hbv]
  refine ⟨_, wv', lv', N', mv, hle, hv, fun y hy => ?_, hN', fun h1 h2 => ?_, hb, hc, ?_⟩
  ·rcases hPn y hy with h | ⟨m1, q1, q2⟩
   ·exact (hP y h).mono hle
   ·exact q2.mono (hap q1)
  ·obtain ⟨m1, q1, q2⟩ := ha h1 h2
   exact q2.mono (hap q1)
  ·rw [← hrow]
   rename_i hcl hsz hc63
   exact st4.rowShut 0 (b := g1) (k := o.B.length) (cap := cap) (size := 1) (xs := bs o.B) rfl hcl (by simpa using hsz) hc63 (by simp [← length_bs o.B])
abbrev rowsN (A : List (By × Value)) : List Ent := A.map fun x => byE x.2 x.1
theorem rows_perm {A : List (By × Value)} {v : Value} : List.Perm (lrE v A :: (rowsE A ++ Es)) (lrE v A :: (rowsN A ++ Es)) := List.Perm.cons _ ((List.reverse_perm _).append_right _)
theorem rows_at {A : List (By × Value)} {v : Value} {i : Nat} (hi : i < A.length) : (lrE v A :: (rowsN A ++ Es))[i + 1]? = some (byE A[i].2 A[i].1) := by
 rw [List.getElem?_cons_succ, List.getElem?_append_left (by simpa using hi)]
 simp [hi]
theorem rows_pcs {A : List (By × Value)} {v : Value} (st : St m0 m [] w0 w (lrE v A :: (rowsN A ++ Es))) : PcsM (heapM w) v A := ⟨row_SlM (m := heapM w) (st.at (i := 0) rfl) (fun _ _ _ h => h), fun x hx => by
 obtain ⟨i, hi, rfl⟩ := List.getElem_of_mem hx
 exact byE_SlM st (i + 1) (rows_at hi)⟩
theorem row_turn {A : List (By × Value)} {v : Value} {i k : Nat} (hi : i < A.length) (c : UInt8) : (lrE v A :: (rowsN A ++ Es)).set (i + 1) (byE A[i].2 (A[i].1.set k c)) = lrE v (A.set i (A[i].1.set k c, A[i].2)) :: (rowsN (A.set i (A[i].1.set k c, A[i].2)) ++ Es) := by
 rw [List.set_cons_succ, List.set_append_left _ _ (by simpa using hi)]
 have e1 : (A.set i (A[i].1.set k c, A[i].2)).map (·.2) = A.map (·.2) := by
  rw [List.map_set]
  apply List.ext_getElem (by simp)
  intro j h1 h2
  rw [List.getElem_set]
  split
  ·rename_i e; subst e; simp
  ·rfl
 have e2 : lrE v (A.set i (A[i].1.set k c, A[i].2)) = lrE v A := by unfold lrE; rw [e1, List.length_set]
 rw [e2]
 unfold rowsN
 rw [List.map_set]
end
end Go.Proofs.Ytnaoafogdplnaaa

namespace Go.Proofs.Ytnaoafogdplnaaa
open Go Go.RowKit K SH DK JR
section
variable {m : Mem} {wI : World}
theorem ops_fields {va : Option Addr} {vc i : Nat} {L : List OpV} (hv : OpsM m (.slice va L.length vc) L) (hi : i < L.length) : ∃ b o, va = some ⟨b, o, none⟩ ∧ (∀ {w : World}, Im m w → Reads Try.prog w 4 ⟨b, o + i * 3 + 0, none⟩ (.bool L[i].ag)) ∧ (∀ {w : World}, Im m w → Reads Try.prog w 30 ⟨b, o + i * 3 + 1, none⟩ L[i].bv) ∧ (∀ {w : World}, Im m w → Reads Try.prog w 29 ⟨b, o + i * 3 + 2, none⟩ L[i].lv) := by
 obtain ⟨b, o, hva⟩ := hv.1.ptr (by omega) (by decide)
 subst hva
 exact ⟨b, o, rfl, fun him => hv.1.rd rfl hi (by decide) TF.t4 rfl him, fun him => hv.1.rd rfl hi (by decide) TF.t30 rfl him, fun him => hv.1.rd rfl hi (by decide) TF.t29 rfl him⟩
theorem c_journalOwn {z : Int} {lv : Value} {L : List OpV} (him : Im m wI) (hv : OpsM m lv L) (hLm : ∀ o ∈ L, o.M.length ≤ 1048576) (hLB : ∀ o ∈ L, o.B.length ≤ 1048576) :
  Ret Try.prog 3 #[.int .i64 z, lv] wI fun v w' => Tch wI w' [] [] ∧ v = .bool true := by
 have st := St.start him
 obtain ⟨la, lc, rfl⟩ := hv.1.sl
 refine ret_of Try.call3 Try.func3 rfl Try.ntmps3 Try.results3 rfl ?_
 refine wc_seq ?_
 refine wc_region ?_
 refine wl_val (v_assign' (by conv => (lhs; whnf))) rfl ?_
 refine wl_nil ?_
 refine then_go ?_
 refine wc_seq ?_
 refine wc_region ?_
 refine wl_val (v_move' (by conv => (lhs; whnf))) rfl ?_
 refine wl_call rfl (c_fresh st) rfl ?_
 rintro v20 w ⟨m1, db, ds, wv, g, glv, n, S, sl, hn8, hn47, hlog, hgen, hmm1, rfl, st⟩
 have hv := hv.mono hmm1
 refine wl_val (v_move' (by conv => (lhs; whnf))) rfl ?_
 refine wl_val (v_extract rfl rfl) rfl ?_
 refine wl_val (v_extract rfl rfl) rfl ?_
 refine wl_val (v_assign' (by conv => (lhs; whnf))) rfl ?_
 refine wl_val (v_assign' (by conv => (lhs; whnf))) rfl ?_
 refine wl_nil ?_
 refine then_go ?_
 refine wc_seq ?_
 refine wc_seq ?_
 refine wc_region ?_
 refine wl_val (v_move' (by conv => (lhs; whnf))) rfl ?_
 refine wl_val (v_eq_nil (p := some ⟨db, 0, none⟩) Try.underlying23 rfl rfl) rfl ?_
 refine wl_val (v_move' (by conv => (lhs; whnf))) rfl ?_
 refine wl_on rfl rfl ?_
 refine wl_val (v_move' (by conv => (lhs; whnf))) rfl ?_
 refine wl_on rfl rfl ?_
 refine wl_val (v_eq_nil (p := some ⟨g, 0, none⟩) Try.underlying24 rfl rfl) rfl ?_
 refine wl_val (v_pick rfl) rfl ?_
 refine wl_nil ?_
 refine then_go ?_
 refine wc_false rfl ?_
 refine wc_skip ?_
 refine then_go ?_
 refine wc_seq ?_
 refine wc_seq ?_
 refine wc_region ?_
 refine wl_val (v_move' (by conv => (lhs; whnf))) rfl ?_
 refine wl_call rfl (c_few14 st.im hv hLm) rfl ?_
 rintro v30 w ⟨t30, ⟨cf, rfl, hfew⟩⟩
 have st := st.pure t30
 refine wl_val (v_not rfl) rfl ?_
 refine wl_nil ?_
 refine then_go ?_
 refine wc_cond rfl (fun h31 => ?_) (fun h31 => ?_)
 ·refine wc_seq ?_
  refine wc_region ?_
  refine wl_call rfl (c_works14 (Es := []) (st.keepOnly (List.nil_sublist _))) rfl ?_
  rintro vw w ⟨⟨mw, hmw, st⟩, rfl⟩
  refine wl_val (v_assign' (by conv => (lhs; whnf))) rfl ?_
  refine wl_nil ?_
  refine then_go ?_
  refine wc_ret (then_ret ?_)
  exact ret1 rfl ⟨st.touch, rfl⟩
 ·refine wc_skip ?_
  refine then_go ?_
  refine wc_seq ?_
  have hL20 := hfew (by simpa using h31)
  refine wc_region ?_
  refine wl_val (v_assign' (by conv => (lhs; whnf))) rfl ?_
  refine wl_nil ?_
  refine then_go ?_
  refine wc_seq ?_
  refine wc_seq ?_
  refine wc_region ?_
  refine wl_val (v_assign' (by conv => (lhs; whnf))) rfl ?_
  refine wl_nil ?_
  refine then_go ?_
  refine wc_block ?_
  refine wc_loop (S := Nat) (fun q r w' => ∃ (i : Nat) (m' : Mem) (wl wv glv : Value) (W N : List (By × Value)) (S : By) (sl : LG), q + i = L.length ∧ r 1 = .slice la L.length lc ∧ r 5 = .pointer (some ⟨db, 0, none⟩) ∧ r 6 = .pointer (some ⟨g, 0, none⟩) ∧ r 7 = wl ∧ r 8 = .int .i64 i ∧ sl.gen.toNat ≤ i + 1 ∧ LogOk n S sl (W.map (·.1)) ∧ N.map (·.1) = W.map (·.1) ∧ (∀ k o, m1 k = some o → m' k = some o) ∧ PcsM m' wl W ∧ Pcs m' N ∧ St m m' [] wI w' [logB g db sl glv, lrE glv N, diskO db ds n wv (calm S)]) id L.length ⟨0, m1, .slice none 0 0, wv, glv, [], [], S, sl, by omega, rfl, rfl, rfl, rfl, rfl, by rw [hgen]; decide, hlog, rfl, fun _ _ h => h, ⟨SlM.nil, by intro x hx; cases hx⟩, (by intro x hx; cases hx), st⟩ ?_
  clear st hlog hgen
  rintro q r w2 ⟨i, m', wl, wv, glv, W, N, S, sl, hqi, g1, g5, g6, g7, g8, hgen, hlog, hNW, hmm', hW, hN, st⟩
  refine wc_o 1 g1 (wc_o 5 g5 (wc_o 6 g6 (wc_o 7 g7 (wc_o 8 g8 ?_))))
  have hv := hv.mono hmm'
  obtain ⟨hWn, hWx⟩ := hlog.few
  rw [List.length_map] at hWn
  have hNl : N.length = W.length := by have := congrArg List.length hNW; rwa [List.length_map, List.length_map] at this
  have hr : Rdy n (calm S) 100000 := rdy_calm hlog.len (by omega) (by omega)
  refine wc_seq ?_
  refine wc_seq ?_
  refine wc_region ?_
  refine wl_val (v_move' (by conv => (lhs; whnf))) rfl ?_
  refine wl_val (v_move' (by conv => (lhs; whnf))) rfl ?_
  refine wl_val (v_len_s Try.underlying22 rfl) rfl ?_
  refine wl_val (v_lss rfl rfl) rfl ?_
  refine wl_nil ?_
  refine then_go ?_
  refine wc_if rfl (fun h36 => ?_) (fun h36 => ?_)
  ·refine wc_skip ?_
   refine then_go ?_
   refine wc_seq ?_
   refine wc_block ?_
   refine wc_seq ?_
   have hi : i < L.length := by omega
   obtain ⟨ba, oa, hba, hr0, hr1, hr2⟩ := ops_fields hv hi
   subst hba
   obtain ⟨hBv, hMv⟩ := hv.2 _ (List.getElem_mem hi)
   have hBl := hLB _ (List.getElem_mem hi)
   refine wc_region ?_
   refine wl_buildSlice0 (size := 1) Try.underlying30 TF.t5 st rfl ?_
   intro v39 w st
   have st : St m m' [] wI w [byE v39 [], logB g db sl glv, lrE glv N, diskO db ds n wv (calm S)] := st
   refine wl_val (v_move' (by conv => (lhs; whnf))) rfl ?_
   refine wl_val (v_move' (by conv => (lhs; whnf))) rfl ?_
   refine wl_val (v_ias i Try.underlying22 TF.t32 rfl rfl (by first | rfl | omega) (by first | omega | (dsimp only at *; omega))) rfl ?_
   refine wl_val (v_fa TF.f32_1 rfl) rfl ?_
   refine wl_val (v_load rfl (hr1 st.im)) rfl ?_
   refine wl_appB (l := []) (l2 := L[i].B) st Try.underlying30 Try.underlying30 (.inr ⟨_, rfl⟩) TF.t5 TF.z5 rfl rfl (hBv.src st.im (one_bs _)) (by simp; omega) (by simp; omega) rfl ?_
   intro bv w st hbo
   rw [List.nil_append] at st
   obtain ⟨o, ho⟩ : ∃ o : OpV, o = ⟨L[i].ag, L[i].B, bv, L[i].M, L[i].lv⟩ := ⟨_, rfl⟩
   refine wl_val (v_assign' (by conv => (lhs; whnf))) rfl ?_
   refine wl_nil ?_
   refine then_go ?_
   refine wc_seq ?_
   refine wc_draw TF.mixed ?_
   have st := st.pure (touch_drew _)
   refine fl_val 0 rfl (fun _ => (v_move' (by conv => (lhs; whnf)))) rfl (by kernel_rfl) ?_
   refine fl_val 1 rfl (fun _ => (v_move' (by conv => (lhs; whnf)))) rfl (by kernel_rfl) ?_
   refine fl_val 2 rfl (fun _ => (v_ias i Try.underlying22 TF.t32 rfl rfl (by first | rfl | omega) (by first | omega | (dsimp only at *; omega)))) rfl (by kernel_rfl) ?_
   refine fl_val 3 rfl (fun _ => (v_fa TF.f32_0 rfl)) rfl (by kernel_rfl) ?_
   refine fl_ld 4 rfl (v_load rfl (hr0 st.im)) (by kernel_rfl) ?_
   refine fl_val 5 rfl (fun _ => (v_move' (by conv => (lhs; whnf)))) rfl (by kernel_rfl) ?_
   refine fl_val 6 rfl (fun _ => (v_move' (by conv => (lhs; whnf)))) rfl (by kernel_rfl) ?_
   refine fl_val 7 rfl (fun _ => (v_move' (by conv => (lhs; whnf)))) rfl (by kernel_rfl) ?_
   refine fl_val 8 rfl (fun _ => (v_ias i Try.underlying22 TF.t32 rfl rfl (by first | rfl | omega) (by first | omega | (dsimp only at *; omega)))) rfl (by kernel_rfl) ?_
   refine fl_val 9 rfl (fun _ => (v_fa TF.f32_2 rfl)) rfl (by kernel_rfl) ?_
   refine fl_ld 10 rfl (v_load rfl (hr2 st.im)) (by kernel_rfl) ?_
   refine fl_val 11 rfl (fun _ => (v_build (c' := (opC o).toArray) [(0, .bool L[i].ag), (1, bv), (2, L[i].lv)] TF.z32 TF.p32 rfl (by rw [ho]; exact fill_one [] [.bool false] [.slice none 0 0, .slice none 0 0] rfl rfl rfl (fill_one [.bool L[i].ag] [.slice none 0 0] [.slice none 0 0] rfl rfl (by rw [cells_one hbo]; rfl) (by rw [cells_one hbo]; exact fill_one [.bool L[i].ag, bv] [.slice none 0 0] [] rfl rfl (by rw [cells_one (SlM.one1 hMv.1)]; rfl) (by rw [cells_one (SlM.one1 hMv.1)]; rfl)))))) rfl (by kernel_rfl) ?_
   refine fl_eff1 12 [11, 9, 8, 7, 6, 5, 3, 2, 1, 0] [10, 4] (by kernel_rfl) ⟨obl_ld rfl rfl rfl (v_load rfl (hr2 st.im)), obl_ld rfl rfl rfl (v_load rfl (hr0 st.im)), trivial⟩ rfl ?_
   refine wl_alloc TF.z32 st rfl ?_
   intro b10 w st
   refine wl_nil ⟨rfl, ?_⟩
   refine fl_eff1 13 [] [] (by kernel_rfl) ⟨obl_ld rfl rfl rfl (v_load rfl (hr2 st.im)), obl_ld rfl rfl rfl (v_load rfl (hr0 st.im)), trivial⟩ rfl ?_
   refine wl_storeW (cs := (opC o).toArray) 0 st rfl TF.t32 rfl rfl rfl rfl (by intro u hu; rw [ho] at hu; simp [opC] at hu; rcases hu with rfl | rfl | rfl; rfl; exact hbo; exact SlM.one1 hMv.1) ?_
   intro w st
   have st : St m m' [] wI w [byE o.bv o.B, logB g db sl glv, lrE glv N, diskO db ds n wv (calm S), K.blk b10 (opC o).toArray 32] := by
    rw [ho] at st ⊢
    exact st.perm (List.perm_middle (l₁ := [_, _, _, _])).symm
   refine wl_nil ⟨rfl, ?_⟩
   refine fl_nil (by kernel_rfl) trivial ?_
   refine then_go ?_
   refine wc_seq ?_
   refine wc_draw TF.mixed ?_
   have st := st.pure (touch_drew _)
   refine fl_val 0 rfl (fun _ => (v_move' (by conv => (lhs; whnf)))) rfl (by kernel_rfl) ?_
   refine fl_val 1 rfl (fun _ => (v_move' (by conv => (lhs; whnf)))) rfl (by kernel_rfl) ?_
   refine fl_ld 2 rfl (v_load rfl (st.reads (v := .agg (opC o).toArray) 4 rfl TF.t32 (getV_all rfl))) (by kernel_rfl) ?_
   refine fl_val 3 rfl (fun _ => (v_move' (by conv => (lhs; whnf)))) rfl (by kernel_rfl) ?_
   refine fl_eff1 4 [1, 0] [2] (by kernel_rfl) ⟨obl_ld rfl rfl rfl (v_load rfl (st.reads (v := .agg (opC o).toArray) 4 rfl TF.t32 (getV_all rfl))), trivial⟩ rfl ?_
   refine wl_call rfl (c_size (im_heapM _) (disk_at 3 st rfl hr.ok)) rfl ?_
   rintro v63 w ⟨rfl, rfl⟩
   refine wl_nil ⟨rfl, ?_⟩
   refine fl_eff1 5 [] [] (by kernel_rfl) ⟨obl_ld rfl rfl rfl (v_load rfl (st.reads (v := .agg (opC o).toArray) 4 rfl TF.t32 (getV_all rfl))), trivial⟩ rfl ?_
   refine wl_call rfl (c_doB (o := o) st hr hN hn8 hlog.half hlog.finle (by omega) hW (fun y hy => hWx y.1 (List.mem_map.2 ⟨y, hy, rfl⟩)) (by omega) (by rw [ho]; exact hMv) (by rw [ho]; show L[i].M.length ≤ _; exact hLm _ (List.getElem_mem hi))) rfl ?_
   rintro v64 w ⟨m2, wv2, glv2, N2, mv, hmm2, rfl, hN2, hN2e, hma, hmb, hmc, st⟩
   obtain ⟨S2, s2, ha, hlog2, hg2⟩ := act_ok (o := o) hlog (by omega)
   rw [hNW, ha] at hN2e st ⊢
   have hv2 := hv.mono hmm2
   obtain ⟨e, he⟩ : ∃ e, e = actR (W.map (·.1)) o n := ⟨_, rfl⟩
   rw [← he] at hg2 hlog2 hma hmb hmc ⊢
   have hN2W : N2.map (·.1) = if e = 0 then nxt (W.map (·.1)) o else W.map (·.1) := by
    rw [hN2e, ← he]
    show (if ((e : Nat) : Int) = 0 then _ else _) = _
    by_cases h0 : e = 0
    ·rw [if_pos h0, if_pos (by rw [h0]; rfl)]
    ·rw [if_neg h0, if_neg (by omega)]
   rw [← hN2W] at hlog2
   have st : St m m2 [] wI w [byE o.bv o.B, logB g db s2 glv2, lrE glv2 N2, diskO db ds n wv2 (calm S2), K.blk b10 (opC o).toArray 32] := st
   have hmm3 : ∀ k o, m1 k = some o → m2 k = some o := fun k o h => hmm2 k o (hmm' k o h)
   have hgs : s2.gen.toNat ≤ i + 2 := by
    rw [hg2]
    split
    ·rw [UInt64.toNat_add]; show (sl.gen.toNat + 1) % 18446744073709551616 ≤ _; omega
    ·omega
   have hob : o.bv = bv := by rw [ho]
   have hoB : o.B = L[i].B := by rw [ho]
   have hoa : o.ag = L[i].ag := by rw [ho]
   have hol : o.lv = L[i].lv := by rw [ho]
   have hoM : o.M = L[i].M := by rw [ho]
   obtain ⟨va9, vc9, hbv9⟩ := row_sl (st.at (i := 0) rfl)
   rw [hob] at hbv9
   have hBl9 : o.B.length ≤ 1048576 := by rw [hoB]; exact hBl
   refine wl_nil ⟨rfl, ?_⟩
   refine fl_val 6 rfl (fun _ => (v_move' (by conv => (lhs; whnf)))) rfl (by kernel_rfl) ?_
   refine fl_val 7 rfl (fun _ => (v_extract rfl rfl)) rfl (by kernel_rfl) ?_
   refine fl_val 8 rfl (fun _ => (v_extract rfl rfl)) rfl (by kernel_rfl) ?_
   refine fl_val 9 rfl (fun _ => (v_extract rfl rfl)) rfl (by kernel_rfl) ?_
   refine fl_eff1 10 [9, 8] [] (by kernel_rfl) trivial rfl ?_
   refine wl_val (v_assign' (by conv => (lhs; whnf))) rfl ?_
   refine wl_nil ⟨rfl, ?_⟩
   refine fl_eff1 11 [9] [] (by kernel_rfl) trivial rfl ?_
   refine wl_val (v_assign' (by conv => (lhs; whnf))) rfl ?_
   refine wl_nil ⟨rfl, ?_⟩
   refine fl_eff1 12 [] [] (by kernel_rfl) trivial rfl ?_
   refine wl_val (v_assign' (by conv => (lhs; whnf))) rfl ?_
   refine wl_nil ⟨rfl, ?_⟩
   refine fl_nil (by kernel_rfl) trivial ?_
   refine then_go ?_
   refine wc_seq ?_
   refine wc_seq ?_
   refine wc_region ?_
   refine wl_val (v_assign' (by conv => (lhs; whnf))) rfl ?_
   refine wl_nil ?_
   refine then_go ?_
   refine wc_block ?_
   refine wc_loop (S := Nat) (fun q r w' => ∃ (k : Nat) (X : By), q + k = o.B.length ∧ X.length = o.B.length ∧ r 1 = .slice (some ⟨ba, oa, none⟩) L.length lc ∧ r 5 = .pointer (some ⟨db, 0, none⟩) ∧ r 6 = .pointer (some ⟨g, 0, none⟩) ∧ r 8 = .int .i64 i ∧ r 9 = .slice va9 o.B.length vc9 ∧ r 10 = .pointer (some ⟨b10, 0, none⟩) ∧ r 11 = mv ∧ r 12 = .int .i64 (e : Nat) ∧ r 14 = .int .i64 k ∧ St m m2 [] wI w' [byE o.bv X, logB g db s2 glv2, lrE glv2 N2, diskO db ds n wv2 (calm S2), K.blk b10 (opC o).toArray 32]) id o.B.length ⟨0, o.B, by omega, rfl, rfl, rfl, rfl, rfl, hbv9, rfl, rfl, by rw [he]; rfl, rfl, st⟩ ?_
   clear st
   rintro q2 r w3 ⟨k, X, hqk, hXl, g1, g5, g6, g8, g9, g10, g11, g12, g14, st⟩
   refine wc_o 1 g1 (wc_o 5 g5 (wc_o 6 g6 (wc_o 8 g8 (wc_o 9 g9 (wc_o 10 g10 (wc_o 11 g11 (wc_o 12 g12 (wc_o 14 g14 ?_))))))))
   refine wc_seq ?_
   refine wc_seq ?_
   refine wc_region ?_
   refine wl_val (v_move' (by conv => (lhs; whnf))) rfl ?_
   refine wl_val (v_move' (by conv => (lhs; whnf))) rfl ?_
   refine wl_val (v_len_s Try.underlying30 rfl) rfl ?_
   refine wl_val (v_lss rfl rfl) rfl ?_
   refine wl_nil ?_
   refine then_go ?_
   refine wc_if rfl (fun h71 => ?_) (fun h71 => ?_)
   ·refine wc_skip ?_
    refine then_go ?_
    refine wc_seq ?_
    refine wc_block ?_
    have hk : k < X.length := by omega
    obtain ⟨gX, capX, spX, hbX, hcX, hsX, hc63X, stX⟩ := st.rowOpen 0 rfl (by omega)
    have hbX2 : Value.slice va9 o.B.length vc9 = .slice (some ⟨gX, 0, none⟩) X.length capX := by rw [← hbv9, ← hob, hbX]
    simp only [Value.slice.injEq] at hbX2
    obtain ⟨hva9, _, hvc9⟩ := hbX2
    subst hva9
    have hBk : bs X ++ spX = bs (X.take k) ++ u8 X[k] :: (bs (X.drop (k + 1)) ++ spX) := by
     have e : bs X = bs (X.take k ++ X[k] :: X.drop (k + 1)) := by rw [← List.drop_eq_getElem_cons hk, List.take_append_drop]
     rw [e]
     simp only [bs, List.map_append, List.map_cons, List.append_assoc, List.cons_append]
    have st : St m m2 [] wI _ [K.blk gX (bs X ++ spX).toArray 5, logB g db s2 glv2, lrE glv2 N2, diskO db ds n wv2 (calm S2), K.blk b10 (opC o).toArray 32] := stX
    refine wc_region ?_
    refine wl_val (v_move' (by conv => (lhs; whnf))) rfl ?_
    refine wl_val (v_move' (by conv => (lhs; whnf))) rfl ?_
    refine wl_val (v_ias k Try.underlying30 TF.t5 rfl rfl (by first | rfl | omega) (by first | omega | (dsimp only at *; omega))) rfl ?_
    refine wl_val (v_load rfl (st.reads (v := u8 X[k]) 0 rfl TF.t5 (getV_lst (b := []) (a := bs (X.take k)) (c := bs (X.drop (k + 1)) ++ spX) hBk (by rw [length_bs, List.length_take]; omega)))) rfl ?_
    refine wl_val (v_add8 (b := 1) rfl rfl) rfl ?_
    refine wl_val (v_ias k Try.underlying30 TF.t5 rfl rfl (by first | rfl | omega) (by first | omega | (dsimp only at *; omega))) rfl ?_
    refine wl_store1 (v := u8 (X[k] + 1)) 0 st rfl TF.t5 rfl rfl rfl (by simp [length_bs]; omega) ?_
    intro w st
    obtain ⟨X2, hX2⟩ : ∃ X2, X2 = X.set k (X[k] + 1) := ⟨_, rfl⟩
    have hX2l : X2.length = X.length := by rw [hX2, List.length_set]
    have e22 : (bs X ++ spX).toArray.setIfInBounds (0 + k * 1) (u8 (X[k] + 1)) = (bs X2 ++ spX).toArray := by
     apply Array.ext'
     simp only [Array.toList_setIfInBounds, Nat.zero_add, Nat.mul_one]
     rw [List.set_append_left _ _ (by rw [length_bs]; exact hk), hX2]
     simp [bs, List.map_set]
    have st : St m m2 [] wI w [K.blk gX (bs X2 ++ spX).toArray 5, logB g db s2 glv2, lrE glv2 N2, diskO db ds n wv2 (calm S2), K.blk b10 (opC o).toArray 32] := by rw [← e22]; exact st
    have st := st.rowShut 0 (b := gX) (k := X2.length) (cap := capX) (size := 1) (xs := bs X2) rfl (by omega) (by simpa [hX2l, bs] using hsX) hc63X (by simp [← length_bs X2])
    have hrow : rowE (.slice (some ⟨gX, 0, none⟩) X2.length capX) 5 1 X2.length (bs X2) = byE o.bv X2 := by unfold byE; rw [hbX, hX2l]
    have st : St m m2 [] wI w [byE o.bv X2, logB g db s2 glv2, lrE glv2 N2, diskO db ds n wv2 (calm S2), K.blk b10 (opC o).toArray 32] := by rw [← hrow]; exact st
    refine wl_nil ?_
    refine block_go (then_go ?_)
    refine wc_region ?_
    refine wl_val (v_move' (by conv => (lhs; whnf))) rfl ?_
    refine wl_val (v_add' (c := ((k + 1 : Nat) : Int)) rfl rfl (by omega) (by omega) (by omega)) rfl ?_
    refine wl_val (v_assign' (by conv => (lhs; whnf))) rfl ?_
    refine wl_nil ?_
    refine then_go ?_
    exact ⟨q2 - 1, by simp; omega, k + 1, X2, by omega, by omega, rfl, rfl, rfl, rfl, rfl, rfl, rfl, rfl, rfl, st⟩
   ·refine wc_exit (then_exit (then_exit (block_hit ?_)))
    refine then_go ?_
    refine wc_seq ?_
    have st : St m m2 [] wI w3 [logB g db s2 glv2, lrE glv2 N2, diskO db ds n wv2 (calm S2), K.blk b10 (opC o).toArray 32] := st.drop 0
    obtain ⟨ba2, oa2, hba2, _, hr12, _⟩ := ops_fields hv2 hi
    cases hba2
    refine wc_region ?_
    refine wl_val (v_move' (by conv => (lhs; whnf))) rfl ?_
    refine wl_val (v_assign' (by conv => (lhs; whnf))) rfl ?_
    refine wl_nil ?_
    refine then_go ?_
    refine wc_seq ?_
    refine wc_region ?_
    refine wl_val (v_move' (by conv => (lhs; whnf))) rfl ?_
    refine wl_val (v_eql rfl rfl) rfl ?_
    refine wl_val (v_move' (by conv => (lhs; whnf))) rfl ?_
    refine wl_valg rfl rfl (fun e => (v_fa TF.f32_0 (by first | rfl | exact gx e rfl))) rfl ?_
    refine wl_valg rfl rfl (fun e => (v_load (by first | rfl | exact gx e rfl) (st.reads (v := .bool o.ag) 3 (by first | rfl | exact gx e rfl) TF.t4 (by first | rfl | exact gx e rfl)))) rfl ?_
    refine wl_valg rfl rfl (fun e => (v_not (by first | rfl | exact gx e rfl))) rfl ?_
    refine wl_val (v_pickA rfl rfl rfl) rfl ?_
    refine wl_nil ?_
    refine then_go ?_
    refine wc_cond rfl (fun h87 => ?_) (fun h87 => ?_)
    ·rw [Bool.and_eq_true, decide_eq_true_eq] at h87
     have he0 : e = 0 := by have := h87.1; omega
     have hag : ¬ o.ag = true := by have := h87.2; simpa using this
     have hmv := hma he0 hag
     have hWl1 : (W ++ [(o.B, o.bv)]).length = W.length + 1 := by rw [List.length_append]; rfl
     rw [hWl1] at hmv
     obtain ⟨_, mva, mvc, hmvv, hmvk, _⟩ := id hmv
     subst hmvv
     have hsub := hmv.sub rfl (l := 0) (h := W.length) (Nat.zero_le _) (by omega) (by decide)
     rw [Nat.zero_mul, List.drop_zero, Nat.mul_one, Nat.sub_zero, Nat.sub_zero, List.map_append, List.take_left' (List.length_map _)] at hsub
     refine wc_draw TF.mixed ?_
     have st := st.pure (touch_drew _)
     refine fl_val 1 rfl (fun _ => (v_move' (by conv => (lhs; whnf)))) rfl (by kernel_rfl) ?_
     refine fl_val 2 rfl (fun _ => (v_move' (by conv => (lhs; whnf)))) rfl (by kernel_rfl) ?_
     refine fl_val 3 rfl (fun _ => (v_len_s Try.underlying29 rfl)) rfl (by kernel_rfl) ?_
     refine fl_val 4 rfl (fun _ => (v_sub' (c := (W.length : Int)) rfl rfl (by omega) (by omega) (by omega))) rfl (by kernel_rfl) ?_
     refine fl_val 5 rfl (fun _ => (v_to (v' := .slice (sliceOff mva mvc 0 1) W.length mvc) (v_sls 0 W.length Try.underlying29 TF.t30 rfl rfl ⟨_, _, rfl, rfl⟩ (Nat.zero_le _) (by omega)) (by rw [Nat.sub_zero, Nat.sub_zero]))) rfl (by kernel_rfl) ?_
     refine fl_val 7 rfl (fun _ => (v_move' (by conv => (lhs; whnf)))) rfl (by kernel_rfl) ?_
     refine fl_val 8 rfl (fun _ => (v_move' (by conv => (lhs; whnf)))) rfl (by kernel_rfl) ?_
     refine fl_val 9 rfl (fun _ => (v_ias i Try.underlying22 TF.t32 rfl rfl (by first | rfl | omega) (by first | omega | (dsimp only at *; omega)))) rfl (by kernel_rfl) ?_
     refine fl_val 10 rfl (fun _ => (v_fa TF.f32_1 rfl)) rfl (by kernel_rfl) ?_
     refine fl_ld 11 rfl (v_load rfl (hr12 st.im)) (by kernel_rfl) ?_
     refine fl_effs [0, 12] (by kernel_rfl) ⟨obl_ld rfl rfl rfl (v_load rfl (hr12 st.im)), trivial⟩ (all2 ?_ ?_)
     ·refine stepE 0 (pure' := [10, 9, 8, 7, 5, 4, 3, 2, 1]) (lds' := [11]) rfl (by kernel_rfl) (by kernel_rfl) ?_
      refine wl_buildSlice0 (size := 1) Try.underlying29 TF.t30 st rfl ?_
      intro v88 w st
      refine wl_nil ⟨rfl, ?_⟩
      refine fl_effs [6, 12] (by kernel_rfl) ⟨obl_ld rfl rfl rfl (v_load rfl (hr12 st.im)), trivial⟩ (all2 ?_ ?_)
      ·refine stepE 6 (pure' := [10, 9, 8, 7, 4, 3, 2, 1]) (lds' := [11]) rfl (by kernel_rfl) (by kernel_rfl) ?_
       have hsr : Src Try.prog _ _ 1 W.length (W.map (fun y : By × Value => y.2)) := hsub.src st.im fun u hu => by obtain ⟨y, hy, rfl⟩ := List.mem_map.1 hu; exact SlM.one1 (hW.2 y hy)
       first
        | refine wl_append (news := W.map (fun y : By × Value => y.2)) (j := W.length) (k := 0) (xs := []) 0 st rfl Try.underlying29 Try.underlying29 (.inr ⟨_, rfl⟩) TF.t30 TF.z30 rfl rfl rfl hsr (by omega) (by omega) rfl ?_
        | refine wl_append (news := W.map (fun y : By × Value => y.2)) (j := W.length) (k := 0) (xs := []) 1 st rfl Try.underlying29 Try.underlying29 (.inr ⟨_, rfl⟩) TF.t30 TF.z30 rfl rfl rfl hsr (by omega) (by omega) rfl ?_
       clear st
       intro v94 w _ st
       rw [Nat.zero_add, List.nil_append] at st
       refine wl_nil ⟨rfl, ?_⟩
       refine fl_eff1 12 [10, 9, 8, 7, 4, 3, 2, 1] [] (by kernel_rfl) ⟨obl_ld rfl rfl rfl (v_load rfl (hr12 st.im)), trivial⟩ rfl ?_
       refine wl_svOne (v := L[i].bv) Try.underlying29 TF.t30 TF.z30 (SlM.one1 hBv) rfl st rfl ?_
       intro b100 w st
       refine wl_nil ⟨rfl, ?_⟩
       refine fl_eff1 13 [10, 9, 8, 7, 4, 3, 2, 1] [] (by kernel_rfl) trivial rfl ?_
       have st : St m m2 [] wI w [K.blk b100 #[L[i].bv] 30, lrE v94 W, logB g db s2 glv2, lrE glv2 N2, diskO db ds n wv2 (calm S2), K.blk b10 (opC o).toArray 32] := by
        first
         | exact st
         | exact st.perm (List.Perm.swap _ _ _)
       refine wl_lrApp (N := W) (x := L[i].B) 0 st rfl (SlM.one1 hBv) rfl rfl (by omega) rfl ?_
       intro v101 w st
       have st : St m m2 [] wI w [lrE v101 (W ++ [(L[i].B, L[i].bv)]), logB g db s2 glv2, lrE glv2 N2, diskO db ds n wv2 (calm S2), K.blk b10 (opC o).toArray 32] := st
       refine wl_nil ⟨rfl, ?_⟩
       refine fl_eff1 14 [] [] (by kernel_rfl) trivial rfl ?_
       refine wl_val (v_assign' (by conv => (lhs; whnf))) rfl ?_
       refine wl_nil ⟨rfl, ?_⟩
       refine fl_nil (by kernel_rfl) trivial ?_
       refine block_go (then_go ?_)
       refine wc_region ?_
       refine wl_val (v_move' (by conv => (lhs; whnf))) rfl ?_
       refine wl_val (v_add' (c := ((i + 1 : Nat) : Int)) rfl rfl (by omega) (by omega) (by omega)) rfl ?_
       refine wl_val (v_assign' (by conv => (lhs; whnf))) rfl ?_
       refine wl_nil ?_
       refine then_go ?_
       have hP3 : Pcs m2 (W ++ [(L[i].B, L[i].bv)]) := Pcs.snoc (fun y hy => (hW.2 y hy).mono hmm2) (hBv.mono hmm2)
       have st0 := st
       obtain ⟨m5, hg5, hm5, st⟩ := st.freezeR (i := 0) rfl (by simp)
       have st := st.keepOnly (List.Sublist.cons_cons _ (List.Sublist.cons_cons _ (List.Sublist.cons_cons _ (List.nil_sublist _))))
       have hmm5 := hg5.le
       have hW3 : PcsM m5 v101 (W ++ [(L[i].B, L[i].bv)]) := ⟨row_SlM (m := m5) (st0.at (i := 0) rfl) hm5, hP3.mono hg5.le⟩
       have hW3e : (W ++ [(L[i].B, L[i].bv)]).map (·.1) = N2.map (·.1) := by
        rw [hN2W, if_pos he0]
        unfold nxt
        rw [if_neg hag, List.map_append, hoB]
        rfl
       exact ⟨q - 1, by simp; omega, i + 1, m5, v101, wv2, glv2, W ++ [(L[i].B, L[i].bv)], N2, S2, s2, by omega, rfl, rfl, rfl, rfl, rfl, by omega, by rw [hW3e]; exact hlog2, hW3e.symm, fun k o h => hmm5 k o (hmm3 k o h), hW3, hN2.mono hmm5, st⟩
      ·refine stepE 12 (pure' := [10, 9, 8, 7, 5, 4, 3, 2, 1]) (lds' := []) rfl (by kernel_rfl) (by kernel_rfl) ?_
       refine wl_svOne (v := L[i].bv) Try.underlying29 TF.t30 TF.z30 (SlM.one1 hBv) rfl st rfl ?_
       intro b100 w st
       refine wl_nil ⟨rfl, ?_⟩
       refine fl_eff1 6 [10, 9, 8, 7, 4, 3, 2, 1] [] (by kernel_rfl) trivial rfl ?_
       have hsr : Src Try.prog _ _ 1 W.length (W.map (fun y : By × Value => y.2)) := hsub.src st.im fun u hu => by obtain ⟨y, hy, rfl⟩ := List.mem_map.1 hu; exact SlM.one1 (hW.2 y hy)
       first
        | refine wl_append (news := W.map (fun y : By × Value => y.2)) (j := W.length) (k := 0) (xs := []) 0 st rfl Try.underlying29 Try.underlying29 (.inr ⟨_, rfl⟩) TF.t30 TF.z30 rfl rfl rfl hsr (by omega) (by omega) rfl ?_
        | refine wl_append (news := W.map (fun y : By × Value => y.2)) (j := W.length) (k := 0) (xs := []) 1 st rfl Try.underlying29 Try.underlying29 (.inr ⟨_, rfl⟩) TF.t30 TF.z30 rfl rfl rfl hsr (by omega) (by omega) rfl ?_
       clear st
       intro v94 w _ st
       rw [Nat.zero_add, List.nil_append] at st
       refine wl_nil ⟨rfl, ?_⟩
       refine fl_eff1 13 [10, 9, 8, 7, 4, 3, 2, 1] [] (by kernel_rfl) trivial rfl ?_
       have st : St m m2 [] wI w [K.blk b100 #[L[i].bv] 30, lrE v94 W, logB g db s2 glv2, lrE glv2 N2, diskO db ds n wv2 (calm S2), K.blk b10 (opC o).toArray 32] := by
        first
         | exact st
         | exact st.perm (List.Perm.swap _ _ _)
       refine wl_lrApp (N := W) (x := L[i].B) 0 st rfl (SlM.one1 hBv) rfl rfl (by omega) rfl ?_
       intro v101 w st
       have st : St m m2 [] wI w [lrE v101 (W ++ [(L[i].B, L[i].bv)]), logB g db s2 glv2, lrE glv2 N2, diskO db ds n wv2 (calm S2), K.blk b10 (opC o).toArray 32] := st
       refine wl_nil ⟨rfl, ?_⟩
       refine fl_eff1 14 [] [] (by kernel_rfl) trivial rfl ?_
       refine wl_val (v_assign' (by conv => (lhs; whnf))) rfl ?_
       refine wl_nil ⟨rfl, ?_⟩
       refine fl_nil (by kernel_rfl) trivial ?_
       refine block_go (then_go ?_)
       refine wc_region ?_
       refine wl_val (v_move' (by conv => (lhs; whnf))) rfl ?_
       refine wl_val (v_add' (c := ((i + 1 : Nat) : Int)) rfl rfl (by omega) (by omega) (by omega)) rfl ?_
       refine wl_val (v_assign' (by conv => (lhs; whnf))) rfl ?_
       refine wl_nil ?_
       refine then_go ?_
       have hP3 : Pcs m2 (W ++ [(L[i].B, L[i].bv)]) := Pcs.snoc (fun y hy => (hW.2 y hy).mono hmm2) (hBv.mono hmm2)
       have st0 := st
       obtain ⟨m5, hg5, hm5, st⟩ := st.freezeR (i := 0) rfl (by simp)
       have st := st.keepOnly (List.Sublist.cons_cons _ (List.Sublist.cons_cons _ (List.Sublist.cons_cons _ (List.nil_sublist _))))
       have hmm5 := hg5.le
       have hW3 : PcsM m5 v101 (W ++ [(L[i].B, L[i].bv)]) := ⟨row_SlM (m := m5) (st0.at (i := 0) rfl) hm5, hP3.mono hg5.le⟩
       have hW3e : (W ++ [(L[i].B, L[i].bv)]).map (·.1) = N2.map (·.1) := by
        rw [hN2W, if_pos he0]
        unfold nxt
        rw [if_neg hag, List.map_append, hoB]
        rfl
       exact ⟨q - 1, by simp; omega, i + 1, m5, v101, wv2, glv2, W ++ [(L[i].B, L[i].bv)], N2, S2, s2, by omega, rfl, rfl, rfl, rfl, rfl, by omega, by rw [hW3e]; exact hlog2, hW3e.symm, fun k o h => hmm5 k o (hmm3 k o h), hW3, hN2.mono hmm5, st⟩
     ·refine stepE 12 (pure' := [10, 9, 8, 7, 5, 4, 3, 2, 1]) (lds' := []) rfl (by kernel_rfl) (by kernel_rfl) ?_
      refine wl_svOne (v := L[i].bv) Try.underlying29 TF.t30 TF.z30 (SlM.one1 hBv) rfl st rfl ?_
      intro b100 w st
      refine wl_nil ⟨rfl, ?_⟩
      refine fl_eff1 0 [10, 9, 8, 7, 5, 4, 3, 2, 1] [] (by kernel_rfl) trivial rfl ?_
      refine wl_buildSlice0 (size := 1) Try.underlying29 TF.t30 st rfl ?_
      intro v88 w st
      refine wl_nil ⟨rfl, ?_⟩
      refine fl_eff1 6 [10, 9, 8, 7, 4, 3, 2, 1] [] (by kernel_rfl) trivial rfl ?_
      have hsr : Src Try.prog _ _ 1 W.length (W.map (fun y : By × Value => y.2)) := hsub.src st.im fun u hu => by obtain ⟨y, hy, rfl⟩ := List.mem_map.1 hu; exact SlM.one1 (hW.2 y hy)
      first
       | refine wl_append (news := W.map (fun y : By × Value => y.2)) (j := W.length) (k := 0) (xs := []) 0 st rfl Try.underlying29 Try.underlying29 (.inr ⟨_, rfl⟩) TF.t30 TF.z30 rfl rfl rfl hsr (by omega) (by omega) rfl ?_
       | refine wl_append (news := W.map (fun y : By × Value => y.2)) (j := W.length) (k := 0) (xs := []) 1 st rfl Try.underlying29 Try.underlying29 (.inr ⟨_, rfl⟩) TF.t30 TF.z30 rfl rfl rfl hsr (by omega) (by omega) rfl ?_
      clear st
      intro v94 w _ st
      rw [Nat.zero_add, List.nil_append] at st
      refine wl_nil ⟨rfl, ?_⟩
      refine fl_eff1 13 [10, 9, 8, 7, 4, 3, 2, 1] [] (by kernel_rfl) trivial rfl ?_
      have st : St m m2 [] wI w [K.blk b100 #[L[i].bv] 30, lrE v94 W, logB g db s2 glv2, lrE glv2 N2, diskO db ds n wv2 (calm S2), K.blk b10 (opC o).toArray 32] := by
       first
        | exact st
        | exact st.perm (List.Perm.swap _ _ _)
      refine wl_lrApp (N := W) (x := L[i].B) 0 st rfl (SlM.one1 hBv) rfl rfl (by omega) rfl ?_
      intro v101 w st
      have st : St m m2 [] wI w [lrE v101 (W ++ [(L[i].B, L[i].bv)]), logB g db s2 glv2, lrE glv2 N2, diskO db ds n wv2 (calm S2), K.blk b10 (opC o).toArray 32] := st
      refine wl_nil ⟨rfl, ?_⟩
      refine fl_eff1 14 [] [] (by kernel_rfl) trivial rfl ?_
      refine wl_val (v_assign' (by conv => (lhs; whnf))) rfl ?_
      refine wl_nil ⟨rfl, ?_⟩
      refine fl_nil (by kernel_rfl) trivial ?_
      refine block_go (then_go ?_)
      refine wc_region ?_
      refine wl_val (v_move' (by conv => (lhs; whnf))) rfl ?_
      refine wl_val (v_add' (c := ((i + 1 : Nat) : Int)) rfl rfl (by omega) (by omega) (by omega)) rfl ?_
      refine wl_val (v_assign' (by conv => (lhs; whnf))) rfl ?_
      refine wl_nil ?_
      refine then_go ?_
      have hP3 : Pcs m2 (W ++ [(L[i].B, L[i].bv)]) := Pcs.snoc (fun y hy => (hW.2 y hy).mono hmm2) (hBv.mono hmm2)
      have st0 := st
      obtain ⟨m5, hg5, hm5, st⟩ := st.freezeR (i := 0) rfl (by simp)
      have st := st.keepOnly (List.Sublist.cons_cons _ (List.Sublist.cons_cons _ (List.Sublist.cons_cons _ (List.nil_sublist _))))
      have hmm5 := hg5.le
      have hW3 : PcsM m5 v101 (W ++ [(L[i].B, L[i].bv)]) := ⟨row_SlM (m := m5) (st0.at (i := 0) rfl) hm5, hP3.mono hg5.le⟩
      have hW3e : (W ++ [(L[i].B, L[i].bv)]).map (·.1) = N2.map (·.1) := by
       rw [hN2W, if_pos he0]
       unfold nxt
       rw [if_neg hag, List.map_append, hoB]
       rfl
      exact ⟨q - 1, by simp; omega, i + 1, m5, v101, wv2, glv2, W ++ [(L[i].B, L[i].bv)], N2, S2, s2, by omega, rfl, rfl, rfl, rfl, rfl, by omega, by rw [hW3e]; exact hlog2, hW3e.symm, fun k o h => hmm5 k o (hmm3 k o h), hW3, hN2.mono hmm5, st⟩
    ·refine wc_skip ?_
     refine block_go (then_go ?_)
     refine wc_region ?_
     refine wl_val (v_move' (by conv => (lhs; whnf))) rfl ?_
     refine wl_val (v_add' (c := ((i + 1 : Nat) : Int)) rfl rfl (by omega) (by omega) (by omega)) rfl ?_
     refine wl_val (v_assign' (by conv => (lhs; whnf))) rfl ?_
     refine wl_nil ?_
     refine then_go ?_
     rw [Bool.and_eq_false_iff, decide_eq_false_iff_not] at h87
     have st : St m m2 [] wI _ [logB g db s2 glv2, lrE glv2 N2, diskO db ds n wv2 (calm S2)] := st.keepOnly (List.Sublist.cons_cons _ (List.Sublist.cons_cons _ (List.Sublist.cons_cons _ (List.nil_sublist _))))
     have hmm5 : ∀ k o, m2 k = some o → m2 k = some o := fun _ _ h => h
     by_cases h0 : e = 0
     ·have hag : o.ag = true := by
       rcases h87 with h | h
       ·exact (h (by omega)).elim
       ·simpa using h
      have hmv := hmb h0 hag
      have hW3 : PcsM m2 mv L[i].M := by rw [hmv, hol]; exact hMv.mono hmm2
      have hW3e : L[i].M.map (·.1) = N2.map (·.1) := by
       rw [hN2W, if_pos h0]
       unfold nxt
       rw [if_pos hag, hoM]
      exact ⟨q - 1, by simp; omega, i + 1, m2, mv, wv2, glv2, L[i].M, N2, S2, s2, by omega, rfl, rfl, rfl, rfl, rfl, by omega, by rw [hW3e]; exact hlog2, hW3e.symm, fun k o h => hmm5 k o (hmm3 k o h), hW3, hN2.mono hmm5, st⟩
     ·have hmv := hmc h0
      have hW3 : PcsM m2 mv W := by rw [hmv]; exact hW.mono hmm2
      have hW3e : W.map (·.1) = N2.map (·.1) := by rw [hN2W, if_neg h0]
      exact ⟨q - 1, by simp; omega, i + 1, m2, mv, wv2, glv2, W, N2, S2, s2, by omega, rfl, rfl, rfl, rfl, rfl, by omega, by rw [hW3e]; exact hlog2, hW3e.symm, fun k o h => hmm5 k o (hmm3 k o h), hW3, hN2.mono hmm5, st⟩
  ·refine wc_exit (then_exit (then_exit (block_hit ?_)))
   refine then_go ?_
   refine wc_seq ?_
   refine wc_region ?_
   refine wl_val (v_move' (by conv => (lhs; whnf))) rfl ?_
   refine wl_call rfl (c_logAll st hN (fun y hy => hWx y.1 (by rw [← hNW]; exact List.mem_map.2 ⟨y, hy, rfl⟩)) (by omega)) rfl ?_
   rintro av w ⟨A, hA, st⟩
   have st := st.perm rows_perm
   have hAl : A.length = W.length := by have := congrArg List.length hA; rw [List.length_map, List.length_map] at this; omega
   obtain ⟨aa, ac, hav⟩ := row_sl (st.at (i := 0) rfl)
   subst hav
   have hAx : ∀ x ∈ A, x.1.length ≤ 1048576 := fun x hx => hWx x.1 (by rw [← hNW, ← hA]; exact List.mem_map.2 ⟨x, hx, rfl⟩)
   refine wl_val (v_assign' (by conv => (lhs; whnf))) rfl ?_
   refine wl_nil ?_
   refine then_go ?_
   refine wc_seq ?_
   refine wc_seq ?_
   refine wc_region ?_
   refine wl_val (v_assign' (by conv => (lhs; whnf))) rfl ?_
   refine wl_nil ?_
   refine then_go ?_
   refine wc_block ?_
   refine wc_loop (S := Nat) (fun q r w' => ∃ (i : Nat) (A' : List (By × Value)), q + i = A.length ∧ A'.length = A.length ∧ (∀ x ∈ A', x.1.length ≤ 1048576) ∧ r 5 = .pointer (some ⟨db, 0, none⟩) ∧ r 6 = .pointer (some ⟨g, 0, none⟩) ∧ r 7 = wl ∧ r 15 = .slice aa A.length ac ∧ r 16 = .int .i64 i ∧ St m m' [] wI w' (lrE (.slice aa A.length ac) A' :: (rowsN A' ++ [logB g db sl glv, lrE glv N, diskO db ds n wv (calm S)]))) id A.length ⟨0, A, by omega, rfl, hAx, rfl, rfl, rfl, rfl, rfl, st⟩ ?_
   clear st
   rintro q2 r w3 ⟨j, A', hqj, hA'l, hA'x, g5, g6, g7, g15, g16, st⟩
   refine wc_o 5 g5 (wc_o 6 g6 (wc_o 7 g7 (wc_o 15 g15 (wc_o 16 g16 ?_))))
   refine wc_seq ?_
   refine wc_seq ?_
   refine wc_region ?_
   refine wl_val (v_move' (by conv => (lhs; whnf))) rfl ?_
   refine wl_val (v_move' (by conv => (lhs; whnf))) rfl ?_
   refine wl_val (v_len_s Try.underlying29 rfl) rfl ?_
   refine wl_val (v_lss rfl rfl) rfl ?_
   refine wl_nil ?_
   refine then_go ?_
   refine wc_if rfl (fun h107 => ?_) (fun h107 => ?_)
   ·refine wc_skip ?_
    refine then_go ?_
    refine wc_seq ?_
    refine wc_block ?_
    refine wc_seq ?_
    refine wc_region ?_
    refine wl_val (v_assign' (by conv => (lhs; whnf))) rfl ?_
    refine wl_nil ?_
    refine then_go ?_
    refine wc_block ?_
    have hj : j < A.length := by omega
    obtain ⟨ln, hln⟩ : ∃ ln, ln = (A'[j]'(by omega)).1.length := ⟨_, rfl⟩
    have hlnx : ln ≤ 1048576 := by rw [hln]; exact hA'x _ (List.getElem_mem _)
    refine wc_loop (S := Nat) (fun q r w' => ∃ (k : Nat) (A2 : List (By × Value)) (hA2l : A2.length = A.length), q + k = ln ∧ (A2[j]'(by omega)).1.length = ln ∧ (∀ x ∈ A2, x.1.length ≤ 1048576) ∧ r 5 = .pointer (some ⟨db, 0, none⟩) ∧ r 6 = .pointer (some ⟨g, 0, none⟩) ∧ r 7 = wl ∧ r 15 = .slice aa A.length ac ∧ r 16 = .int .i64 j ∧ r 17 = .int .i64 k ∧ St m m' [] wI w' (lrE (.slice aa A.length ac) A2 :: (rowsN A2 ++ [logB g db sl glv, lrE glv N, diskO db ds n wv (calm S)]))) id ln ⟨0, A', hA'l, by omega, hln.symm, hA'x, rfl, rfl, rfl, rfl, rfl, rfl, st⟩ ?_
    clear st
    rintro q3 r w4 ⟨k, A2, hA2l, hqk, hA2j, hA2x, g5, g6, g7, g15, g16, g17, st⟩
    refine wc_o 5 g5 (wc_o 6 g6 (wc_o 7 g7 (wc_o 15 g15 (wc_o 16 g16 (wc_o 17 g17 ?_)))))
    have hj2 : j < A2.length := by omega
    have hpc : PcsM (heapM w4) (.slice aa A2.length ac) A2 := by rw [hA2l]; exact rows_pcs st
    obtain ⟨eb, eo, _, hev, hse, hre⟩ := hpc.elem hj2
    obtain ⟨haa, _⟩ : aa = some ⟨eb, eo, none⟩ ∧ True := by simp only [Value.slice.injEq] at hev; exact ⟨hev.1, trivial⟩
    subst haa
    obtain ⟨_, xa, xc, hxv, _⟩ := id hse
    refine wc_seq ?_
    refine wc_seq ?_
    refine wc_region ?_
    refine wl_val (v_move' (by conv => (lhs; whnf))) rfl ?_
    refine wl_val (v_move' (by conv => (lhs; whnf))) rfl ?_
    refine wl_val (v_move' (by conv => (lhs; whnf))) rfl ?_
    refine wl_val (v_ias j Try.underlying29 TF.t30 rfl rfl (by first | rfl | omega) (by first | omega | (dsimp only at *; omega))) rfl ?_
    refine wl_val (v_load rfl (by have h := hre (im_heapM _); rw [hxv] at h; exact h)) rfl ?_
    refine wl_val (v_len_s Try.underlying30 rfl) rfl ?_
    refine wl_val (v_lss rfl rfl) rfl ?_
    refine wl_nil ?_
    refine then_go ?_
    refine wc_if rfl (fun h116 => ?_) (fun h116 => ?_)
    ·refine wc_skip ?_
     refine then_go ?_
     refine wc_seq ?_
     refine wc_block ?_
     have hk : k < (A2[j]).1.length := by omega
     obtain ⟨gX, capX, spX, hbX, hcX, hsX, hc63X, stX⟩ := st.rowOpen (j + 1) (rows_at hj2) (by omega)
     obtain ⟨X, hX⟩ : ∃ X, X = (A2[j]).1 := ⟨_, rfl⟩
     have hxe : Value.slice xa (A2[j]).1.length xc = .slice (some ⟨gX, 0, none⟩) (A2[j]).1.length capX := by rw [← hxv, hbX]
     simp only [Value.slice.injEq] at hxe
     obtain ⟨hxa, _, hxc⟩ := hxe
     have hrX : Reads Try.prog w4 30 ⟨eb, eo + j * 1, none⟩ (.slice (some ⟨gX, 0, none⟩) X.length capX) := by have h := hre (im_heapM _); rw [hbX, ← hX] at h; exact h
     have hrow : ∀ Z : By, Z.length = X.length → rowE (.slice (some ⟨gX, 0, none⟩) Z.length capX) 5 1 Z.length (bs Z) = byE (A2[j]).2 Z := fun Z hZ => by unfold byE; rw [hbX, ← hX, hZ]
     rw [← hX] at hk stX hsX hcX
     have hBk : bs X ++ spX = bs (X.take k) ++ u8 X[k] :: (bs (X.drop (k + 1)) ++ spX) := by
      have e : bs X = bs (X.take k ++ X[k] :: X.drop (k + 1)) := by rw [← List.drop_eq_getElem_cons hk, List.take_append_drop]
      rw [e]
      simp only [bs, List.map_append, List.map_cons, List.append_assoc, List.cons_append]
     have hidx : ((lrE (.slice (some ⟨eb, eo, none⟩) A.length ac) A2 :: (rowsN A2 ++ [logB g db sl glv, lrE glv N, diskO db ds n wv (calm S)])).set (j + 1) (K.blk gX (bs X ++ spX).toArray 5))[j + 1]? = some (K.blk gX (bs X ++ spX).toArray 5) := by
      rw [List.getElem?_set_self (by simp; omega)]
     refine wc_region ?_
     refine wl_val (v_move' (by conv => (lhs; whnf))) rfl ?_
     refine wl_val (v_move' (by conv => (lhs; whnf))) rfl ?_
     refine wl_val (v_ias j Try.underlying29 TF.t30 rfl rfl (by first | rfl | omega) (by first | omega | (dsimp only at *; omega))) rfl ?_
     refine wl_val (v_load rfl hrX) rfl ?_
     refine wl_val (v_move' (by conv => (lhs; whnf))) rfl ?_
     refine wl_val (v_ias k Try.underlying30 TF.t5 rfl rfl (by first | rfl | omega) (by first | omega | (dsimp only at *; omega))) rfl ?_
     refine wl_val (v_load rfl (stX.reads (v := u8 X[k]) (j + 1) hidx TF.t5 (getV_lst (b := []) (a := bs (X.take k)) (c := bs (X.drop (k + 1)) ++ spX) hBk (by rw [length_bs, List.length_take]; omega)))) rfl ?_
     refine wl_val (v_add8 (b := 1) rfl rfl) rfl ?_
     refine wl_val (v_ias k Try.underlying30 TF.t5 rfl rfl (by first | rfl | omega) (by first | omega | (dsimp only at *; omega))) rfl ?_
     refine wl_store1 (v := u8 (X[k] + 1)) (j + 1) stX hidx TF.t5 rfl rfl rfl (by simp [length_bs]; omega) ?_
     intro w st
     obtain ⟨c, hc⟩ : ∃ c : UInt8, c = X[k] + 1 := ⟨_, rfl⟩
     rw [← hc] at st
     obtain ⟨X2, hX2⟩ : ∃ X2, X2 = X.set k c := ⟨_, rfl⟩
     have hX2l : X2.length = X.length := by rw [hX2, List.length_set]
     have e22 : (bs X ++ spX).toArray.setIfInBounds (0 + k * 1) (u8 c) = (bs X2 ++ spX).toArray := by
      apply Array.ext'
      simp only [Array.toList_setIfInBounds, Nat.zero_add, Nat.mul_one]
      rw [List.set_append_left _ _ (by rw [length_bs]; exact hk), hX2]
      simp [bs, List.map_set]
     rw [e22, List.set_set] at st
     have st := st.rowShut (j + 1) (b := gX) (k := X2.length) (cap := capX) (size := 1) (xs := bs X2) (by rw [List.getElem?_set_self (by simp; omega)]) (by omega) (by simpa [hX2l, bs] using hsX) hc63X (by simp [← length_bs X2])
     rw [hrow X2 hX2l, List.set_set, hX2, hX] at st
     rw [row_turn hj2 c] at st
     obtain ⟨A3, hA3⟩ : ∃ A3, A3 = A2.set j ((A2[j]).1.set k c, (A2[j]).2) := ⟨_, rfl⟩
     rw [← hA3] at st
     have hA3l : A3.length = A.length := by rw [hA3, List.length_set]; exact hA2l
     have hA3j : (A3[j]'(by omega)).1.length = ln := by
      have : A3[j]'(by omega) = ((A2[j]).1.set k c, (A2[j]).2) := by simp [hA3]
      rw [this, List.length_set]
      exact hA2j
     have hA3x : ∀ x ∈ A3, x.1.length ≤ 1048576 := fun x hx => by
      rw [hA3] at hx
      rcases List.mem_or_eq_of_mem_set hx with h | h
      ·exact hA2x x h
      ·rw [h, List.length_set]; exact hA2x _ (List.getElem_mem hj2)
     refine wl_nil ?_
     refine block_go (then_go ?_)
     refine wc_region ?_
     refine wl_val (v_move' (by conv => (lhs; whnf))) rfl ?_
     refine wl_val (v_add' (c := ((k + 1 : Nat) : Int)) rfl rfl (by omega) (by omega) (by omega)) rfl ?_
     refine wl_val (v_assign' (by conv => (lhs; whnf))) rfl ?_
     refine wl_nil ?_
     refine then_go ?_
     exact ⟨q3 - 1, by simp; omega, k + 1, A3, hA3l, by omega, hA3j, hA3x, rfl, rfl, rfl, rfl, rfl, rfl, st⟩
    ·refine wc_exit (then_exit (then_exit (block_hit ?_)))
     refine block_go (then_go ?_)
     refine wc_region ?_
     refine wl_val (v_move' (by conv => (lhs; whnf))) rfl ?_
     refine wl_val (v_add' (c := ((j + 1 : Nat) : Int)) rfl rfl (by omega) (by omega) (by omega)) rfl ?_
     refine wl_val (v_assign' (by conv => (lhs; whnf))) rfl ?_
     refine wl_nil ?_
     refine then_go ?_
     exact ⟨q2 - 1, by simp; omega, j + 1, A2, by omega, hA2l, hA2x, rfl, rfl, rfl, rfl, rfl, st⟩
   ·refine wc_exit (then_exit (then_exit (block_hit ?_)))
    refine then_go ?_
    refine wc_seq ?_
    refine wc_region ?_
    refine wl_val (v_move' (by conv => (lhs; whnf))) rfl ?_
    have st : St m m' [] wI _ [logB g db sl glv, lrE glv N, diskO db ds n wv (calm S)] := st.keepOnly ((List.sublist_append_right _ _).trans (List.sublist_cons_self _ _))
    refine wl_call rfl (c_logAll st hN (fun y hy => hWx y.1 (by rw [← hNW]; exact List.mem_map.2 ⟨y, hy, rfl⟩)) (by omega)) rfl ?_
    rintro v129 w ⟨A5, hA5, st⟩
    obtain ⟨m7, hg7, hm7, st7⟩ := st.freezeR (i := 0) rfl (by simp)
    have hrow := row_SlM (m := m7) (st.at (i := 0) rfl) hm7
    obtain ⟨m8, hmm8, hPA, st⟩ := rows_freeze (A := A5) st7
    have hAM : PcsM m8 v129 A5 := ⟨hrow.mono hmm8, hPA⟩
    have hW := (hW.mono hg7.le).mono hmm8
    have hA5l : A5.length = W.length := by have := congrArg List.length hA5; rw [List.length_map, List.length_map] at this; omega
    refine wl_val (v_move' (by conv => (lhs; whnf))) rfl ?_
    refine wl_call rfl (c_same14 st.im hAM hW (by rw [hA5, hNW]) (by omega)) rfl ?_
    rintro v131 w ⟨t131, rfl⟩
    have st := st.pure t131
    refine wl_val (v_move' (by conv => (lhs; whnf))) rfl ?_
    refine wl_on rfl rfl ?_
    refine wl_call rfl (c_works14 (Es := []) (st.keepOnly (List.nil_sublist _))) rfl ?_
    rintro vw w ⟨⟨mw, hmw, st⟩, rfl⟩
    refine wl_val (v_pick rfl) rfl ?_
    refine wl_val (v_assign' (by conv => (lhs; whnf))) rfl ?_
    refine wl_nil ?_
    refine then_go ?_
    refine wc_ret ?_
    exact ret1 rfl ⟨st.touch, rfl⟩
end
end Go.Proofs.Ytnaoafogdplnaaa

namespace Go.Proofs.Ytnaoafogdplnaaa
open Go Go.ChangeShapes Go.WideShapes Go.ChangeAt Go.RowKit K SH JR
theorem Try.ownje : ownKnob Try.prog.godebug = none := by kernel_rfl
theorem Try.laidOutje : laidOutB Try.prog = true := by kernel_rfl
theorem Try.trodAllje {H : Type} {enc : TypeId × Value → H} {w : World} {held : Bool} {P : Program} {base : Nat} {spare : Nat → Bool} {t0 t1 : TypeId} {args : Array Value} {ds : List (DataW H)} {ps : List MemPlace} (h : DataW.TrodAll enc P w base spare held [t0, t1] args.toList ds ps) :
  ∃ v0 v1 d0 d1 p0 p1, args = #[v0, v1] ∧ ds = [d0, d1] ∧ ps = p0 ++ p1 ∧ DataW.Trod enc P w base spare held t0 v0 d0 p0 ∧ DataW.Trod enc P w base spare held t1 v1 d1 p1 := by
 obtain ⟨v0, vs0, d0, ds0, p0, q0, hargs, rfl, rfl, hd0, h⟩ := trodAll_cons h
 obtain ⟨v1, vs1, d1, ds1, p1, q1, rfl, rfl, rfl, hd1, h⟩ := trodAll_cons h
 obtain ⟨rfl, rfl, rfl⟩ := trodAll_nil h
 exact ⟨v0, v1, d0, d1, p0, p1, by cases args; simp_all, rfl, by simp, hd0, hd1⟩
set_option maxRecDepth 100000 in
theorem journalOwn_lifted (os : Os) (started : os.Started) (H : Type) (enc : TypeId × Value → H) (Fi : Stop.Interp) :
  ReturnsInHanded {} Try.checked os 3 .any ((Rows.OpenSpec.upto Rows.journalOwnSpec).pre6 enc Try.prog Try.f3 Rows.journalOwnUptoRow.domain false) (((Rows.OpenSpec.upto Rows.journalOwnSpec).at Fi).post enc Try.prog Try.f3 false true false false) := by
 refine returnsInHanded_of_cond (C := Try.checked) (s := (Rows.OpenSpec.upto Rows.journalOwnSpec)) (k := Rows.uptoSmall) rfl Try.ownje started (by kernel_rfl) Try.func3
  (OpenSpec.witness (enc := enc) (C := Try.checked) (s := (Rows.OpenSpec.upto Rows.journalOwnSpec)) (k := Rows.uptoSmall) rfl false ⟨#[], #[.int .i64 0, .slice none 0 0], []⟩ 12 (by kernel_rfl) (by kernel_rfl) (by kernel_rfl) (x := ([.lit (.int .i64 0), .nil], [], [])) (by kernel_rfl) rfl (by kernel_rfl)) ?_
 intro W base args ds gs before hval0 hW _ hk _
 have hval : ∀ (j : Nat) t v, Try.f3.params[j]? = some t → args[j]? = some v → Value.okWide Try.prog W .any base t v := hval0
 have hW' := hW
 obtain ⟨p, q, hA0, hV, rfl, hfz, hnd⟩ := hW
 have hkb := bulk_of hk
 have hA : DataW.TrodAll enc Try.prog W 0 (fun _ => true) true Try.f3.params.toList args.toList ds p := hA0
 rw [Try.params3] at hA hval
 obtain ⟨v0, v1, d0, d1, p0, p1, rfl, rfl, rfl, h0, h1⟩ := Try.trodAllje hA
 obtain ⟨a0, rfl, rfl, rfl, wa0⟩ := open_int Try.underlying3 (hval 0 3 v0 rfl rfl) h0
 obtain ⟨fu1, hf1⟩ := h1
 obtain ⟨sa1, sl1, sc1, rfl⟩ := okWide_slice Try.underlying22 (hval 1 22 v1 rfl rfl)
 have hb1 := hkb d1 (by simp)
 obtain ⟨l1, hl1, hu1⟩ := open_jops2B hf1
 refine Calls.mono (P := Try.prog) (c_journalOwn (im_heapM W) hl1 (fun o ho => Nat.le_trans (hu1 o ho).1 hb1) (fun o ho => Nat.le_trans (hu1 o ho).2 hb1)).2 fun e W1 ⟨v, he, t, hv⟩ => ?_
 subst hv
 subst he
 exact ⟨_, rfl, post_true Try.laidOutje (by kernel_rfl) rfl hW' t rfl rfl Try.underlying4⟩
theorem journalOwnUpto_holds : Rows.JournalOwnUptoSaid :=
 OpenClaim.holds_of_cond 3 Try.f3 rfl rfl rfl rfl rfl rfl rfl ⟨rfl, rfl, rfl, rfl, rfl⟩ rfl rfl rfl rfl rfl (by kernel_rfl) Try.func3 (by kernel_rfl)
  (of_decide_eq_true (by kernel_rfl)) (by unfold Func.isWrapper; first | (rw [if_pos (by decide +kernel)]; kernel_rfl) | (rw [if_neg (by decide +kernel)]; exact ⟨rfl, rfl⟩))
  (fun os started H enc _ Fi => journalOwn_lifted os started H enc Fi)
end Go.Proofs.Ytnaoafogdplnaaa
