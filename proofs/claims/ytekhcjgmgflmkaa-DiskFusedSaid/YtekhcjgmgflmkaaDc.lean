/-
  The disk: losing power, reading, telling all, and beginning.
-/
import Derived.Test.YtekhcjgmgflmkaaDb
namespace Go.Proofs.Ytekhcjgmgflmkaa
open Go Go.RowKit K DK

def ints (l : List Int) : List Value := l.map (Value.int .i64)

section
variable {m : Mem} {w : World} {b s n : Nat} {wv : Value} {d : DS}

theorem c_crash {kv : Value} {keep : List Int} (him : Im m w) (hE : (diskO b s n wv d).holds w) (hm : ∀ k ∈ (diskO b s n wv d).foot, m k = none) (ok : d.ok n) (hfew : d.wt.length ≤ 1000000)
    (hk : SlM m kv 1 keep.length (ints keep)) :
    DiskCall 20 [kv] b s n wv d w fun _ d' => d' = crashD d keep := by
  have st := St.begin him hE hm
  have ok' := ok.wt
  have hk0 := hk
  obtain ⟨hkl, ka, kc, rfl, hk1⟩ := hk
  obtain ⟨wa, wc, hwv⟩ : ∃ (wa : Option Addr) (wc : Nat), wv = .slice wa d.wt.length wc := by
    obtain ⟨_, a, c, h1, _⟩ := row_SlM (m := heapM w) (st.at (i := 2) rfl) fun _ _ _ h => h
    exact ⟨a, c, h1⟩
  subst hwv
  refine ret_of Try.call20 Try.func20 rfl Try.ntmps20 Try.results20 rfl ?_
  refine wc_seq ?_
  refine wc_seq ?_
  refine wc_region ?_
  refine wl_val (v_move' (by conv => (lhs; whnf))) rfl ?_
  refine wl_val (v_nil rfl) rfl ?_
  refine wl_val (v_fa TF.f62_1 rfl) rfl ?_
  refine wl_val (v_load rfl (by first | assumption | exact st.reads 0 rfl TF.t60 rfl | exact st.reads 1 rfl TF.t60 rfl | exact st.reads 2 rfl TF.t60 rfl | exact st.reads 3 rfl TF.t60 rfl | exact st.reads 4 rfl TF.t60 rfl)) rfl ?_
  refine wl_val (v_len_s Try.underlying60 rfl) rfl ?_
  refine wl_val (v_move' (by conv => (lhs; whnf))) rfl ?_
  refine wl_nil ?_
  refine then_go ?_
  refine wc_block ?_
  refine wc_loop (S := Nat) (fun k r w' => ∃ j S, k + j = d.wt.length ∧ r 0 = .pointer (some ⟨b, 0, none⟩) ∧ r 1 = .slice ka keep.length kc ∧ r 10 = .slice wa d.wt.length wc ∧ r 11 = .int .i64 d.wt.length ∧ r 12 = .int .i64 j ∧ S.length = 64 * n ∧ crashS keep 0 d.S d.wt = crashS keep j S (d.wt.drop j) ∧
    St m m (joinE (diskL b s n (.slice wa d.wt.length wc) d)).foot w w' (diskL b s n (.slice wa d.wt.length wc) { d with S := S })) id d.wt.length ⟨0, d.S, rfl, rfl, rfl, rfl, rfl, rfl, ok.len, rfl, st⟩ ?_
  rintro k r w2 ⟨j, S, hkj, h0, h1, h10, h11, h12, hS, hcr, st⟩
  refine wc_o 0 h0 (wc_o 1 h1 (wc_o 10 h10 (wc_o 11 h11 (wc_o 12 h12 ?_))))
  refine wc_seq ?_
  refine wc_region ?_
  refine wl_val (v_lss rfl rfl) rfl ?_
  refine wl_nil ?_
  refine then_go ?_
  refine wc_seq ?_
  refine wc_if rfl (fun h13 => ?_) (fun h13 => ?_)
  · refine wc_skip ?_
    refine then_go ?_
    refine wc_seq ?_
    refine wc_block ?_
    refine wc_seq ?_
    have hj : j < d.wt.length := by omega
    obtain ⟨wb, wo, wcap, hv, _, hrd⟩ := (row_SlM (m := heapM w2) (st.at (i := 2) rfl) fun _ _ _ h => h).elem Try.prog (i := j) hj (by omega)
    cases hv
    have hel : cellsAt (wtCells d.wt) 65 j = Value.int .i64 d.wt[j].1 :: bs d.wt[j].2 := wt_elem (fun x hx => (ok' x hx).2) hj
    have hx := ok' d.wt[j] (List.getElem_mem _)
    refine wc_region ?_
    refine wl_val (v_move' (by conv => (lhs; whnf))) rfl ?_
    refine wl_val (v_ias j Try.underlying60 TF.t66 rfl rfl (by first | rfl | omega) (by first | omega | (dsimp only at *; omega))) rfl ?_
    refine wl_val (v_load rfl (hrd (im_heapM _) (off := 0) TF.t66 (getV_all (by show ((cellsAt (wtCells d.wt) 65 j).toArray).size = 65; rw [hel]; simp [bs, hx.2])))) rfl ?_
    refine wl_alloc TF.z66 st rfl ?_
    intro b5 w st
    refine wl_val (v_assign' (by conv => (lhs; whnf))) rfl ?_
    refine wl_storeW 0 st rfl TF.t66 rfl rfl (by show ((cellsAt (wtCells d.wt) 65 j).toArray).size = 65; rw [hel]; simp [bs, hx.2]) (by simp [Value.cells]) (fun u hu => by
      have hu' : u ∈ cellsAt (wtCells d.wt) 65 j := by simpa using hu
      rw [hel] at hu'
      rcases List.mem_cons.1 hu' with rfl | hu'
      · rfl
      · exact one_bs _ u hu') ?_
    intro w st
    change St _ _ _ _ _ (blk b5 (cellsAt (wtCells d.wt) 65 j).toArray 66 :: diskL b s n (.slice (some ⟨wb, wo, none⟩) d.wt.length wc) { d with S := S }) at st
    rw [hel] at st
    refine wl_nil ?_
    refine then_go ?_
    refine wc_seq ?_
    refine wc_region ?_
    refine wl_val (v_move' (by conv => (lhs; whnf))) rfl ?_
    refine wl_val (v_move' (by conv => (lhs; whnf))) rfl ?_
    refine wl_val (v_len_s Try.underlying44 rfl) rfl ?_
    refine wl_val (v_lss rfl rfl) rfl ?_
    refine wl_nil ?_
    refine then_go ?_
    refine wc_if rfl (fun h20 => ?_) (fun h20 => ?_)
    · refine wc_seq ?_
      have hjk : j < keep.length := by omega
      obtain ⟨kb, ko, kcap, hkv, _, hkr⟩ := hk0.elem Try.prog (i := j) hjk (by omega)
      cases hkv
      have hkel : cellsAt (ints keep) 1 j = [Value.int .i64 keep[j]] := by simp [cellsAt, ints, List.drop_eq_getElem_cons, hjk]
      have hnn : min (max keep[j] 0) 64 = (keepN keep j : Int) := by simp [keepN, List.getElem?_eq_getElem hjk]; omega
      have hn64 := keepN_le keep j
      refine wc_region ?_
      refine wl_val (v_move' (by conv => (lhs; whnf))) rfl ?_
      refine wl_val (v_move' (by conv => (lhs; whnf))) rfl ?_
      refine wl_val (v_ias j Try.underlying44 TF.t3 rfl rfl (by first | rfl | omega) (by first | omega | (dsimp only at *; omega))) rfl ?_
      refine wl_val (v_load rfl (hkr st.im (off := 0) TF.t3 (by rw [hkel]; rfl))) rfl ?_
      refine wl_val (v_max rfl rfl) rfl ?_
      refine wl_val (v_min rfl rfl) rfl ?_
      refine wl_val (v_assign' (by conv => (lhs; whnf))) rfl ?_
      refine wl_nil ?_
      refine then_go ?_
      refine wc_draw TF.mixed ?_
      have st := st.pure (touch_drew _)
      refine fl_val 0 rfl (fun _ => (v_move' (by conv => (lhs; whnf)))) rfl (by kernel_rfl) ?_
      refine fl_val 1 rfl (fun _ => (v_nil rfl)) rfl (by kernel_rfl) ?_
      refine fl_val 2 rfl (fun _ => (v_fa TF.f62_0 rfl)) rfl (by kernel_rfl) ?_
      refine fl_ld 3 rfl (v_load rfl (by first | assumption | exact st.reads 0 rfl TF.t59 rfl | exact st.reads 1 rfl TF.t59 rfl | exact st.reads 2 rfl TF.t59 rfl | exact st.reads 3 rfl TF.t59 rfl | exact st.reads 4 rfl TF.t59 rfl)) (by kernel_rfl) ?_
      refine fl_val 4 rfl (fun _ => (v_fa TF.f66_0 rfl)) rfl (by kernel_rfl) ?_
      refine fl_ld 5 rfl (v_load rfl (st.reads 0 rfl TF.t3 rfl)) (by kernel_rfl) ?_
      refine fl_val 6 rfl (fun _ => (v_ias (d.wt[j].1) Try.underlying59 TF.t64 rfl rfl (by first | rfl | omega) hx.1)) rfl (by kernel_rfl) ?_
      refine fl_val 7 rfl (fun _ => (v_move' (by conv => (lhs; whnf)))) rfl (by kernel_rfl) ?_
      refine fl_val 8 rfl (fun _ => (v_slice_a (l := 0) (h := keepN keep j) Try.underlying64 TF.t5 rfl rfl ⟨_, _, rfl, hnn⟩ (by omega) hn64)) rfl (by kernel_rfl) ?_
      refine fl_val 9 rfl (fun _ => (v_fa TF.f66_1 rfl)) rfl (by kernel_rfl) ?_
      refine fl_val 10 rfl (fun _ => (v_move' (by conv => (lhs; whnf)))) rfl (by kernel_rfl) ?_
      refine fl_val 11 rfl (fun _ => (v_slice_a (l := 0) (h := keepN keep j) Try.underlying64 TF.t5 rfl rfl ⟨_, _, rfl, hnn⟩ (by omega) hn64)) rfl (by kernel_rfl) ?_
      refine fl_eff1 12 [10, 9, 7, 6, 4, 2, 1, 0] [5, 3] (by kernel_rfl) ⟨obl_ld rfl rfl rfl (v_load rfl (st.reads 0 rfl TF.t3 rfl)), obl_ld rfl rfl rfl (v_load rfl (by first | assumption | exact st.reads 0 rfl TF.t59 rfl | exact st.reads 1 rfl TF.t59 rfl | exact st.reads 2 rfl TF.t59 rfl | exact st.reads 3 rfl TF.t59 rfl | exact st.reads 4 rfl TF.t59 rfl)), trivial⟩ rfl ?_
      refine wl_copy (size := 1) (b := s) (off := d.wt[j].1 * 64) (len := keepN keep j) (cap := 64) 2 st rfl Try.underlying22 TF.t5 (by simp; rfl) rfl (st.srcArr (off := 1) (k := keepN keep j) (cap := 64) (news := bs (d.wt[j].2.take (keepN keep j))) 0 rfl (by simp [bs, hx.2]; omega) ?_ (one_bs _)) (by simp [bs, hS]; omega) rfl ?_
      · intro q u hq
        simp only [bs, List.map_take, List.getElem?_take] at hq
        split at hq
        · rw [Nat.add_comm, List.getElem?_toArray, List.getElem?_cons_succ]; exact hq
        · cases hq
      intro w st
      refine wl_nil ⟨rfl, ?_⟩
      refine fl_nil (by kernel_rfl) ⟨obl_ld rfl rfl rfl (v_load rfl (st.reads 0 rfl TF.t3 rfl)), obl_ld rfl rfl rfl (v_load rfl (by first | assumption | exact st.reads 0 rfl TF.t59 rfl | exact st.reads 1 rfl TF.t59 rfl | exact st.reads 2 rfl TF.t59 rfl | exact st.reads 3 rfl TF.t59 rfl | exact st.reads 4 rfl TF.t59 rfl)), trivial⟩ ?_
      have st := st.drop 0
      have e : setSeg (bs S).toArray (d.wt[j].1 * 64) ((bs (d.wt[j].2.take (keepN keep j))).take (min (keepN keep j) (keepN keep j) * 1)) = (bs (splice S (64 * d.wt[j].1) (d.wt[j].2.take (keepN keep j)))).toArray := by
        rw [List.take_of_length_le (by simp [bs]; omega), Nat.mul_comm]
        exact setSeg_bs
      change St _ _ _ _ _ [_, blk s (setSeg (bs S).toArray (d.wt[j].1 * 64) ((bs (d.wt[j].2.take (keepN keep j))).take (min (keepN keep j) (keepN keep j) * 1))) _, _] at st
      rw [e] at st
      refine block_go (then_go ?_)
      refine wc_region ?_
      refine wl_val (v_add' rfl rfl rfl (by first | omega | (dsimp only at *; omega)) (by first | omega | (dsimp only at *; omega))) rfl ?_
      refine wl_val (v_move' (by conv => (lhs; whnf))) rfl ?_
      refine wl_nil ?_
      refine then_go ?_
      refine ⟨k - 1, by simp; omega, j + 1, splice S (64 * d.wt[j].1) (d.wt[j].2.take (keepN keep j)), by omega, rfl, rfl, rfl, rfl, rfl, ?_, ?_, st⟩
      · rw [length_splice (by simp [hS, hx.2]; omega), hS]
      · rw [hcr, crash_step hj]
    · refine wc_skip ?_
      refine block_go (then_go ?_)
      refine wc_region ?_
      refine wl_val (v_add' rfl rfl rfl (by first | omega | (dsimp only at *; omega)) (by first | omega | (dsimp only at *; omega))) rfl ?_
      refine wl_val (v_move' (by conv => (lhs; whnf))) rfl ?_
      refine wl_nil ?_
      refine then_go ?_
      have st := st.drop 0
      have hkn : keepN keep j = 0 := keepN_none (by omega)
      refine ⟨k - 1, by simp; omega, j + 1, S, by omega, rfl, rfl, rfl, rfl, rfl, hS, ?_, st⟩
      rw [hcr, crash_step hj, hkn]
      simp [splice_nil]
  · refine wc_exit (then_exit (then_exit (block_hit ?_)))
    refine then_go ?_
    have hjl : j = d.wt.length := by omega
    subst hjl
    refine wc_region ?_
    refine wl_val (v_move' (by conv => (lhs; whnf))) rfl ?_
    refine wl_val (v_move' (by conv => (lhs; whnf))) rfl ?_
    refine wl_val (v_move' (by conv => (lhs; whnf))) rfl ?_
    refine wl_val (v_nil rfl) rfl ?_
    refine wl_val (v_fa TF.f62_1 rfl) rfl ?_
    refine wl_store1 0 st rfl TF.t60 rfl (by conv => (lhs; whnf)) rfl (by first | exact lt_ok rfl | decide | simp) ?_
    intro w st
    refine wl_val (v_nil rfl) rfl ?_
    refine wl_val (v_fa TF.f62_3 rfl) rfl ?_
    refine wl_store1 0 st rfl TF.t4 rfl (by conv => (lhs; whnf)) rfl (by first | exact lt_ok rfl | decide | simp) ?_
    intro w st
    refine wl_val (v_nil rfl) rfl ?_
    refine wl_val (v_fa TF.f62_2 rfl) rfl ?_
    refine wl_store1 0 st rfl TF.t3 rfl (by conv => (lhs; whnf)) rfl (by first | exact lt_ok rfl | decide | simp) ?_
    intro w st
    have st := st_nil st 2 rfl
    change St _ _ _ _ _ (diskL b s n (.slice none 0 0) ⟨S, [], -1, false⟩) at st
    refine wl_nil ?_
    refine end0 ⟨_, _, (St.finish (Es := []) st).1, (St.finish (Es := []) st).2, ?_⟩
    unfold crashD
    rw [hcr]
    simp [crashS]

theorem length_nowOf {d : DS} {n i : Nat} (ok : d.ok n) (hi : i < n) : (nowOf d i).length = 64 := by
  unfold nowOf
  cases h : lastW i d.wt with
  | none => simp [sec, ok.len]; omega
  | some x =>
    have : ∀ l : List (Nat × By), (∀ y ∈ l, y.2.length = 64) → lastW i l = some x → x.length = 64 := by
      intro l
      induction l with
      | nil => intro _ h; simp [lastW] at h
      | cons y l ih =>
        intro hl h
        simp only [lastW] at h
        split at h
        · rename_i b hb
          cases h
          exact ih (fun z hz => hl z (List.mem_cons_of_mem _ hz)) hb
        · split at h
          · cases h; exact hl y List.mem_cons_self
          · cases h
    simpa using this d.wt (fun y hy => (ok.wt y hy).2) h

/-- Bytes in new memory. -/
def NewBytes (w w' : World) (v : Value) (l : By) : Prop := ∃ m1, Fresh m1 w ∧ Im m1 w' ∧ SlM m1 v 1 l.length (bs l)

theorem newNil (w w' : World) : NewBytes w w' (.slice none 0 0) [] := by
  refine ⟨fun _ => none, ?_, ?_, SlM.nil⟩
  · intro k o h; cases h
  · intro k o h; cases h

theorem c_read (i : Int) (him : Im m w) (hd : diskM m b n d) :
    Ret Try.prog 23 #[.pointer (some ⟨b, 0, none⟩), .int .i64 i] w fun v w' => Tch w w' [] [] ∧ ∃ sv, NewBytes w w' sv (readD d n i).1 ∧ v = .tuple #[sv, .int .i64 (readD d n i).2] := by
  have ok := hd.ok
  have st := St.start him
  refine ret_of Try.call23 Try.func23 rfl Try.ntmps23 Try.results23 rfl ?_
  refine wc_seq ?_
  refine wc_region ?_
  refine wl_val (v_assign' (by conv => (lhs; whnf))) rfl ?_
  refine wl_val (v_assign' (by conv => (lhs; whnf))) rfl ?_
  refine wl_nil ?_
  refine then_go ?_
  refine wc_seq ?_
  refine wc_seq ?_
  refine wc_region ?_
  refine wl_val (v_move' (by conv => (lhs; whnf))) rfl ?_
  refine wl_val (v_move' (by conv => (lhs; whnf))) rfl ?_
  refine wl_call rfl (c_check i him hd) rfl ?_
  rintro v10 w' ⟨rfl, rfl⟩
  refine wl_val (v_assign' (by conv => (lhs; whnf))) rfl ?_
  refine wl_nil ?_
  refine then_go ?_
  refine wc_seq ?_
  refine wc_region ?_
  refine wl_val (v_move' (by conv => (lhs; whnf))) rfl ?_
  refine wl_val (v_neq rfl rfl) rfl ?_
  refine wl_nil ?_
  refine then_go ?_
  refine wc_if rfl (fun h12 => ?_) (fun h12 => ?_)
  · refine wc_seq ?_
    refine wc_region ?_
    refine wl_val (v_move' (by conv => (lhs; whnf))) rfl ?_
    refine wl_val (v_assign' (by conv => (lhs; whnf))) rfl ?_
    refine wl_val (v_assign' (by conv => (lhs; whnf))) rfl ?_
    refine wl_nil ?_
    refine then_go ?_
    refine wc_ret (then_ret ?_)
    have he : readD d n i = ([], if d.down = true then 14 else if i < 0 ∨ i ≥ n then 2 else 0) := by
      unfold readD
      by_cases hd : d.down = true
      · rw [if_pos hd, if_pos hd]
      · rw [if_neg hd, if_neg hd]
        by_cases hr : i < 0 ∨ i ≥ n
        · rw [if_pos hr, if_pos hr]
        · exact absurd (by rw [if_neg hd, if_neg hr]) h12
    refine ret2 (v := .slice none 0 0) (v' := .int .i64 (if d.down = true then 14 else if i < 0 ∨ i ≥ n then 2 else 0)) rfl rfl ⟨st.touch, .slice none 0 0, ?_, ?_⟩
    · rw [he]; exact newNil _ _
    · rw [he]
  · refine wc_skip ?_
    refine then_go ?_
    refine wc_seq ?_
    have hd' : ¬ d.down = true := fun hd => h12 (by rw [if_pos hd]; decide)
    have hr : ¬ (i < 0 ∨ i ≥ n) := fun hr => h12 (by rw [if_neg hd', if_pos hr]; decide)
    obtain ⟨k, rfl⟩ : ∃ k : Nat, i = k := ⟨i.toNat, by omega⟩
    have hk : k < n := by omega
    have he : readD d n k = (nowOf d k, 0) := by unfold readD; rw [if_neg hd', if_neg hr]; rfl
    have hl := length_nowOf ok hk
    refine wc_region ?_
    refine wl_val (v_move' (by conv => (lhs; whnf))) rfl ?_
    refine wl_val (v_move' (by conv => (lhs; whnf))) rfl ?_
    refine wl_call rfl (c_now k hk st.im hd) rfl ?_
    rintro v16 w ⟨t, rfl⟩
    have st := st.pure t
    refine wl_alloc TF.z64 st rfl ?_
    intro b7 w st
    refine wl_storeW 0 st rfl TF.t64 rfl rfl (by simp [bs, hl]) (by simp [Value.cells]) (fun u hu => one_bs _ u (by simpa using hu)) ?_
    intro w st
    refine wl_nil ?_
    refine then_go ?_
    refine wc_seq ?_
    refine wc_region ?_
    refine wl_val (v_slice_a (l := 0) (h := 64) Try.underlying64 TF.t5 rfl rfl rfl (by omega) (by omega)) rfl ?_
    refine wl_val (v_assign' (by conv => (lhs; whnf))) rfl ?_
    refine wl_val (v_assign' (by conv => (lhs; whnf))) rfl ?_
    refine wl_nil ?_
    refine then_go ?_
    refine wc_ret ?_
    obtain ⟨m1, h1, h2, h3⟩ := st.freshB (i := 0) rfl
    refine ret2 (v := .slice (some ⟨b7, 0, none⟩) 64 64) (v' := .int .i64 0) rfl rfl ⟨st.touch, .slice (some ⟨b7, 0, none⟩) 64 64, ?_, ?_⟩
    · rw [he]
      refine ⟨m1, h1, h2, ?_⟩
      show SlM m1 _ 1 (nowOf d k).length _
      rw [hl]
      exact SlM.of h3 (by simp [bs, hl]) (Nat.le_refl _) (fun j u hj => by simpa using hj)
    · rw [he]

theorem dumpK_all (d : DS) : dumpK d d.wt.length = dump d := by simp [dumpK, dump]

theorem setSeg_sp {S l : By} {sp : List Value} {o : Nat} (h : o + l.length ≤ S.length) : setSeg (bs S ++ sp).toArray o (bs l) = (bs (splice S o l) ++ sp).toArray := by
  apply Array.ext'
  simp only [setSeg, splice, bs, List.map_append, List.map_take, List.map_drop, List.length_map]
  rw [List.take_append_of_le_length (by simp; omega), List.drop_append_of_le_length (by simp; omega)]
  simp

theorem c_dump {wI : World} (him : Im m wI) (hd : diskM m b n d) :
    Ret Try.prog 12 #[.pointer (some ⟨b, 0, none⟩)] wI fun v w' => Tch wI w' [] [] ∧ NewBytes wI w' v (dump d) := by
  obtain ⟨ok, ⟨s, wv, hb, hs, hw⟩, hf⟩ := hd
  have st := St.start him
  have hw0 := hw
  obtain ⟨hwl, wa, wc, rfl, hw1⟩ := hw
  have ok1 := ok.pos
  have ok2 := ok.le
  have ok3 := ok.len
  have ok' := ok.wt
  refine ret_of Try.call12 Try.func12 rfl Try.ntmps12 Try.results12 rfl ?_
  refine wc_seq ?_
  refine wc_region ?_
  refine wl_val (v_assign' (by conv => (lhs; whnf))) rfl ?_
  refine wl_nil ?_
  refine then_go ?_
  refine wc_seq ?_
  refine wc_region ?_
  refine wl_val (v_move' (by conv => (lhs; whnf))) rfl ?_
  refine wl_val (v_nil rfl) rfl ?_
  refine wl_val (v_fa TF.f62_0 rfl) rfl ?_
  refine wl_val (v_load rfl (st.readm hb TF.t59 rfl)) rfl ?_
  refine wl_val (v_len_s Try.underlying59 rfl) rfl ?_
  refine wl_val (v_mul' rfl rfl rfl (by first | omega | (dsimp only at *; omega)) (by first | omega | (dsimp only at *; omega))) rfl ?_
  refine wl_make (l := 0) (c := n * 64) Try.underlying22 TF.t5 TF.z5 rfl rfl rfl (by simp) (by omega) (by omega) (by omega) (by omega) st rfl ?_
  intro b3 w st
  have st := st.rowShut 0 (k := 0) (cap := n * 64) (size := 1) (xs := []) rfl (by omega) (by simp [size_madeCells]) (by omega) (by simp)
  refine wl_val (v_assign' (by conv => (lhs; whnf))) rfl ?_
  refine wl_nil ?_
  refine then_go ?_
  refine wc_seq ?_
  refine wc_region ?_
  refine wl_val (v_move' (by conv => (lhs; whnf))) rfl ?_
  refine wl_val (v_nil rfl) rfl ?_
  refine wl_val (v_fa TF.f62_0 rfl) rfl ?_
  refine wl_val (v_load rfl (st.readm hb TF.t59 rfl)) rfl ?_
  have st := st.new (E := rowE (.slice none 0 0) 64 64 0 []) ⟨rfl, rfl, rfl, Nat.le_refl _, fun _ _ _ => rfl, by simp [rowE, Value.ownBlock]⟩ ⟨by simp, .inl ⟨rfl, rfl⟩⟩
  refine wl_append 0 st rfl Try.underlying59 Try.underlying59 (.inr ⟨_, rfl⟩) TF.t64 TF.z64 (by simp [Value.cells]) rfl rfl ((SlM.of (o := 0) (k := n) (cap := n) (size := 64) (xs := bs d.S) hs (by simp [bs, ok3]; omega) (Nat.le_refl _) (fun j u hj => by simpa using hj)).src st.im (one_bs _)) (by omega) (by omega) rfl ?_
  intro lv w _ st
  rw [Nat.zero_add, List.nil_append] at st
  obtain ⟨g, cap, sp, rfl, hgc, hsp, hcap, st⟩ := st.rowOpen 0 rfl (by omega)
  change St _ _ _ _ _ [blk g (bs d.S ++ sp).toArray 64, rowE (.slice (some ⟨b3, 0, none⟩) 0 (n * 64)) 5 1 0 []] at st
  refine wl_val (v_assign' (by conv => (lhs; whnf))) rfl ?_
  refine wl_nil ?_
  refine then_go ?_
  refine wc_seq ?_
  refine wc_seq ?_
  refine wc_region ?_
  refine wl_val (v_move' (by conv => (lhs; whnf))) rfl ?_
  refine wl_val (v_nil rfl) rfl ?_
  refine wl_val (v_fa TF.f62_1 rfl) rfl ?_
  refine wl_val (v_load rfl (st.readm hb TF.t60 rfl)) rfl ?_
  refine wl_val (v_len_s Try.underlying60 rfl) rfl ?_
  refine wl_val (v_move' (by conv => (lhs; whnf))) rfl ?_
  refine wl_nil ?_
  refine then_go ?_
  refine wc_block ?_
  refine wc_loop (S := Nat) (fun k r w' => ∃ j, k + j = d.wt.length ∧ r 3 = .slice (some ⟨b3, 0, none⟩) 0 (n * 64) ∧ r 4 = .slice (some ⟨g, 0, none⟩) n cap ∧ r 24 = .slice wa d.wt.length wc ∧ r 25 = .int .i64 d.wt.length ∧ r 26 = .int .i64 j ∧
    St m m [] wI w' [blk g (bs (dumpK d j) ++ sp).toArray 64, rowE (.slice (some ⟨b3, 0, none⟩) 0 (n * 64)) 5 1 0 []]) id d.wt.length ⟨0, rfl, rfl, rfl, rfl, rfl, rfl, st⟩ ?_
  rintro k r w2 ⟨j, hkj, h3, h4, h24, h25, h26, st⟩
  refine wc_o 3 h3 (wc_o 4 h4 (wc_o 24 h24 (wc_o 25 h25 (wc_o 26 h26 ?_))))
  refine wc_seq ?_
  refine wc_region ?_
  refine wl_val (v_lss rfl rfl) rfl ?_
  refine wl_nil ?_
  refine then_go ?_
  refine wc_seq ?_
  refine wc_if rfl (fun h27 => ?_) (fun h27 => ?_)
  · refine wc_skip ?_
    refine then_go ?_
    refine wc_seq ?_
    refine wc_block ?_
    refine wc_seq ?_
    have hj : j < d.wt.length := by omega
    obtain ⟨wb, wo, wcap, hv, _, hrd⟩ := hw0.elem Try.prog (i := j) hj (by omega)
    cases hv
    have hel : cellsAt (wtCells d.wt) 65 j = Value.int .i64 d.wt[j].1 :: bs d.wt[j].2 := wt_elem (fun x hx => (ok' x hx).2) hj
    have hx := ok' d.wt[j] (List.getElem_mem _)
    refine wc_region ?_
    refine wl_val (v_ias j Try.underlying60 TF.t66 rfl rfl (by first | rfl | omega) (by first | omega | (dsimp only at *; omega))) rfl ?_
    refine wl_val (v_load rfl (hrd st.im (off := 0) TF.t66 (getV_all (by rw [hel]; simp [bs, hx.2])))) rfl ?_
    refine wl_alloc TF.z66 st rfl ?_
    intro b6 w st
    refine wl_storeW 0 st rfl TF.t66 rfl rfl (by rw [hel]; simp [bs, hx.2]) (by simp [Value.cells]) (fun u hu => by
      rw [hel] at hu
      rcases List.mem_cons.1 (List.mem_toArray.1 (by simpa using hu)) with rfl | hu'
      · rfl
      · exact one_bs _ u hu') ?_
    intro w st
    rw [hel] at st
    refine wl_nil ?_
    refine then_go ?_
    refine wc_region ?_
    refine wl_val (v_move' (by conv => (lhs; whnf))) rfl ?_
    refine wl_val (v_fa TF.f66_0 rfl) rfl ?_
    refine wl_val (v_load rfl (by first | assumption | exact st.reads 0 rfl TF.t3 rfl | exact st.reads 1 rfl TF.t3 rfl | exact st.reads 2 rfl TF.t3 rfl | exact st.reads 3 rfl TF.t3 rfl | exact st.reads 4 rfl TF.t3 rfl)) rfl ?_
    refine wl_val (v_fa TF.f66_1 rfl) rfl ?_
    refine wl_val (v_load rfl (st.reads 0 rfl TF.t64 (getV_tl (by simp [bs, hx.2])))) rfl ?_
    refine wl_val (v_ias (d.wt[j].1) Try.underlying59 TF.t64 rfl rfl (by first | rfl | omega) hx.1) rfl ?_
    have hlS : (dumpK d j).length = 64 * n := length_dumpK ok j (by omega)
    refine wl_store (v := .agg (bs d.wt[j].2).toArray) 1 st rfl TF.t64 rfl rfl (by simp [Value.cells, bs, hx.2]) (fun u hu => one_bs _ u (by simpa [Value.cells] using hu)) (by simp [bs, hlS]; omega) ?_
    intro w st
    have e : setSeg (bs (dumpK d j) ++ sp).toArray (0 + d.wt[j].1 * 64) (Value.agg (bs d.wt[j].2).toArray).cells.toList = (bs (dumpK d (j + 1)) ++ sp).toArray := by
      rw [dumpK_succ d j hj, show 0 + d.wt[j].1 * 64 = 64 * d.wt[j].1 by omega]
      exact setSeg_sp (by rw [hlS, hx.2]; omega)
    rw [e] at st
    have st := st.drop 0
    refine wl_nil ?_
    refine block_go (then_go ?_)
    refine wc_region ?_
    refine wl_val (v_add' rfl rfl rfl (by first | omega | (dsimp only at *; omega)) (by first | omega | (dsimp only at *; omega))) rfl ?_
    refine wl_val (v_move' (by conv => (lhs; whnf))) rfl ?_
    refine wl_nil ?_
    refine then_go ?_
    exact ⟨k - 1, by simp; omega, j + 1, by omega, rfl, rfl, rfl, rfl, rfl, st⟩
  · refine wc_exit (then_exit (then_exit (block_hit ?_)))
    refine then_go ?_
    refine wc_seq ?_
    refine wc_seq ?_
    have hjl : j = d.wt.length := by omega
    subst hjl
    rw [dumpK_all] at st
    have hD : (dump d).length = 64 * n := by rw [← dumpK_all]; exact length_dumpK ok _ (Nat.le_refl _)
    refine wc_region ?_
    refine wl_val (v_move' (by conv => (lhs; whnf))) rfl ?_
    refine wl_val (v_len_s Try.underlying59 rfl) rfl ?_
    refine wl_val (v_move' (by conv => (lhs; whnf))) rfl ?_
    refine wl_nil ?_
    refine then_go ?_
    refine wc_block ?_
    refine wc_loop (S := Nat) (fun k r w' => ∃ j v, k + j = n ∧ r 3 = v ∧ r 37 = .slice (some ⟨g, 0, none⟩) n cap ∧ r 38 = .int .i64 n ∧ r 39 = .int .i64 j ∧
      St m m [] wI w' [blk g (bs (dump d) ++ sp).toArray 64, rowE v 5 1 (64 * j) (bs ((dump d).take (64 * j)))]) id n ⟨0, _, rfl, rfl, rfl, rfl, rfl, by rw [show bs ((dump d).take (64 * 0)) = [] by simp [bs]]; exact st⟩ ?_
    rintro k r w2 ⟨j, v, hkj, h3, h37, h38, h39, st⟩
    refine wc_o 3 h3 (wc_o 37 h37 (wc_o 38 h38 (wc_o 39 h39 ?_)))
    refine wc_seq ?_
    refine wc_region ?_
    refine wl_val (v_lss rfl rfl) rfl ?_
    refine wl_nil ?_
    refine then_go ?_
    refine wc_seq ?_
    refine wc_if rfl (fun h40 => ?_) (fun h40 => ?_)
    · refine wc_skip ?_
      refine then_go ?_
      refine wc_seq ?_
      refine wc_block ?_
      refine wc_seq ?_
      have hj : j < n := by omega
      have hsec : (sec (dump d) j).length = 64 := by simp [sec, hD]; omega
      refine wc_region ?_
      refine wl_val (v_ias j Try.underlying59 TF.t64 rfl rfl (by first | rfl | omega) (by first | omega | (dsimp only at *; omega))) rfl ?_
      refine wl_val (v_load rfl (st.reads 0 rfl TF.t64 (getV_seg (a := bs ((dump d).take (64 * j))) (b := bs (sec (dump d) j)) (c := bs ((dump d).drop (64 * j + 64)) ++ sp) (by rw [← List.append_assoc, ← bs_append, ← bs_append, secs_split]) (by simp [bs, hD]; omega) (by simp [bs, hsec])))) rfl ?_
      refine wl_alloc TF.z64 st rfl ?_
      intro b8 w st
      refine wl_storeW 0 st rfl TF.t64 rfl rfl (by simp [bs, hsec]) (by simp [Value.cells]) (fun u hu => one_bs _ u (by simpa using hu)) ?_
      intro w st
      refine wl_nil ?_
      refine then_go ?_
      refine wc_region ?_
      refine wl_val (v_move' (by conv => (lhs; whnf))) rfl ?_
      refine wl_val (v_slice_a (l := 0) (h := 64) Try.underlying64 TF.t5 rfl rfl rfl (by omega) (by omega)) rfl ?_
      refine wl_append 2 st rfl Try.underlying22 Try.underlying22 (.inr ⟨_, rfl⟩) TF.t5 TF.z5 (by simp [Value.cells]) rfl rfl (st.srcArr (off := 0) (news := bs (sec (dump d) j)) 0 rfl (by simp [bs, hsec]) (fun q u hq => by simpa using hq) (one_bs _)) (by omega) (by omega) rfl ?_
      intro ov w _ st
      have e : bs ((dump d).take (64 * j)) ++ bs (sec (dump d) j) = bs ((dump d).take (64 * (j + 1))) := by
        rw [← bs_append]
        congr 1
        unfold sec
        rw [show 64 * (j + 1) = 64 * j + 64 by omega, List.take_add]
      rw [e] at st
      have st := st.drop 0
      refine wl_val (v_assign' (by conv => (lhs; whnf))) rfl ?_
      refine wl_nil ?_
      refine block_go (then_go ?_)
      refine wc_region ?_
      refine wl_val (v_add' rfl rfl rfl (by first | omega | (dsimp only at *; omega)) (by first | omega | (dsimp only at *; omega))) rfl ?_
      refine wl_val (v_move' (by conv => (lhs; whnf))) rfl ?_
      refine wl_nil ?_
      refine then_go ?_
      exact ⟨k - 1, by simp; omega, j + 1, ov, by omega, rfl, rfl, rfl, rfl, st⟩
    · refine wc_exit (then_exit (then_exit (block_hit ?_)))
      refine then_go ?_
      refine wc_seq ?_
      refine wc_region ?_
      refine wl_val (v_move' (by conv => (lhs; whnf))) rfl ?_
      refine wl_val (v_assign' (by conv => (lhs; whnf))) rfl ?_
      refine wl_nil ?_
      refine then_go ?_
      refine wc_ret ?_
      have hjn : j = n := by omega
      obtain ⟨m1, h1, h2, h3'⟩ := st.freshR (i := 1) rfl
      refine ret1 (v := v) rfl ⟨st.touch, m1, h1, h2, ?_⟩
      rw [hjn] at h3'
      rw [List.take_of_length_le (by omega)] at h3'
      rw [hD]
      exact h3'

end
end Go.Proofs.Ytekhcjgmgflmkaa
