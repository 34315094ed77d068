/-
  The disk: its calls that read, walked.
-/
import Derived.Test.YtekhcjgmgflmkaaDp
import Derived.Test.YtekhcjgmgflmkaaF
namespace Go.Proofs.Ytekhcjgmgflmkaa
open Go Go.RowKit K DK

def wtCells (l : List (Nat × By)) : List Value := l.flatMap fun x => Value.int .i64 x.1 :: bs x.2

theorem length_wtCells {l : List (Nat × By)} (h : ∀ x ∈ l, x.2.length = 64) : (wtCells l).length = l.length * 65 := by
  induction l with
  | nil => rfl
  | cons x l ih =>
    have := ih fun y hy => h y (List.mem_cons_of_mem _ hy)
    have := h x List.mem_cons_self
    simp only [wtCells, List.flatMap_cons, List.length_append, List.length_cons, length_bs] at *
    omega

theorem drop_wtCells {l : List (Nat × By)} (h : ∀ x ∈ l, x.2.length = 64) (i : Nat) : (wtCells l).drop (i * 65) = wtCells (l.drop i) := by
  induction l generalizing i with
  | nil => simp [wtCells]
  | cons x l ih =>
    cases i with
    | zero => simp
    | succ i =>
      have h1 := ih (fun y hy => h y (List.mem_cons_of_mem _ hy)) i
      have h2 := h x List.mem_cons_self
      have e : (i + 1) * 65 = (Value.int .i64 x.1 :: bs x.2).length + i * 65 := by simp [length_bs, h2]; omega
      have e2 : wtCells (x :: l) = (Value.int .i64 x.1 :: bs x.2) ++ wtCells l := by simp [wtCells]
      rw [e, e2, ← List.drop_drop, List.drop_left, List.drop_succ_cons]
      exact h1

theorem wt_elem {l : List (Nat × By)} (h : ∀ x ∈ l, x.2.length = 64) {i : Nat} (hi : i < l.length) : cellsAt (wtCells l) 65 i = Value.int .i64 l[i].1 :: bs l[i].2 := by
  unfold cellsAt
  rw [drop_wtCells h, List.drop_eq_getElem_cons hi]
  have h2 := h l[i] (List.getElem_mem hi)
  simp only [wtCells, List.flatMap_cons]
  have e : (65 : Nat) = (Value.int .i64 l[i].1 :: bs l[i].2).length := by simp [length_bs, h2]
  rw [e, List.take_left]

/-- A disk in memory that stays as it is. -/
structure diskM (m : Mem) (b n : Nat) (d : DS) : Prop where
  ok : d.ok n
  mem : ∃ s wv, m b = some (.cells #[.slice (some ⟨s, 0, none⟩) n n, wv, .int .i64 d.fuse, .bool d.down] 62 (0, 0)) ∧ m s = some (.cells (bs d.S).toArray 64 (0, 0)) ∧ SlM m wv 65 d.wt.length (wtCells d.wt)
  few : d.wt.length ≤ 9223372036854775807

theorem bs_append (a b : By) : bs (a ++ b) = bs a ++ bs b := by simp [bs]

theorem secs_split (S : By) (i : Nat) : S.take (64 * i) ++ sec S i ++ S.drop (64 * i + 64) = S := by
  unfold sec
  rw [List.append_assoc, ← List.drop_drop, List.take_append_drop, List.take_append_drop]

theorem c_check {m : Mem} {w : World} {b n : Nat} {d : DS} (i : Int) (him : Im m w) (hd : diskM m b n d) :
    Ret Try.prog 33 #[.pointer (some ⟨b, 0, none⟩), .int .i64 i] w fun v w' => w' = w ∧ v = .int .i64 (if d.down then 14 else if i < 0 ∨ i ≥ n then 2 else 0) := by
  obtain ⟨ok, ⟨s, wv, hb, hs, hw⟩, hf⟩ := hd
  have st := St.start him
  refine ret_of Try.call33 Try.func33 rfl Try.ntmps33 Try.results33 rfl ?_
  refine wc_seq ?_
  refine wc_region ?_
  refine wl_val (v_assign' (by conv => (lhs; whnf))) rfl ?_
  refine wl_nil ?_
  refine then_go ?_
  refine wc_seq ?_
  refine wc_block ?_
  refine wc_seq ?_
  refine wc_region ?_
  refine wl_val (v_move' (by conv => (lhs; whnf))) rfl ?_
  refine wl_val (v_nil rfl) rfl ?_
  refine wl_val (v_fa TF.f62_3 rfl) rfl ?_
  refine wl_val (v_load rfl (st.readm hb TF.t4 rfl)) rfl ?_
  refine wl_val (v_assign' (by conv => (lhs; whnf))) rfl ?_
  refine wl_nil ?_
  refine then_go ?_
  refine wc_cond rfl (fun h5 => ?_) (fun h5 => ?_)
  · refine wc_seq ?_
    refine wc_region ?_
    refine wl_val (v_assign' (by conv => (lhs; whnf))) rfl ?_
    refine wl_nil ?_
    refine then_go ?_
    refine wc_ret (block_ret (then_ret ?_))
    exact ret1 (v := .int .i64 14) rfl ⟨rfl, by simp [h5]⟩
  · refine wc_seq ?_
    refine wc_region ?_
    refine wl_val (v_move' (by conv => (lhs; whnf))) rfl ?_
    refine wl_val (v_lss rfl rfl) rfl ?_
    refine wl_val (v_move' (by conv => (lhs; whnf))) rfl ?_
    by_cases hg2 : i < 0
    · rw [show decide (i < 0) = true from decide_eq_true hg2]
      refine wl_off rfl rfl rfl rfl ?_
      refine wl_off rfl rfl rfl rfl ?_
      refine wl_off rfl rfl rfl rfl ?_
      refine wl_off rfl rfl rfl rfl ?_
      refine wl_off rfl rfl rfl rfl ?_
      refine wl_off rfl rfl rfl rfl ?_
      refine wl_off rfl rfl rfl rfl ?_
      refine wl_val (v_pick rfl) rfl ?_
      refine wl_val (v_assign' (by conv => (lhs; whnf))) rfl ?_
      refine wl_nil ?_
      refine then_go ?_
      refine wc_true rfl ?_
      refine wc_seq ?_
      refine wc_region ?_
      refine wl_val (v_assign' (by conv => (lhs; whnf))) rfl ?_
      refine wl_nil ?_
      refine then_go ?_
      refine wc_ret (block_ret (then_ret ?_))
      exact ret1 (v := .int .i64 2) rfl ⟨rfl, by simp [h5, hg2]⟩
    · rw [show decide (i < 0) = false from decide_eq_false hg2]
      refine wl_on rfl rfl ?_
      refine wl_val (v_move' (by conv => (lhs; whnf))) rfl ?_
      refine wl_on rfl rfl ?_
      refine wl_val (v_move' (by conv => (lhs; whnf))) rfl ?_
      refine wl_on rfl rfl ?_
      refine wl_val (v_nil rfl) rfl ?_
      refine wl_on rfl rfl ?_
      refine wl_val (v_fa TF.f62_0 rfl) rfl ?_
      refine wl_on rfl rfl ?_
      refine wl_val (v_load rfl (st.readm hb TF.t59 rfl)) rfl ?_
      refine wl_on rfl rfl ?_
      refine wl_val (v_len_s Try.underlying59 rfl) rfl ?_
      refine wl_on rfl rfl ?_
      refine wl_val (v_geq rfl rfl) rfl ?_
      refine wl_val (v_pick rfl) rfl ?_
      refine wl_val (v_assign' (by conv => (lhs; whnf))) rfl ?_
      refine wl_nil ?_
      refine then_go ?_
      refine wc_if rfl (fun h10 => ?_) (fun h10 => ?_)
      · refine wc_seq ?_
        refine wc_region ?_
        refine wl_val (v_assign' (by conv => (lhs; whnf))) rfl ?_
        refine wl_nil ?_
        refine then_go ?_
        refine wc_ret (block_ret (then_ret ?_))
        exact ret1 (v := .int .i64 2) rfl ⟨rfl, by simp [h5, h10]⟩
      · refine wc_skip ?_
        refine block_go (then_go ?_)
        refine wc_seq ?_
        refine wc_region ?_
        refine wl_val (v_assign' (by conv => (lhs; whnf))) rfl ?_
        refine wl_nil ?_
        refine then_go ?_
        refine wc_ret ?_
        exact ret1 (v := .int .i64 0) rfl ⟨rfl, by simp [h5, hg2]; omega⟩

theorem c_size {m : Mem} {w : World} {b n : Nat} {d : DS} (him : Im m w) (hd : diskM m b n d) :
    Ret Try.prog 13 #[.pointer (some ⟨b, 0, none⟩)] w fun v w' => w' = w ∧ v = .int .i64 n := by
  obtain ⟨ok, ⟨s, wv, hb, hs, hw⟩, hf⟩ := hd
  have st := St.start him
  refine ret_of Try.call13 Try.func13 rfl Try.ntmps13 Try.results13 rfl ?_
  refine wc_seq ?_
  refine wc_region ?_
  refine wl_val (v_assign' (by conv => (lhs; whnf))) rfl ?_
  refine wl_nil ?_
  refine then_go ?_
  refine wc_seq ?_
  refine wc_region ?_
  refine wl_val (v_move' (by conv => (lhs; whnf))) rfl ?_
  refine wl_val (v_nil rfl) rfl ?_
  refine wl_val (v_fa TF.f62_0 rfl) rfl ?_
  refine wl_val (v_load rfl (st.readm hb TF.t59 rfl)) rfl ?_
  refine wl_val (v_len_s Try.underlying59 rfl) rfl ?_
  refine wl_val (v_assign' (by conv => (lhs; whnf))) rfl ?_
  refine wl_nil ?_
  refine then_go ?_
  refine wc_ret ?_
  exact ret1 rfl ⟨rfl, rfl⟩

theorem c_pending {m : Mem} {w : World} {b n : Nat} {d : DS} (him : Im m w) (hd : diskM m b n d) :
    Ret Try.prog 14 #[.pointer (some ⟨b, 0, none⟩)] w fun v w' => w' = w ∧ v = .int .i64 d.wt.length := by
  obtain ⟨ok, ⟨s, wv, hb, hs, hw⟩, hf⟩ := hd
  obtain ⟨hwl, wa, wc, rfl, hw1⟩ := hw
  have st := St.start him
  refine ret_of Try.call14 Try.func14 rfl Try.ntmps14 Try.results14 rfl ?_
  refine wc_seq ?_
  refine wc_region ?_
  refine wl_val (v_assign' (by conv => (lhs; whnf))) rfl ?_
  refine wl_nil ?_
  refine then_go ?_
  refine wc_seq ?_
  refine wc_region ?_
  refine wl_val (v_move' (by conv => (lhs; whnf))) rfl ?_
  refine wl_val (v_nil rfl) rfl ?_
  refine wl_val (v_fa TF.f62_1 rfl) rfl ?_
  refine wl_val (v_load rfl (st.readm hb TF.t60 rfl)) rfl ?_
  refine wl_val (v_len_s Try.underlying60 rfl) rfl ?_
  refine wl_val (v_assign' (by conv => (lhs; whnf))) rfl ?_
  refine wl_nil ?_
  refine then_go ?_
  refine wc_ret ?_
  exact ret1 rfl ⟨rfl, rfl⟩

theorem c_now {m : Mem} {w : World} {b n : Nat} {d : DS} (i : Nat) (hi : i < n) (him : Im m w) (hd : diskM m b n d) :
    Ret Try.prog 34 #[.pointer (some ⟨b, 0, none⟩), .int .i64 i] w fun v w' => Tch w w' [] [] ∧ v = arr (nowOf d i) := by
  obtain ⟨ok, ⟨s, wv, hb, hs, hw⟩, hf⟩ := hd
  have hw0 := hw
  obtain ⟨hwl, wa, wc, rfl, hw1⟩ := hw
  have st := St.start him
  have ok' := ok.wt
  refine ret_of Try.call34 Try.func34 rfl Try.ntmps34 Try.results34 rfl ?_
  refine wc_seq ?_
  refine wc_region ?_
  refine wl_alloc TF.z64 st rfl ?_
  intro b4 w st
  refine wl_nil ?_
  refine then_go ?_
  refine wc_seq ?_
  refine wc_seq ?_
  refine wc_region ?_
  refine wl_val (v_move' (by conv => (lhs; whnf))) rfl ?_
  refine wl_val (v_nil rfl) rfl ?_
  refine wl_val (v_fa TF.f62_1 rfl) rfl ?_
  refine wl_val (v_load rfl (st.readm hb TF.t60 rfl)) rfl ?_
  refine wl_val (v_len_s Try.underlying60 rfl) rfl ?_
  refine wl_val (v_sub' rfl rfl rfl (by first | omega | (dsimp only at *; omega)) (by first | omega | (dsimp only at *; omega))) rfl ?_
  refine wl_val (v_assign' (by conv => (lhs; whnf))) rfl ?_
  refine wl_nil ?_
  refine then_go ?_
  refine wc_block ?_
  refine wc_loop (S := Nat) (fun k r w' => r 0 = .pointer (some ⟨b, 0, none⟩) ∧ r 1 = .int .i64 i ∧ r 4 = .pointer (some ⟨b4, 0, none⟩) ∧ r 5 = .int .i64 ((k : Int) - 1) ∧ w' = w ∧ k ≤ d.wt.length ∧ lastW i (d.wt.drop k) = none) id d.wt.length ⟨rfl, rfl, rfl, rfl, rfl, Nat.le_refl _, by simp [lastW]⟩ ?_
  rintro k r w ⟨h0, h1, h4, h5, rfl, hk, hl⟩
  refine wc_o 0 h0 (wc_o 1 h1 (wc_o 4 h4 (wc_o 5 h5 ?_)))
  refine wc_seq ?_
  refine wc_seq ?_
  refine wc_region ?_
  refine wl_val (v_move' (by conv => (lhs; whnf))) rfl ?_
  refine wl_val (v_geq rfl rfl) rfl ?_
  refine wl_nil ?_
  refine then_go ?_
  refine wc_if rfl (fun h13 => ?_) (fun h13 => ?_)
  · refine wc_skip ?_
    refine then_go ?_
    refine wc_seq ?_
    refine wc_block ?_
    refine wc_seq ?_
    obtain ⟨j, rfl⟩ : ∃ j, k = j + 1 := ⟨k - 1, by omega⟩
    obtain ⟨wb, wo, wcap, hv, _, hrd⟩ := hw0.elem Try.prog (i := j) (by omega) (by omega)
    cases hv
    have hel := wt_elem (fun x hx => (ok' x hx).2) (show j < d.wt.length by omega)
    have hlen := (ok' d.wt[j] (List.getElem_mem _)).2
    refine wc_region ?_
    refine wl_val (v_move' (by conv => (lhs; whnf))) rfl ?_
    refine wl_val (v_nil rfl) rfl ?_
    refine wl_val (v_fa TF.f62_1 rfl) rfl ?_
    refine wl_val (v_load rfl (st.readm hb TF.t60 rfl)) rfl ?_
    refine wl_val (v_move' (by conv => (lhs; whnf))) rfl ?_
    refine wl_val (v_ias j Try.underlying60 TF.t66 rfl rfl (by first | rfl | omega) (by first | omega | (dsimp only at *; omega))) rfl ?_
    refine wl_val (v_fa TF.f66_0 rfl) rfl ?_
    refine wl_val (v_load rfl (hrd st.im TF.t3 (by rw [hel]; rfl))) rfl ?_
    refine wl_val (v_move' (by conv => (lhs; whnf))) rfl ?_
    refine wl_val (v_eql rfl rfl) rfl ?_
    refine wl_nil ?_
    refine then_go ?_
    refine wc_if rfl (fun h25 => ?_) (fun h25 => ?_)
    · refine wc_seq ?_
      refine wc_region ?_
      refine wl_val (v_move' (by conv => (lhs; whnf))) rfl ?_
      refine wl_val (v_nil rfl) rfl ?_
      refine wl_val (v_fa TF.f62_1 rfl) rfl ?_
      refine wl_val (v_load rfl (st.readm hb TF.t60 rfl)) rfl ?_
      refine wl_val (v_move' (by conv => (lhs; whnf))) rfl ?_
      refine wl_val (v_ias j Try.underlying60 TF.t66 rfl rfl (by first | rfl | omega) (by first | omega | (dsimp only at *; omega))) rfl ?_
      refine wl_val (v_fa TF.f66_1 rfl) rfl ?_
      refine wl_val (v_load rfl (hrd st.im TF.t64 (by rw [hel]; exact getV_tl (by simp [bs, hlen])))) rfl ?_
      refine wl_storeW 0 st rfl TF.t64 rfl rfl (by simp [bs, hlen]) (by simp [Value.cells]) (fun u hu => one_bs _ u (by simpa using hu)) ?_
      intro w st
      refine wl_nil ?_
      refine then_go ?_
      refine wc_ret (block_ret (then_ret (then_ret (block_ret (then_ret ?_)))))
      refine ret1c rfl (st.reads 0 rfl TF.t64 (getV_all (by simp [bs, hlen]))) ⟨st.touch, ?_⟩
      have hd2 : lastW i (d.wt.drop j) = some d.wt[j].2 := by
        rw [List.drop_eq_getElem_cons (by omega)]
        simp only [lastW, hl]
        rw [if_pos (by omega)]
      unfold nowOf
      rw [lastW_drop hd2]
      rfl
    · refine wc_skip ?_
      refine block_go (then_go ?_)
      refine wc_region ?_
      refine wl_val (v_move' (by conv => (lhs; whnf))) rfl ?_
      refine wl_val (v_sub' rfl rfl rfl (by first | omega | (dsimp only at *; omega)) (by first | omega | (dsimp only at *; omega))) rfl ?_
      refine wl_val (v_assign' (by conv => (lhs; whnf))) rfl ?_
      refine wl_nil ?_
      refine then_go ?_
      exact ⟨j, by simp, rfl, rfl, rfl, by rw [show ((j : Int) - 1) = ((j + 1 : Nat) : Int) - 1 - 1 by omega]; rfl, rfl, by omega, by rw [List.drop_eq_getElem_cons (by omega)]; simp only [lastW, hl]; rw [if_neg (by omega)]⟩
  · refine wc_exit (then_exit (then_exit (block_hit ?_)))
    refine then_go ?_
    refine wc_seq ?_
    refine wc_region ?_
    refine wl_val (v_move' (by conv => (lhs; whnf))) rfl ?_
    refine wl_val (v_nil rfl) rfl ?_
    refine wl_val (v_fa TF.f62_0 rfl) rfl ?_
    refine wl_val (v_load rfl (st.readm hb TF.t59 rfl)) rfl ?_
    refine wl_val (v_move' (by conv => (lhs; whnf))) rfl ?_
    refine wl_val (v_ias i Try.underlying59 TF.t64 rfl rfl (by first | rfl | omega) (by first | omega | (dsimp only at *; omega))) rfl ?_
    refine wl_val (v_load rfl (st.readm hs TF.t64 (getV_seg (a := bs (d.S.take (64 * i))) (b := bs (sec d.S i)) (c := bs (d.S.drop (64 * i + 64))) (by rw [← bs_append, ← bs_append, secs_split]) (by simp [bs, ok.len]; omega) (by simp [bs, sec, ok.len]; omega)))) rfl ?_
    refine wl_storeW 0 st rfl TF.t64 rfl rfl (by simp [bs, sec, ok.len]; omega) (by simp [Value.cells]) (fun u hu => one_bs _ u (by simpa using hu)) ?_
    intro w st
    refine wl_nil ?_
    refine then_go ?_
    refine wc_ret ?_
    refine ret1c rfl (st.reads 0 rfl TF.t64 (getV_all (by simp [bs, sec, ok.len]; omega))) ⟨st.touch, ?_⟩
    obtain rfl : k = 0 := by omega
    unfold nowOf
    rw [show lastW i d.wt = none by simpa using hl]
    rfl

end Go.Proofs.Ytekhcjgmgflmkaa
