/-
  The reference's disk, walked.
-/
import Derived.Test.YtekhcjgmgflmkaaDd
namespace Go.Proofs.Ytekhcjgmgflmkaa
open Go Go.RowKit K DK

/-- Writes that wait, in the unchanging part: the list, each with its bytes. -/
def WtM (m : Mem) (v : Value) (l : List (Nat × By)) : Prop :=
  ∃ L : List ((Nat × By) × Value), L.map (·.1) = l ∧ SlM m v 2 l.length (L.flatMap fun x => [.int .i64 x.1.1, x.2]) ∧ ∀ x ∈ L, SlM m x.2 1 64 (bs x.1.2)

theorem WtM.mono {m m' : Mem} {v : Value} {l : List (Nat × By)} (h : WtM m v l) (hm : ∀ k o, m k = some o → m' k = some o) : WtM m' v l :=
  let ⟨L, h1, h2, h3⟩ := h
  ⟨L, h1, h2.mono hm, fun x hx => (h3 x hx).mono hm⟩

/-- The reference's disk. -/
structure RefM (m : Mem) (v : Value) (n : Nat) (d : DS) : Prop where
  ok : d.ok n
  mem : ∃ sv wv, v = .agg #[sv, wv, .int .i64 d.fuse, .bool d.down] ∧ SlM m sv 1 d.S.length (bs d.S) ∧ WtM m wv d.wt

theorem RefM.mono {m m' : Mem} {v : Value} {n : Nat} {d : DS} (h : RefM m v n d) (hm : ∀ k o, m k = some o → m' k = some o) : RefM m' v n d :=
  let ⟨ok, sv, wv, h1, h2, h3⟩ := h
  ⟨ok, sv, wv, h1, h2.mono hm, h3.mono hm⟩

theorem WtM.len {m : Mem} {v : Value} {l : List (Nat × By)} (h : WtM m v l) : ∃ a cap, v = .slice a l.length cap ∧ l.length ≤ cap :=
  let ⟨_, _, h2, _⟩ := h
  let ⟨_, a, cap, h3, h4, _⟩ := h2
  ⟨a, cap, h3, h4⟩

/-- One write of the list. -/
theorem WtM.elem {m : Mem} {v : Value} {l : List (Nat × By)} (h : WtM m v l) {i : Nat} (hi : i < l.length) :
    ∃ bv b o cap, v = .slice (some ⟨b, o, none⟩) l.length cap ∧ SlM m bv 1 64 (bs l[i].2) ∧ ∀ {w : World} (_ : Im m w), Reads Try.prog w 51 ⟨b, o + i * 2, none⟩ (.agg #[.int .i64 l[i].1, bv]) := by
  obtain ⟨L, h1, h2, h3⟩ := h
  subst h1
  have hi' : i < L.length := by simpa using hi
  obtain ⟨b, o, cap, hv, _, hr⟩ := h2.elem Try.prog (i := i) hi (by omega)
  refine ⟨L[i].2, b, o, cap, hv, ?_, fun {w} him => ?_⟩
  · simpa using h3 L[i] (List.getElem_mem _)
  · have hc : cellsAt (L.flatMap fun x => [Value.int .i64 x.1.1, x.2]) 2 i = [Value.int .i64 L[i].1.1, L[i].2] := by
      unfold cellsAt
      have : ∀ (L : List ((Nat × By) × Value)) (i : Nat) (hi : i < L.length), ((L.flatMap fun x => [Value.int .i64 x.1.1, x.2]).drop (i * 2)).take 2 = [Value.int .i64 L[i].1.1, L[i].2] := by
        intro L
        induction L with
        | nil => intro i hi; simp at hi
        | cons x L ih =>
          intro i hi
          cases i with
          | zero => simp
          | succ i =>
            have := ih i (by simpa using hi)
            rw [show (i + 1) * 2 = i * 2 + 2 by omega]
            simpa using this
      exact this L i hi'
    have := hr him (off := 0) TF.t51 (getV_all (by rw [hc]; rfl))
    rw [hc] at this
    simpa using this

section
variable {m : Mem} {wI : World} {n : Nat} {d : DS}

theorem c_laid {sv bv : Value} {S l : By} {a k : Nat} (him : Im m wI) (hs : SlM m sv 1 S.length (bs S)) (hb : SlM m bv 1 64 (bs l)) (hl : l.length = 64) (hk : k ≤ 64) (ha : 64 * a + 64 ≤ S.length) (hS : S.length ≤ 1048576) :
    Ret Try.prog 31 #[sv, .agg #[.int .i64 a, bv], .int .i64 k] wI fun v w' => Out m wI w' fun m' => SlM m' v 1 S.length (bs (splice S (64 * a) (l.take k))) := by
  have st := St.start him
  have hs0 := hs
  obtain ⟨hsl, sa, sc, rfl, hs1⟩ := hs
  obtain ⟨bb, bo, bc, rfl, hbc, hbr⟩ := hb.rd Try.prog (by simp [bs, hl])
  refine ret_of Try.call31 Try.func31 rfl Try.ntmps31 Try.results31 rfl ?_
  refine wc_seq ?_
  refine wc_region ?_
  refine wl_box (v := .agg #[.int .i64 a, .slice (some ⟨bb, bo, none⟩) 64 bc]) rfl st rfl ?_
  intro b4 w st
  refine wl_val (v_assign' (by conv => (lhs; whnf))) rfl ?_
  refine wl_nil ?_
  refine then_go ?_
  refine wc_seq ?_
  refine wc_region ?_
  refine wl_val (v_move' (by conv => (lhs; whnf))) rfl ?_
  refine wl_val (v_len_s Try.underlying22 rfl) rfl ?_
  refine wl_make (l := S.length) (c := S.length) Try.underlying22 TF.t5 TF.z5 rfl rfl rfl rfl (by omega) (by omega) (by omega) (by omega) st rfl ?_
  intro b7 w st
  refine wl_val (v_assign' (by conv => (lhs; whnf))) rfl ?_
  refine wl_nil ?_
  refine then_go ?_
  refine wc_seq ?_
  refine wc_region ?_
  refine wl_val (v_move' (by conv => (lhs; whnf))) rfl ?_
  refine wl_val (v_move' (by conv => (lhs; whnf))) rfl ?_
  refine wl_copy (size := 1) (b := b7) (off := 0) 0 st rfl Try.underlying22 TF.t5 rfl rfl (hs0.src st.im (one_bs _)) (by simp [size_madeCells]) rfl ?_
  intro w st
  refine wl_nil ?_
  have e : setSeg (madeCells (Value.int .u8 0).cells (S.length * 1)) 0 ((bs S).take (min S.length S.length * 1)) = (bs (splice S (64 * a) (l.take 0))).toArray := by
    rw [splice_zero, List.take_of_length_le (by simp [bs]), setSeg_all (by simp [bs, size_madeCells])]
  rw [e] at st
  refine then_go ?_
  refine wc_seq ?_
  refine wc_seq ?_
  refine wc_region ?_
  refine wl_val (v_assign' (by conv => (lhs; whnf))) rfl ?_
  refine wl_nil ?_
  refine then_go ?_
  refine wc_block ?_
  refine wc_loop (S := Nat) (fun q r w' => ∃ j, q + j = k ∧ r 2 = .int .i64 k ∧ r 4 = .pointer (some ⟨b4, 0, none⟩) ∧ r 7 = .slice (some ⟨b7, 0, none⟩) S.length S.length ∧ r 8 = .int .i64 j ∧
    St m m [] wI w' [blk b7 (bs (splice S (64 * a) (l.take j))).toArray 5, blk b4 #[.int .i64 a, .slice (some ⟨bb, bo, none⟩) 64 bc] 51]) id k ⟨0, rfl, rfl, rfl, rfl, rfl, st⟩ ?_
  rintro q r w2 ⟨j, hqj, h2, h4, h7, h8, st⟩
  refine wc_o 2 h2 (wc_o 4 h4 (wc_o 7 h7 (wc_o 8 h8 ?_)))
  refine wc_seq ?_
  refine wc_seq ?_
  refine wc_region ?_
  refine wl_val (v_move' (by conv => (lhs; whnf))) rfl ?_
  refine wl_val (v_move' (by conv => (lhs; whnf))) rfl ?_
  refine wl_val (v_lss rfl rfl) rfl ?_
  refine wl_nil ?_
  refine then_go ?_
  refine wc_if rfl (fun h17 => ?_) (fun h17 => ?_)
  · refine wc_skip ?_
    refine then_go ?_
    refine wc_seq ?_
    refine wc_block ?_
    have hj : j < k := by omega
    have hjl : j < l.length := by omega
    refine wc_draw TF.mixed ?_
    have st := st.pure (touch_drew _)
    refine fl_val 0 rfl (fun _ => (v_move' (by conv => (lhs; whnf)))) rfl (by kernel_rfl) ?_
    refine fl_val 1 rfl (fun _ => (v_fa TF.f51_0 rfl)) rfl (by kernel_rfl) ?_
    refine fl_ld 2 rfl (v_load rfl (st.reads 1 rfl TF.t3 rfl)) (by kernel_rfl) ?_
    refine fl_val 3 rfl (fun _ => (v_mul' rfl rfl rfl (by first | omega | (dsimp only at *; omega)) (by first | omega | (dsimp only at *; omega)))) rfl (by kernel_rfl) ?_
    refine fl_val 4 rfl (fun _ => (v_move' (by conv => (lhs; whnf)))) rfl (by kernel_rfl) ?_
    refine fl_val 5 rfl (fun _ => (v_add' rfl rfl rfl (by first | omega | (dsimp only at *; omega)) (by first | omega | (dsimp only at *; omega)))) rfl (by kernel_rfl) ?_
    refine fl_val 6 rfl (fun _ => (v_fa TF.f51_1 rfl)) rfl (by kernel_rfl) ?_
    refine fl_ld 7 rfl (v_load rfl (st.reads 1 rfl TF.t22 rfl)) (by kernel_rfl) ?_
    refine fl_val 8 rfl (fun _ => (v_move' (by conv => (lhs; whnf)))) rfl (by kernel_rfl) ?_
    refine fl_val 9 rfl (fun _ => (v_ias j Try.underlying22 TF.t5 rfl rfl (by first | rfl | omega) (by first | omega | (dsimp only at *; omega)))) rfl (by kernel_rfl) ?_
    refine fl_ld 10 rfl (v_load rfl (hbr st.im (off := j * 1) TF.t5 (v' := u8 l[j]) (by simp [getV, bs, hjl]))) (by kernel_rfl) ?_
    refine fl_val 11 rfl (fun _ => (v_ias (64 * a + j) Try.underlying22 TF.t5 rfl rfl (by first | rfl | omega) (by first | omega | (dsimp only at *; omega)))) rfl (by kernel_rfl) ?_
    refine fl_eff1 12 [] [] (by kernel_rfl) ⟨obl_ld rfl rfl rfl (v_load rfl (hbr st.im (off := j * 1) TF.t5 (v' := u8 l[j]) (by simp [getV, bs, hjl]))), obl_ld rfl rfl rfl (v_load rfl (st.reads 1 rfl TF.t22 rfl)), obl_ld rfl rfl rfl (v_load rfl (st.reads 1 rfl TF.t3 rfl)), trivial⟩ rfl ?_
    refine wl_store1 (v := u8 l[j]) 0 st rfl TF.t5 rfl rfl rfl (by simp [bs]; rw [length_splice (by simp; omega)]; omega) ?_
    intro w st
    refine wl_nil ⟨rfl, ?_⟩
    refine fl_nil (by kernel_rfl) trivial ?_
    have e : (bs (splice S (64 * a) (l.take j))).toArray.setIfInBounds (0 + (64 * a + j) * 1) (u8 l[j]) = (bs (splice S (64 * a) (l.take (j + 1)))).toArray := by
      have h1 : 64 * a + j < (bs (splice S (64 * a) (l.take j))).toArray.size := by
        rw [List.size_toArray, length_bs, length_splice (by simp; omega)]
        omega
      rw [show 0 + (64 * a + j) * 1 = 64 * a + j by omega, ← setSeg_one h1, ← splice_succ (by omega) hjl]
      exact setSeg_bs (l := [l[j]])
    rw [e] at st
    refine block_go (then_go ?_)
    refine wc_region ?_
    refine wl_val (v_move' (by conv => (lhs; whnf))) rfl ?_
    refine wl_val (v_add' rfl rfl rfl (by first | omega | (dsimp only at *; omega)) (by first | omega | (dsimp only at *; omega))) rfl ?_
    refine wl_val (v_assign' (by conv => (lhs; whnf))) rfl ?_
    refine wl_nil ?_
    refine then_go ?_
    exact ⟨q - 1, by simp; omega, j + 1, by omega, rfl, rfl, rfl, rfl, st⟩
  · refine wc_exit (then_exit (then_exit (block_hit ?_)))
    refine then_go ?_
    refine wc_seq ?_
    refine wc_region ?_
    refine wl_val (v_move' (by conv => (lhs; whnf))) rfl ?_
    refine wl_val (v_assign' (by conv => (lhs; whnf))) rfl ?_
    refine wl_nil ?_
    refine then_go ?_
    refine wc_ret ?_
    have hjk : j = k := by omega
    obtain ⟨m', hg, hm', st⟩ := st.freeze (i := 0) rfl (by simp)
    refine ret1 (v := .slice (some ⟨b7, 0, none⟩) S.length S.length) rfl (st.out ?_)
    rw [hjk] at hm'
    exact SlM.of hm' (by simp [bs]; rw [length_splice (by simp; omega)]) (Nat.le_refl _) (fun j u hj => by simpa using hj)

theorem RefM.few {m : Mem} {v : Value} {n : Nat} {d : DS} (h : RefM m v n d) : d.S.length ≤ 1048576 := by
  have := h.ok.len
  have := h.ok.le
  omega

theorem c_rdump {v : Value} (him : Im m wI) (hd : RefM m v n d) (hfew : d.wt.length ≤ 1000000) :
    Ret Try.prog 19 #[v] wI fun v w' => Out m wI w' fun m' => SlM m' v 1 (dump d).length (bs (dump d)) := by
  have hS := hd.few
  obtain ⟨ok, sv, wv, rfl, hs, hw⟩ := hd
  have st := St.start him
  have ok' := ok.wt
  have ok3 := ok.len
  have hw0 := hw
  obtain ⟨wa, wc, rfl, hwc⟩ := hw.len
  have hs1 : sv.oneCell' = true := by obtain ⟨_, a, c, rfl, _⟩ := hs; rfl
  refine ret_of Try.call19 Try.func19 rfl Try.ntmps19 Try.results19 rfl ?_
  refine wc_seq ?_
  refine wc_region ?_
  refine wl_box (v := .agg #[sv, .slice wa d.wt.length wc, .int .i64 d.fuse, .bool d.down]) rfl st rfl ?_
  intro b1 w st
  refine wl_val (v_assign' (by conv => (lhs; whnf))) rfl ?_
  refine wl_nil ?_
  refine then_go ?_
  refine wc_seq ?_
  refine wc_region ?_
  refine wl_val (v_fa TF.f30_0 rfl) rfl ?_
  refine wl_val (v_load rfl (st.reads 0 rfl TF.t22 rfl)) rfl ?_
  refine wl_val (v_assign' (by conv => (lhs; whnf))) rfl ?_
  refine wl_nil ?_
  refine then_go ?_
  refine wc_seq ?_
  refine wc_seq ?_
  refine wc_region ?_
  refine wl_val (v_assign' (by conv => (lhs; whnf))) rfl ?_
  refine wl_nil ?_
  refine then_go ?_
  refine wc_block ?_
  refine wc_loop (S := Nat) (fun q r w' => ∃ j m' v, q + j = d.wt.length ∧ r 1 = .pointer (some ⟨b1, 0, none⟩) ∧ r 3 = v ∧ r 4 = .int .i64 j ∧ SlM m' v 1 d.S.length (bs (dumpK d j)) ∧
    St m m' [] wI w' [blk b1 #[sv, .slice wa d.wt.length wc, .int .i64 d.fuse, .bool d.down] 30]) id d.wt.length ⟨0, m, _, rfl, rfl, rfl, rfl, hs, st⟩ ?_
  rintro q r w2 ⟨j, m', v, hqj, h1, h3, h4, hv, st⟩
  refine wc_o 1 h1 (wc_o 3 h3 (wc_o 4 h4 ?_))
  refine wc_seq ?_
  refine wc_seq ?_
  refine wc_region ?_
  refine wl_val (v_move' (by conv => (lhs; whnf))) rfl ?_
  refine wl_val (v_fa TF.f30_1 rfl) rfl ?_
  refine wl_val (v_load rfl (st.reads 0 rfl TF.t28 rfl)) rfl ?_
  refine wl_val (v_len_s Try.underlying28 rfl) rfl ?_
  refine wl_val (v_lss rfl rfl) rfl ?_
  refine wl_nil ?_
  refine then_go ?_
  refine wc_if rfl (fun h11 => ?_) (fun h11 => ?_)
  · refine wc_skip ?_
    refine then_go ?_
    refine wc_seq ?_
    refine wc_block ?_
    have hj : j < d.wt.length := by omega
    obtain ⟨bv, wb, wo, wcap, hwv, hbv, hrd⟩ := (hw0.mono st.grow.le).elem hj
    cases hwv
    have hx := ok' d.wt[j] (List.getElem_mem _)
    have hlS : (dumpK d j).length = d.S.length := by rw [length_dumpK ok j (by omega), ok3]
    refine wc_region ?_
    refine wl_val (v_move' (by conv => (lhs; whnf))) rfl ?_
    refine wl_val (v_fa TF.f30_1 rfl) rfl ?_
    refine wl_val (v_load rfl (st.reads 0 rfl TF.t28 rfl)) rfl ?_
    refine wl_val (v_move' (by conv => (lhs; whnf))) rfl ?_
    refine wl_val (v_ias j Try.underlying28 TF.t51 rfl rfl (by first | rfl | omega) (by first | omega | (dsimp only at *; omega))) rfl ?_
    refine wl_val (v_load rfl (hrd st.im)) rfl ?_
    refine wl_call rfl (c_laid (k := 64) st.im (by rw [hlS]; exact hv) hbv hx.2 (by omega) (by rw [hlS, ok3]; omega) (by omega)) rfl ?_
    rintro v20 w ⟨t, m2, hg, hi, hR⟩
    have st := st.grown hg t hi
    rw [hlS, List.take_of_length_le (by omega), ← dumpK_succ d j hj] at hR
    refine wl_val (v_assign' (by conv => (lhs; whnf))) rfl ?_
    refine wl_nil ?_
    refine block_go (then_go ?_)
    refine wc_region ?_
    refine wl_val (v_move' (by conv => (lhs; whnf))) rfl ?_
    refine wl_val (v_add' rfl rfl rfl (by first | omega | (dsimp only at *; omega)) (by first | omega | (dsimp only at *; omega))) rfl ?_
    refine wl_val (v_assign' (by conv => (lhs; whnf))) rfl ?_
    refine wl_nil ?_
    refine then_go ?_
    exact ⟨q - 1, by simp; omega, j + 1, _, _, by omega, rfl, rfl, rfl, hR, st⟩
  · refine wc_exit (then_exit (then_exit (block_hit ?_)))
    refine then_go ?_
    refine wc_seq ?_
    refine wc_region ?_
    refine wl_val (v_move' (by conv => (lhs; whnf))) rfl ?_
    refine wl_val (v_assign' (by conv => (lhs; whnf))) rfl ?_
    refine wl_nil ?_
    refine then_go ?_
    refine wc_ret ?_
    have hjn : j = d.wt.length := by omega
    refine ret1 (v := v) rfl (st.out ?_)
    rw [hjn, dumpK_all] at hv
    have : (dump d).length = d.S.length := by rw [← dumpK_all, length_dumpK ok _ (Nat.le_refl _), ok3]
    rw [this]
    exact hv

end
end Go.Proofs.Ytekhcjgmgflmkaa
