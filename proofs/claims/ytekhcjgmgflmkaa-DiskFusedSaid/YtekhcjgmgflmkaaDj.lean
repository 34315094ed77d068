/-
  Texts compared, acts' bytes, the reference's Load.
-/
import Derived.Test.YtekhcjgmgflmkaaDi
namespace Go.Proofs.Ytekhcjgmgflmkaa
open Go Go.RowKit K DK

section
variable {m : Mem} {wI : World}

theorem c_same {av bv : Value} {a b : By} (him : Im m wI) (ha : SlM m av 1 a.length (bs a)) (hb : SlM m bv 1 b.length (bs b)) :
    Ret Try.prog 11 #[av, bv] wI fun v w' => w' = wI ∧ v = .bool (decide (a = b)) := by
  refine ret_of Try.call11 Try.func11 rfl Try.ntmps11 Try.results11 rfl ?_
  refine wc_seq ?_
  refine wc_region ?_
  refine wl_val (v_assign' (by conv => (lhs; whnf))) rfl ?_
  refine wl_nil ?_
  refine then_go ?_
  refine wc_seq ?_
  refine wc_region ?_
  refine wl_val (v_move' (by conv => (lhs; whnf))) rfl ?_
  refine wl_val (v_b2s Try.underlying22 Try.underlying5 Try.underlying9 him ha rfl) rfl ?_
  refine wl_val (v_move' (by conv => (lhs; whnf))) rfl ?_
  refine wl_val (v_b2s Try.underlying22 Try.underlying5 Try.underlying9 him hb rfl) rfl ?_
  refine wl_val (v_eqs rfl rfl) rfl ?_
  refine wl_val (v_assign' (by conv => (lhs; whnf))) rfl ?_
  refine wl_nil ?_
  refine then_go ?_
  refine wc_ret ?_
  exact ret1 rfl ⟨rfl, rfl⟩

theorem c_few {v : Value} {a : Option Addr} {k c : Nat} (him : Im m wI) :
    Ret Try.prog 17 #[.slice a k c] wI fun v w' => w' = wI ∧ v = .bool (decide ((k : Int) ≤ 60)) := by
  refine ret_of Try.call17 Try.func17 rfl Try.ntmps17 Try.results17 rfl ?_
  refine wc_seq ?_
  refine wc_region ?_
  refine wl_val (v_assign' (by conv => (lhs; whnf))) rfl ?_
  refine wl_nil ?_
  refine then_go ?_
  refine wc_seq ?_
  refine wc_region ?_
  refine wl_val (v_move' (by conv => (lhs; whnf))) rfl ?_
  refine wl_val (v_len_s Try.underlying38 rfl) rfl ?_
  refine wl_val (v_leq rfl rfl) rfl ?_
  refine wl_val (v_assign' (by conv => (lhs; whnf))) rfl ?_
  refine wl_nil ?_
  refine then_go ?_
  refine wc_ret ?_
  exact ret1 rfl ⟨rfl, rfl⟩

/-- How many bytes an act writes. -/
def opN (n : Int) : Nat := if n < 0 ∨ n > 200 then 64 else n.toNat

theorem c_opbytes {kv : Value} {kd i n : Int} {c : UInt8} (him : Im m wI) (hko : kv.oneCell' = true) :
    Ret Try.prog 25 #[.agg #[.int .i64 kd, .int .i64 i, .int .i64 n, u8 c, kv]] wI fun v w' =>
      ∃ b, v = .slice (some ⟨b, 0, none⟩) (opN n) (opN n) ∧ Tch wI w' [] [b] ∧ w'.heap[b]? = some (.cells (bs (List.replicate (opN n) c)).toArray 5 (0, 0)) := by
  have st := St.start him
  refine ret_of Try.call25 Try.func25 rfl Try.ntmps25 Try.results25 rfl ?_
  refine wc_seq ?_
  refine wc_region ?_
  refine wl_box (v := .agg #[.int .i64 kd, .int .i64 i, .int .i64 n, u8 c, kv]) rfl st rfl ?_
  intro b1 w st
  refine wl_val (v_assign' (by conv => (lhs; whnf))) rfl ?_
  refine wl_nil ?_
  refine then_go ?_
  refine wc_seq ?_
  refine wc_region ?_
  refine wl_val (v_fa TF.f46_2 rfl) rfl ?_
  refine wl_val (v_load rfl (st.reads 0 rfl TF.t3 rfl)) rfl ?_
  refine wl_val (v_assign' (by conv => (lhs; whnf))) rfl ?_
  refine wl_nil ?_
  refine then_go ?_
  refine wc_cut (fun r w' => w' = w ∧ r 1 = .pointer (some ⟨b1, 0, none⟩) ∧ r 3 = .int .i64 (opN n)) ?_ ?_
  · refine wc_seq ?_
    refine wc_region ?_
    refine wl_val (v_move' (by conv => (lhs; whnf))) rfl ?_
    refine wl_val (v_lss rfl rfl) rfl ?_
    refine wl_val (v_move' (by conv => (lhs; whnf))) rfl ?_
    by_cases hg2 : n < 0
    · rw [show decide (n < 0) = true from decide_eq_true hg2]
      refine wl_off rfl rfl rfl rfl ?_
      refine wl_off rfl rfl rfl rfl ?_
      refine wl_val (v_pick rfl) rfl ?_
      refine wl_nil ?_
      refine then_go ?_
      refine wc_true rfl ?_
      refine wc_region ?_
      refine wl_val (v_assign' (by conv => (lhs; whnf))) rfl ?_
      refine wl_nil ?_
      refine then_go ?_
      exact ⟨rfl, rfl, by rw [show (opN n : Int) = 64 by simp [opN, hg2]]; rfl⟩
    · rw [show decide (n < 0) = false from decide_eq_false hg2]
      refine wl_on rfl rfl ?_
      refine wl_val (v_move' (by conv => (lhs; whnf))) rfl ?_
      refine wl_on rfl rfl ?_
      refine wl_val (v_gtr rfl rfl) rfl ?_
      refine wl_val (v_pick rfl) rfl ?_
      refine wl_nil ?_
      refine then_go ?_
      refine wc_if rfl (fun h13 => ?_) (fun h13 => ?_)
      · refine wc_region ?_
        refine wl_val (v_assign' (by conv => (lhs; whnf))) rfl ?_
        refine wl_nil ?_
        refine then_go ?_
        exact ⟨rfl, rfl, by rw [show (opN n : Int) = 64 by unfold opN; rw [if_pos (.inr h13)]; rfl]; rfl⟩
      · refine wc_skip ?_
        refine then_go ?_
        exact ⟨rfl, rfl, by rw [show (opN n : Int) = n by unfold opN; rw [if_neg (by omega)]; omega]; rfl⟩
  · rintro r w ⟨rfl, h1, h3⟩
    refine wc_o 1 h1 (wc_o 3 h3 ?_)
    have hk : opN n ≤ 200 := by unfold opN; split <;> omega
    refine wc_seq ?_
    refine wc_region ?_
    refine wl_val (v_move' (by conv => (lhs; whnf))) rfl ?_
    refine wl_make (l := opN n) (c := opN n) Try.underlying22 TF.t5 TF.z5 rfl rfl rfl rfl (by omega) (by omega) (by omega) (by omega) st rfl ?_
    intro b4 w st
    refine wl_val (v_assign' (by conv => (lhs; whnf))) rfl ?_
    refine wl_nil ?_
    refine then_go ?_
    refine wc_seq ?_
    refine wc_seq ?_
    refine wc_region ?_
    refine wl_val (v_assign' (by conv => (lhs; whnf))) rfl ?_
    refine wl_nil ?_
    refine then_go ?_
    refine wc_block ?_
    refine wc_loop (S := Nat) (fun q r w' => ∃ j S, q + j = opN n ∧ r 1 = .pointer (some ⟨b1, 0, none⟩) ∧ r 3 = .int .i64 (opN n) ∧ r 4 = .slice (some ⟨b4, 0, none⟩) (opN n) (opN n) ∧ r 5 = .int .i64 j ∧ S.length = opN n ∧ S.take j = List.replicate j (u8 c) ∧
      St m m [] wI w' [blk b4 S.toArray 5, blk b1 #[.int .i64 kd, .int .i64 i, .int .i64 n, u8 c, kv] 46]) id (opN n) ⟨0, (madeCells (Value.int .u8 0).cells (opN n * 1)).toList, rfl, rfl, rfl, rfl, rfl, by simp [size_madeCells], rfl, by rw [Array.toArray_toList]; exact st⟩ ?_
    rintro q r w2 ⟨j, S, hqj, h1, h3, h4, h5, hS, hSt, st⟩
    refine wc_o 1 h1 (wc_o 3 h3 (wc_o 4 h4 (wc_o 5 h5 ?_)))
    refine wc_seq ?_
    refine wc_seq ?_
    refine wc_region ?_
    refine wl_val (v_move' (by conv => (lhs; whnf))) rfl ?_
    refine wl_val (v_move' (by conv => (lhs; whnf))) rfl ?_
    refine wl_val (v_lss rfl rfl) rfl ?_
    refine wl_nil ?_
    refine then_go ?_
    refine wc_if rfl (fun h18 => ?_) (fun h18 => ?_)
    · refine wc_skip ?_
      refine then_go ?_
      refine wc_seq ?_
      refine wc_block ?_
      refine wc_region ?_
      refine wl_val (v_move' (by conv => (lhs; whnf))) rfl ?_
      refine wl_val (v_move' (by conv => (lhs; whnf))) rfl ?_
      refine wl_val (v_fa TF.f46_3 rfl) rfl ?_
      refine wl_val (v_load rfl (st.reads 1 rfl TF.t5 rfl)) rfl ?_
      refine wl_val (v_ias j Try.underlying22 TF.t5 rfl rfl (by first | rfl | omega) (by first | omega | (dsimp only at *; omega))) rfl ?_
      refine wl_store1 (v := u8 c) 0 st rfl TF.t5 rfl rfl rfl (by simp; omega) ?_
      intro w st
      refine wl_nil ?_
      refine block_go (then_go ?_)
      refine wc_region ?_
      refine wl_val (v_move' (by conv => (lhs; whnf))) rfl ?_
      refine wl_val (v_add' rfl rfl rfl (by first | omega | (dsimp only at *; omega)) (by first | omega | (dsimp only at *; omega))) rfl ?_
      refine wl_val (v_assign' (by conv => (lhs; whnf))) rfl ?_
      refine wl_nil ?_
      refine then_go ?_
      refine ⟨q - 1, by simp; omega, j + 1, S.set j (u8 c), by omega, rfl, rfl, rfl, rfl, by simpa using hS, ?_, ?_⟩
      · rw [List.take_succ_eq_append_getElem (by simp; omega), List.take_set_of_le (Nat.le_refl _), hSt, List.replicate_succ']
        simp
      · have e : S.toArray.setIfInBounds (0 + j * 1) (u8 c) = (S.set j (u8 c)).toArray := by
          rw [show 0 + j * 1 = j by omega]
          simp
        rw [← e]
        exact st
    · refine wc_exit (then_exit (then_exit (block_hit ?_)))
      refine then_go ?_
      refine wc_seq ?_
      refine wc_region ?_
      refine wl_val (v_move' (by conv => (lhs; whnf))) rfl ?_
      refine wl_val (v_assign' (by conv => (lhs; whnf))) rfl ?_
      refine wl_nil ?_
      refine then_go ?_
      refine wc_ret ?_
      have hjk : j = opN n := by omega
      have e : S = bs (List.replicate (opN n) c) := by
        rw [List.take_of_length_le (by omega)] at hSt
        rw [hSt, hjk]
        simp [bs]
      rw [e] at st
      have hf := (St.finish (Es := [_]) (l := [_]) st).1
      exact ret1 rfl ⟨b4, rfl, ⟨hf.os, hf.tape, hf.output, hf.size, hf.block, fun k hk => hf.out k (by simpa [joinE, blk] using hk)⟩, st.at (i := 0) rfl⟩

theorem c_rload {v : Value} {l : By} (him : Im m wI) (hv : SlM m v 1 l.length (bs l)) (hl : l.length ≤ 140737488351232) :
    Ret Try.prog 10 #[v] wI fun v' w' => Out m wI w' fun m' => ∃ rv, v' = .tuple #[rv, .int .i64 (loadE l)] ∧ (∃ cs, rv = .agg cs ∧ cs.size = 4 ∧ ∀ u ∈ cs.toList, u.oneCell' = true) ∧ (loadE l = 0 → RefM m' rv (l.length / 64) ⟨l, [], -1, false⟩) := by
  have st := St.start him
  have hv0 := hv
  obtain ⟨hvl, va, vc, rfl, hvk, hv1⟩ := hv
  refine ret_of Try.call10 Try.func10 rfl Try.ntmps10 Try.results10 rfl ?_
  refine wc_seq ?_
  refine wc_region ?_
  refine wl_alloc TF.z30 st rfl ?_
  intro b2 w st
  refine wl_val (v_assign' (by conv => (lhs; whnf))) rfl ?_
  refine wl_nil ?_
  refine then_go ?_
  refine wc_seq ?_
  refine wc_seq ?_
  refine wc_region ?_
  refine wl_val (v_move' (by conv => (lhs; whnf))) rfl ?_
  refine wl_val (v_len_s Try.underlying22 rfl) rfl ?_
  refine wl_val (v_rem' rfl rfl (by first | omega | (dsimp only at *; omega)) (by first | omega | (dsimp only at *; omega)) rfl) rfl ?_
  refine wl_val (v_neq rfl rfl) rfl ?_
  refine wl_nil ?_
  refine then_go ?_
  refine wc_if rfl (fun h8 => ?_) (fun h8 => ?_)
  · refine wc_seq ?_
    refine wc_region ?_
    refine wl_val (v_build (c' := #[.slice none 0 0, .slice none 0 0, .int .i64 0, .bool false]) [] TF.z30 TF.p30 rfl rfl) rfl ?_
    refine wl_storeW 0 st rfl TF.t30 rfl (cs := #[.slice none 0 0, .slice none 0 0, .int .i64 0, .bool false]) rfl rfl rfl (by simp [one_slice, one_int, one_bool]) ?_
    intro w st
    refine wl_val (v_assign' (by conv => (lhs; whnf))) rfl ?_
    refine wl_nil ?_
    refine then_go ?_
    refine wc_ret (then_ret ?_)
    have he : loadE l = 1 := by unfold loadE; rw [if_pos (by omega)]
    refine ret2c rfl (st.reads 0 rfl TF.t30 (getV_all rfl)) rfl (st.out ⟨_, by rw [he]; rfl, ⟨_, rfl, rfl, by simp [one_slice, one_int, one_bool]⟩, fun h => by rw [he] at h; exact absurd h (by decide)⟩)
  · refine wc_skip ?_
    refine then_go ?_
    refine wc_seq ?_
    refine wc_seq ?_
    refine wc_region ?_
    refine wl_val (v_move' (by conv => (lhs; whnf))) rfl ?_
    refine wl_val (v_len_s Try.underlying22 rfl) rfl ?_
    refine wl_val (v_eql rfl rfl) rfl ?_
    refine wl_val (v_move' (by conv => (lhs; whnf))) rfl ?_
    by_cases hg3 : (l.length : Int) = 0
    · rw [show decide ((l.length : Int) = 0) = true from decide_eq_true hg3]
      refine wl_off rfl rfl rfl rfl ?_
      refine wl_off rfl rfl rfl rfl ?_
      refine wl_off rfl rfl rfl rfl ?_
      refine wl_val (v_pick rfl) rfl ?_
      refine wl_nil ?_
      refine then_go ?_
      refine wc_true rfl ?_
      refine wc_seq ?_
      refine wc_region ?_
      refine wl_val (v_build (c' := #[.slice none 0 0, .slice none 0 0, .int .i64 0, .bool false]) [] TF.z30 TF.p30 rfl rfl) rfl ?_
      refine wl_storeW 0 st rfl TF.t30 rfl (cs := #[.slice none 0 0, .slice none 0 0, .int .i64 0, .bool false]) rfl rfl rfl (by simp [one_slice, one_int, one_bool]) ?_
      intro w st
      refine wl_val (v_assign' (by conv => (lhs; whnf))) rfl ?_
      refine wl_nil ?_
      refine then_go ?_
      refine wc_ret (then_ret ?_)
      have he : loadE l = 2 := by unfold loadE; rw [if_neg (by omega), if_pos (by omega)]
      refine ret2c rfl (st.reads 0 rfl TF.t30 (getV_all rfl)) rfl (st.out ⟨_, by rw [he]; rfl, ⟨_, rfl, rfl, by simp [one_slice, one_int, one_bool]⟩, fun h => by rw [he] at h; exact absurd h (by decide)⟩)
    · rw [show decide ((l.length : Int) = 0) = false from decide_eq_false hg3]
      refine wl_on rfl rfl ?_
      refine wl_val (v_move' (by conv => (lhs; whnf))) rfl ?_
      refine wl_on rfl rfl ?_
      refine wl_val (v_len_s Try.underlying22 rfl) rfl ?_
      refine wl_on rfl rfl ?_
      refine wl_val (v_gtr rfl rfl) rfl ?_
      refine wl_val (v_pick rfl) rfl ?_
      refine wl_nil ?_
      refine then_go ?_
      refine wc_if rfl (fun h17 => ?_) (fun h17 => ?_)
      · refine wc_seq ?_
        refine wc_region ?_
        refine wl_val (v_build (c' := #[.slice none 0 0, .slice none 0 0, .int .i64 0, .bool false]) [] TF.z30 TF.p30 rfl rfl) rfl ?_
        refine wl_storeW 0 st rfl TF.t30 rfl (cs := #[.slice none 0 0, .slice none 0 0, .int .i64 0, .bool false]) rfl rfl rfl (by simp [one_slice, one_int, one_bool]) ?_
        intro w st
        refine wl_val (v_assign' (by conv => (lhs; whnf))) rfl ?_
        refine wl_nil ?_
        refine then_go ?_
        refine wc_ret (then_ret ?_)
        have he : loadE l = 2 := by unfold loadE; rw [if_neg (by omega), if_pos (by omega)]
        refine ret2c rfl (st.reads 0 rfl TF.t30 (getV_all rfl)) rfl (st.out ⟨_, by rw [he]; rfl, ⟨_, rfl, rfl, by simp [one_slice, one_int, one_bool]⟩, fun h => by rw [he] at h; exact absurd h (by decide)⟩)
      · refine wc_skip ?_
        refine then_go ?_
        refine wc_seq ?_
        refine wc_region ?_
        refine wl_val (v_move' (by conv => (lhs; whnf))) rfl ?_
        refine wl_val (v_len_s Try.underlying22 rfl) rfl ?_
        refine wl_make (l := l.length) (c := l.length) Try.underlying22 TF.t5 TF.z5 rfl rfl rfl rfl (by omega) (by omega) (by omega) (by omega) st rfl ?_
        intro b4 w st
        refine wl_val (v_assign' (by conv => (lhs; whnf))) rfl ?_
        refine wl_nil ?_
        refine then_go ?_
        refine wc_seq ?_
        refine wc_region ?_
        refine wl_val (v_move' (by conv => (lhs; whnf))) rfl ?_
        refine wl_val (v_move' (by conv => (lhs; whnf))) rfl ?_
        refine wl_copy (size := 1) (b := b4) (off := 0) 0 st rfl Try.underlying22 TF.t5 rfl rfl (hv0.src st.im (one_bs _)) (by simp [size_madeCells]) rfl ?_
        intro w st
        refine wl_nil ?_
        have e : setSeg (madeCells (Value.int .u8 0).cells (l.length * 1)) 0 ((bs l).take (min l.length l.length * 1)) = (bs l).toArray := by
          rw [List.take_of_length_le (by simp [bs]), setSeg_all (by simp [bs, size_madeCells])]
        rw [e] at st
        obtain ⟨m1, hg1, hm1, st⟩ := st.freeze (i := 0) rfl (by simp)
        have hbm : SlM m1 (.slice (some ⟨b4, 0, none⟩) l.length l.length) 1 l.length (bs l) := SlM.of hm1 (by simp [bs]) (Nat.le_refl _) (fun j u hj => by simpa using hj)
        refine then_go ?_
        refine wc_seq ?_
        refine wc_region ?_
        refine wl_val (v_move' (by conv => (lhs; whnf))) rfl ?_
        refine wl_val (v_build (c' := #[.slice (some ⟨b4, 0, none⟩) l.length l.length, .slice none 0 0, .int .i64 (-1), .bool false]) [(0, .slice (some ⟨b4, 0, none⟩) l.length l.length), (2, .int .i64 (-1))] TF.z30 TF.p30 rfl (fill_one [] [.slice none 0 0] [.slice none 0 0, .int .i64 0, .bool false] rfl rfl rfl (fill_one [.slice (some ⟨b4, 0, none⟩) l.length l.length, .slice none 0 0] [.int .i64 0] [.bool false] rfl rfl rfl rfl))) rfl ?_
        refine wl_storeW 0 st rfl TF.t30 rfl (cs := #[.slice (some ⟨b4, 0, none⟩) l.length l.length, .slice none 0 0, .int .i64 (-1), .bool false]) rfl rfl rfl (by simp [one_slice, one_int, one_bool]) ?_
        intro w st
        refine wl_val (v_assign' (by conv => (lhs; whnf))) rfl ?_
        refine wl_nil ?_
        refine then_go ?_
        refine wc_ret ?_
        have he : loadE l = 0 := by unfold loadE; rw [if_neg (by omega), if_neg (by omega)]
        refine ret2c rfl (st.reads 0 rfl TF.t30 (getV_all rfl)) rfl (st.out ⟨_, by rw [he]; rfl, ⟨_, rfl, rfl, by simp [one_slice, one_int, one_bool]⟩, fun _ => ?_⟩)
        exact ⟨⟨show 1 ≤ l.length / 64 by omega, show l.length = _ by omega, show l.length / 64 ≤ _ by omega, by simp⟩, _, _, rfl, hbm, [], rfl, SlM.nil, by simp⟩

end
end Go.Proofs.Ytekhcjgmgflmkaa
