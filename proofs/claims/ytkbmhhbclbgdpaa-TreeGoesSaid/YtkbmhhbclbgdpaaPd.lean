/-
  How many bits two digests have in common: the program's path.Common.
-/
import Derived.Test.YtkbmhhbclbgdpaaPc
namespace Go.Proofs.Ytkbmhhbclbgdpaa
open Go Go.RowKit K PT

namespace PT
/-- How many bits are alike, from the k-th on. -/
def comF (a b : By) : Nat → Nat → Nat
  | 0, k => k
  | f + 1, k => if bit b k = bit a k then comF a b f (k + 1) else k
def common (a b : By) : Nat := comF a b 256 0
end PT

section
variable {m : Mem} {wI : World}

theorem c_common {a b : By} (him : Im m wI) (ha : a.length = 32) (hb : b.length = 32) : Ret Try.prog 52 #[arr a, arr b] wI fun v w' => Tch wI w' [] [] ∧ v = .int .i64 (common a b) := by
  have st := St.start him
  refine ret_ofX Try.call52 Try.func52 rfl Try.ntmps52 Try.results52 rfl ?_
  refine wx_seqc ?_
  refine wc_region ?_
  refine wl_box (v := arr a) rfl st rfl ?_
  intro b2 w st
  refine wl_box (v := arr b) rfl st rfl ?_
  intro b3 w st
  refine wl_val (v_assign' (by conv => (lhs; whnf))) rfl ?_
  refine wl_nil ?_
  refine then_go ?_
  refine wx_seqc ?_
  refine wc_region ?_
  refine wl_alloc TF.z3 st rfl ?_
  intro b5 w st
  refine wl_store1 0 st rfl TF.t3 rfl (by conv => (lhs; whnf)) rfl (by first | exact lt_ok rfl | decide | simp) ?_
  intro w st
  refine wl_nil ?_
  refine then_go ?_
  refine wx_cut (fun ds r w' => ∃ (D l : Nat) (o : Obj) (m' : Mem), ds = [K.mark D] ∧ r 5 = .pointer (some ⟨b5, 0, none⟩) ∧ St m m' [] wI w' [objE l o, objE D (.deferred (some [])), K.blk b5 #[.int .i64 (common a b)] 3]) ?_ ?_
  · refine wx_seqc ?_
    refine wc_region ?_
    refine wl_val (v_load rfl (st.reads 2 rfl TF.t24 (getV_all (by simp [arr, Value.cells, bs, ha])))) rfl ?_
    refine wl_call rfl (c_bits st.im) rfl ?_
    rintro v9 w ⟨b9, rfl, t, hE⟩
    have st := st.new (E := K.blk b9 _ _) t hE
    obtain ⟨m1, hg1, hm1, st⟩ := st.freeze (i := 0) rfl (by simp)
    change St _ _ _ _ _ [_, _, _] at st
    refine wl_nil ?_
    refine then_go ?_
    refine wx_block ?_
    refine wx_range (lb := [.pointer (some ⟨b9, 0, none⟩)]) rfl Try.call42 st ?_
    intro l D fn tmps rec w1 hrec htm hval st
    refine Calls.mono (c_bits1 (d := a) (l := l) (b1 := b9) ha (fun i W => comF a b (256 - i) i = common a b ∧ St m m1 [] wI W [objE l (.loop (rec .ready none)), objE D (.deferred (some [])), K.blk b5 #[.int .i64 i] 3, K.blk b3 (arr b).cells 24, K.blk b2 (arr a).cells 24]) (fun i W => i = common a b ∧ St m m1 [] wI W [objE l (.loop (rec .done (some (.exit 0)))), objE D (.deferred (some [])), K.blk b5 #[.int .i64 i] 3, K.blk b3 (arr b).cells 24, K.blk b2 (arr a).cells 24]) ?_ ?_ ⟨rfl, st⟩).2 ?_
    · rintro i W ⟨_, st⟩
      exact st.readm hm1 TF.t24 (getV_all (by simp [arr, Value.cells, bs, ha]))
    rintro i W hi ⟨hc, st⟩
    refine yield_round hrec (st.at (i := 0) rfl) rfl htm hval rfl ?_
    · refine wi_seq ?_
      refine wi_region (by kernel_rfl) (fun _ _ h => h) ?_
      refine wl_val (v_assign' (by conv => (lhs; whnf))) rfl ?_
      refine wl_nil ?_
      refine then_go ?_
      refine wi_region (by kernel_rfl) (fun _ _ h => h) ?_
      refine wl_val (v_assign' (by conv => (lhs; whnf))) rfl ?_
      refine wl_nil ?_
      refine then_go ⟨st.at (i := 0) rfl, ?_⟩
      have st := st.putObj 0 (.loop (rec .busy none)) rfl
      have hs : 256 - i = (256 - (i + 1)) + 1 := by omega
      rw [hs, comF] at hc
      have hbi : bitI b i = bit b i := by unfold bitI; rw [if_pos (by omega)]; simp
      refine wi_block ?_
      refine wi_seq ?_
      refine wi_seq ?_
      refine wi_region (by kernel_rfl) (fun _ _ h => h) ?_
      refine wl_val (v_load rfl (st.reads 3 rfl TF.t24 (getV_all (by simp [arr, Value.cells, bs, hb])))) rfl ?_
      refine wl_val (v_move' (by conv => (lhs; whnf))) rfl ?_
      refine wl_call rfl (c_bit st.im hb) rfl ?_
      rintro _ w ⟨t, rfl⟩
      have st := st.pure t
      rw [hbi]
      refine wl_val (v_move' (by conv => (lhs; whnf))) rfl ?_
      refine wl_val (v_neb Try.underlying4 rfl rfl) rfl ?_
      refine wl_nil ?_
      refine then_go ?_
      refine wi_cond rfl (fun h16 => ?_) (fun h16 => ?_)
      · refine wi_exit (then_exit (block_miss rfl ?_))
        rw [if_neg (by simpa using h16)] at hc
        exact ⟨st.at (i := 0) rfl, .inr ⟨rfl, hc, st.putObj 0 _ rfl⟩⟩
      · refine wi_skip ?_
        refine then_go ?_
        refine wi_region (by kernel_rfl) (fun _ _ h => h) ?_
        refine wl_val (v_load rfl (st.reads 2 rfl TF.t3 rfl)) rfl ?_
        refine wl_val (v_add' rfl rfl rfl (by first | omega | (dsimp only at *; omega)) (by first | omega | (dsimp only at *; omega))) rfl ?_
        refine wl_store1 2 st rfl TF.t3 rfl (by conv => (lhs; whnf)) rfl (by first | exact lt_ok rfl | decide | simp) ?_
        intro w st
        refine wl_nil ?_
        refine block_go ?_
        rw [if_pos (by simpa using h16)] at hc
        exact ⟨st.at (i := 0) rfl, .inl ⟨rfl, hc, st.putObj 0 _ rfl⟩⟩
    rintro e W ⟨v, rfl, ⟨hc, st⟩ | ⟨i, hi, hc, st⟩⟩
    · have st2 := st.putObj 0 (.loop (rec .exhausted none)) rfl
      exact ⟨v, rfl, .ready, none, by simp, st.at (i := 0) rfl, D, l, _, m1, rfl, rfl, by rw [← hc]; exact ((st2.drop 3).drop 3)⟩
    · have st2 := st.putObj 0 (.loop (rec .exhausted (some (.exit 0)))) rfl
      exact ⟨v, rfl, .done, some (.exit 0), by simp, st.at (i := 0) rfl, wx_exit (blockx_hit ⟨D, l, _, m1, rfl, rfl, by rw [← hc]; exact ((st2.drop 3).drop 3)⟩)⟩
  · rintro ds r w ⟨D, l, o, m', rfl, h5, st⟩
    refine wx_of_wc (wc_o 5 h5 ?_)
    refine wc_seq ?_
    refine wc_region ?_
    refine wl_val (v_load rfl (by first | assumption | exact st.reads 0 rfl TF.t3 rfl | exact st.reads 1 rfl TF.t3 rfl | exact st.reads 2 rfl TF.t3 rfl | exact st.reads 3 rfl TF.t3 rfl | exact st.reads 4 rfl TF.t3 rfl)) rfl ?_
    refine wl_val (v_assign' (by conv => (lhs; whnf))) rfl ?_
    refine wl_nil ?_
    refine then_go ?_
    refine wc_ret ?_
    have hD := st.at (i := 1) rfl
    have st2 := (st.putObj 1 (.deferred none) rfl).keepOnly (List.nil_sublist _)
    exact retX1 hD (ret1 rfl ⟨(St.finish (l := []) (Es := []) st2).1, rfl⟩)
end
end Go.Proofs.Ytkbmhhbclbgdpaa
