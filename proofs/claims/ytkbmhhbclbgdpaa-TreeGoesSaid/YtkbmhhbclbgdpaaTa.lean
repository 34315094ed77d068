/-
  What is hashed for what: the program's tags and the reference's.
-/
import Derived.Test.YtkbmhhbclbgdpaaSk
namespace Go.Proofs.Ytkbmhhbclbgdpaa
open Go Go.RowKit K SH

theorem K.SlM.narrow {m : Mem} {a : Option Addr} {k cap size : Nat} {xs : List Value} (h : SlM m (.slice a k cap) size k xs) : SlM m (.slice a k k) size k xs := by
  obtain ⟨h1, a', c', he, h3, h4, h5⟩ := h
  cases he
  exact ⟨h1, a, k, rfl, Nat.le_refl _, fun e => by have := h4 e; omega, h5⟩

/-- Pieces: a list of texts, each with its slice. -/
def PcsM (m : Mem) (v : Value) (L : List (List UInt8 × Value)) : Prop := SlM m v 1 L.length (L.map (·.2)) ∧ ∀ x ∈ L, SlM m x.2 1 x.1.length (bs x.1)

theorem PcsM.mono {m m' : Mem} {v : Value} {L : List (List UInt8 × Value)} (h : PcsM m v L) (hm : ∀ k o, m k = some o → m' k = some o) : PcsM m' v L := ⟨h.1.mono hm, fun x hx => (h.2 x hx).mono hm⟩

def joinB (L : List (List UInt8 × Value)) : List UInt8 := L.flatMap (·.1)

theorem PcsM.elem {m : Mem} {v : Value} {L : List (List UInt8 × Value)} (h : PcsM m v L) {i : Nat} (hi : i < L.length) :
    ∃ b o cap, v = .slice (some ⟨b, o, none⟩) L.length cap ∧ SlM m L[i].2 1 L[i].1.length (bs L[i].1) ∧ ∀ {w : World} (_ : Im m w), Reads Try.prog w 66 ⟨b, o + i * 1, none⟩ L[i].2 := by
  obtain ⟨b, o, cap, hv, _, hr⟩ := h.1.elem Try.prog (i := i) hi (by omega)
  refine ⟨b, o, cap, hv, h.2 _ (List.getElem_mem _), fun {w} him => ?_⟩
  have := hr him (off := 0) (v' := L[i].2) TF.t66 (by
    have e : cellsAt (L.map (·.2)) 1 i = [L[i].2] := by simp [cellsAt, List.drop_eq_getElem_cons, hi]
    rw [e]
    rfl)
  simpa using this

theorem joinB_take {L : List (List UInt8 × Value)} {i : Nat} (hi : i < L.length) : joinB (L.take (i + 1)) = joinB (L.take i) ++ L[i].1 := by
  unfold joinB
  rw [List.take_succ_eq_append_getElem hi, List.flatMap_append]
  simp only [List.flatMap_cons, List.flatMap_nil, List.append_nil]

theorem joinB_le {L : List (List UInt8 × Value)} (i : Nat) : (joinB (L.take i)).length ≤ (joinB L).length := by
  have e : joinB L = joinB (L.take i) ++ joinB (L.drop i) := by
    unfold joinB
    rw [← List.flatMap_append, List.take_append_drop]
  rw [e, List.length_append]
  omega

section
variable {m : Mem} {wI : World}

theorem c_begin {c : UInt8} {pv : Value} {L : List (List UInt8 × Value)} (him : Im m wI) (hp : PcsM m pv L) (hb : (joinB L).length ≤ 1099511627776) (hLl : L.length ≤ 1099511627776) :
    Ret Try.prog 48 #[u8 c, pv] wI fun v w' => Out m wI w' fun m' => SlM m' v 1 (c :: joinB L).length (bs (c :: joinB L)) := by
  have st := St.start him
  have hp0 := hp
  obtain ⟨⟨_, pa, pc, rfl, _⟩, _⟩ := hp
  refine ret_of Try.call48 Try.func48 rfl Try.ntmps48 Try.results48 rfl ?_
  refine wc_seq ?_
  refine wc_region ?_
  refine wl_val (v_assign' (by conv => (lhs; whnf))) rfl ?_
  refine wl_nil ?_
  refine then_go ?_
  refine wc_seq ?_
  refine wc_region ?_
  refine wl_val (v_move' (by conv => (lhs; whnf))) rfl ?_
  refine wl_byte1 c Try.underlying66 TF.t5 TF.z5 rfl st rfl ?_
  intro b9 w st
  refine wl_val (v_assign' (by conv => (lhs; whnf))) rfl ?_
  refine wl_nil ?_
  obtain ⟨m1, hg1, hm1, st⟩ := st.freeze (i := 0) rfl (by simp)
  change St _ _ _ _ _ [] at st
  have hs1 : SlM m1 (.slice (some ⟨b9, 0, none⟩) 1 1) 1 (c :: joinB (L.take 0)).length (bs (c :: joinB (L.take 0))) := SlM.ofBlock (pre := []) (post := []) hm1 (by simp [joinB]) rfl (Nat.le_refl _)
  refine then_go ?_
  refine wc_seq ?_
  refine wc_seq ?_
  refine wc_region ?_
  refine wl_val (v_move' (by conv => (lhs; whnf))) rfl ?_
  refine wl_val (v_len_s Try.underlying74 rfl) rfl ?_
  refine wl_val (v_move' (by conv => (lhs; whnf))) rfl ?_
  refine wl_nil ?_
  refine then_go ?_
  refine wc_block ?_
  refine wc_loop (S := Nat) (fun q r w' => ∃ i m' v, q + i = L.length ∧ r 5 = v ∧ r 10 = .slice pa L.length pc ∧ r 11 = .int .i64 L.length ∧ r 12 = .int .i64 i ∧ (∀ k o, m k = some o → m' k = some o) ∧ SlM m' v 1 (c :: joinB (L.take i)).length (bs (c :: joinB (L.take i))) ∧ St m m' [] wI w' []) id L.length ⟨0, m1, _, by omega, rfl, rfl, rfl, rfl, hg1.le, hs1, st⟩ ?_
  clear hs1 st
  rintro q r w2 ⟨i, m', v, hqi, h5, h10, h11, h12, hmm, hs, st⟩
  have hs0 := hs
  obtain ⟨_, sa, sc, rfl, hsk, _⟩ := hs
  refine wc_o 5 h5 (wc_o 10 h10 (wc_o 11 h11 (wc_o 12 h12 ?_)))
  refine wc_seq ?_
  refine wc_region ?_
  refine wl_val (v_lss rfl rfl) rfl ?_
  refine wl_nil ?_
  refine then_go ?_
  refine wc_seq ?_
  refine wc_if rfl (fun h13 => ?_) (fun h13 => ?_)
  · refine wc_skip ?_
    refine then_go ?_
    refine wc_seq ?_
    refine wc_block ?_
    refine wc_seq ?_
    have hi : i < L.length := by omega
    have hjl := joinB_le (L := L) i
    have hjl2 := joinB_le (L := L) (i + 1)
    obtain ⟨lb, lo, lcap, hlv, hel, hrd⟩ := (hp0.mono hmm).elem hi
    simp only [Value.slice.injEq] at hlv
    obtain ⟨hpa, _, _⟩ := hlv
    rw [hpa]
    rw [joinB_take hi, List.length_append] at hjl2
    refine wc_region ?_
    refine wl_val (v_ias i Try.underlying74 TF.t66 rfl rfl (by first | rfl | omega) (by first | omega | (dsimp only at *; omega))) rfl ?_
    refine wl_val (v_load rfl (hrd st.im)) rfl ?_
    refine wl_val (v_assign' (by conv => (lhs; whnf))) rfl ?_
    refine wl_nil ?_
    refine then_go ?_
    refine wc_region ?_
    refine wl_val (v_move' (by conv => (lhs; whnf))) rfl ?_
    refine wl_val (v_move' (by conv => (lhs; whnf))) rfl ?_
    refine wl_val (v_len_s Try.underlying66 rfl) rfl ?_
    refine wl_val (v_move' (by conv => (lhs; whnf))) rfl ?_
    refine wl_val (v_len_s Try.underlying66 rfl) rfl ?_
    refine wl_val (v_slice_full (h := (c :: joinB (L.take i)).length) Try.underlying66 TF.t5 rfl rfl rfl hsk) rfl ?_
    refine wl_val (v_move' (by conv => (lhs; whnf))) rfl ?_
    refine wl_appFull (l2 := L[i].1) st hs0.narrow Try.underlying66 TF.t5 TF.z5 rfl rfl (hel.src st.im (one_bs _)) (by rw [List.length_cons]; omega) (by rw [List.length_cons]; omega) rfl ?_
    intro m2 v23 w hle2 st hs2
    refine wl_val (v_assign' (by conv => (lhs; whnf))) rfl ?_
    refine wl_nil ?_
    refine block_go (then_go ?_)
    refine wc_region ?_
    refine wl_val (v_add' rfl rfl rfl (by first | omega | (dsimp only at *; omega)) (by first | omega | (dsimp only at *; omega))) rfl ?_
    refine wl_val (v_move' (by conv => (lhs; whnf))) rfl ?_
    refine wl_nil ?_
    refine then_go ?_
    refine ⟨q - 1, by simp; omega, i + 1, m2, v23, by omega, rfl, rfl, rfl, rfl, fun k o h => hle2 k o (hmm k o h), ?_, st⟩
    rw [joinB_take hi]
    exact hs2
  · refine wc_exit (then_exit (then_exit (block_hit ?_)))
    refine then_go ?_
    refine wc_seq ?_
    refine wc_region ?_
    refine wl_val (v_move' (by conv => (lhs; whnf))) rfl ?_
    refine wl_val (v_assign' (by conv => (lhs; whnf))) rfl ?_
    refine wl_nil ?_
    refine then_go ?_
    refine wc_ret ?_
    have hiL : i = L.length := by omega
    subst hiL
    rw [List.take_length] at hs0
    exact ret1 rfl (st.out (by rw [List.take_length]; exact hs0))
end
end Go.Proofs.Ytkbmhhbclbgdpaa
