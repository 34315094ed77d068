/-
  Lists of acts, opened from what the row hands.
-/
import Derived.Test.YtekhcjgmgflmkaaDo
import Derived.Test.YtekhcjgmgflmkaaV
namespace Go.Proofs.Ytekhcjgmgflmkaa
open Go Go.RowKit Go.ChangeShapes Go.WideShapes K DK

theorem open_ops {H : Type} {enc : TypeId × Value → H} {w : World} {sp : Nat → Bool} {held : Bool} {fuel : Nat} {x : DataW H × List MemPlace} {v : Value} (h : DataW.trod enc Try.prog w 0 sp held fuel 38 [v] = some x) :
    ∃ L : List (Act × Value), OpsM (heapM w) v L := by
  obtain ⟨k, X, hS, hk, hX⟩ := trod_SlM Try.underlying38 (by rw [TF.t46.cells]; decide) h
  rw [TF.t46.cells] at hS hX
  have one : ∀ i, i < k → ∃ y : Act × Value, X i = actC y ∧ SlM (heapM w) y.2 1 y.1.keep.length (ints y.1.keep) ∧ y.1.N ≤ 9223372036854775807 := by
    intro i hi
    obtain ⟨hl, n, y, hy⟩ := hX i hi
    obtain ⟨xs, m, _, _, _, hxl, hf⟩ := DataW.trod_struct Try.underlying46 hy
    have hxl : xs.length = 5 := hxl
    match hXi : X i, hl with
    | [c0, c1, c2, c3, c4], _ =>
      rw [hXi] at hf
      have g : ∀ j : Nat, j < 5 → ∃ z, xs[j]? = some z := fun j hj => ⟨_, List.getElem?_eq_getElem (by omega)⟩
      obtain ⟨z0, g0⟩ := g 0 (by decide)
      obtain ⟨z1, g1⟩ := g 1 (by decide)
      obtain ⟨z2, g2⟩ := g 2 (by decide)
      obtain ⟨z3, g3⟩ := g 3 (by decide)
      obtain ⟨z4, g4⟩ := g 4 (by decide)
      have e0 : DataW.trod enc Try.prog w 0 sp held m 3 (([c0, c1, c2, c3, c4].drop 0).take (Try.prog.cellsOf 3)) = some z0 := (hf 0 _ rfl).trans g0
      rw [TF.t3.cells] at e0
      have e0 : DataW.trod enc Try.prog w 0 sp held m 3 [c0] = some z0 := e0
      have e1 : DataW.trod enc Try.prog w 0 sp held m 3 (([c0, c1, c2, c3, c4].drop 1).take (Try.prog.cellsOf 3)) = some z1 := (hf 1 _ rfl).trans g1
      rw [TF.t3.cells] at e1
      have e1 : DataW.trod enc Try.prog w 0 sp held m 3 [c1] = some z1 := e1
      have e2 : DataW.trod enc Try.prog w 0 sp held m 3 (([c0, c1, c2, c3, c4].drop 2).take (Try.prog.cellsOf 3)) = some z2 := (hf 2 _ rfl).trans g2
      rw [TF.t3.cells] at e2
      have e2 : DataW.trod enc Try.prog w 0 sp held m 3 [c2] = some z2 := e2
      have e3 : DataW.trod enc Try.prog w 0 sp held m 5 (([c0, c1, c2, c3, c4].drop 3).take (Try.prog.cellsOf 5)) = some z3 := (hf 3 _ rfl).trans g3
      rw [TF.t5.cells] at e3
      have e3 : DataW.trod enc Try.prog w 0 sp held m 5 [c3] = some z3 := e3
      have e4 : DataW.trod enc Try.prog w 0 sp held m 44 (([c0, c1, c2, c3, c4].drop 4).take (Try.prog.cellsOf 44)) = some z4 := (hf 4 _ rfl).trans g4
      rw [TF.t44.cells] at e4
      have e4 : DataW.trod enc Try.prog w 0 sp held m 44 [c4] = some z4 := e4
      obtain ⟨a0, q0, _, _⟩ := DataW.trod_int Try.underlying3 e0
      obtain ⟨a1, q1, _, _⟩ := DataW.trod_int Try.underlying3 e1
      obtain ⟨a2, q2, _, w2⟩ := DataW.trod_int Try.underlying3 e2
      obtain ⟨a3, q3, _, w3⟩ := DataW.trod_int Try.underlying5 e3
      obtain ⟨keep, hkp, _⟩ := trod_ints Try.underlying44 Try.underlying3 TF.t3.cells e4
      rw [List.cons.injEq] at q0 q1 q2 q3
      obtain ⟨rfl, _⟩ := q0
      obtain ⟨rfl, _⟩ := q1
      obtain ⟨rfl, _⟩ := q2
      obtain ⟨rfl, _⟩ := q3
      simp only [Lit.wf, Bool.and_eq_true, decide_eq_true_eq] at w2 w3
      have h31 : 0 ≤ a3 := w3.1
      have h32 : a3 ≤ 255 := w3.2
      refine ⟨(⟨a0, a1, a2, UInt8.ofNat a3.toNat, keep⟩, c4), ?_, hkp, w2.2⟩
      simp only [actC, u8, List.cons.injEq, Value.int.injEq, true_and, and_true]
      rw [UInt8.toNat_ofNat']
      omega
  have all : ∀ k', k' ≤ k → ∃ L : List (Act × Value), L.length = k' ∧ (List.range k').flatMap X = L.flatMap actC ∧ ∀ y ∈ L, SlM (heapM w) y.2 1 y.1.keep.length (ints y.1.keep) ∧ y.1.N ≤ 9223372036854775807 := by
    intro k'
    induction k' with
    | zero => intro _; exact ⟨[], rfl, rfl, by simp⟩
    | succ k' ih =>
      intro hk'
      obtain ⟨L, h1, h2, h3⟩ := ih (by omega)
      obtain ⟨y, hy, hy2⟩ := one k' (by omega)
      refine ⟨L ++ [y], by simp [h1], ?_, fun z hz => ?_⟩
      · rw [List.range_succ, List.flatMap_append, h2, List.flatMap_append]
        simp [hy]
      · rcases List.mem_append.1 hz with h | h
        · exact h3 z h
        · rw [List.mem_singleton.1 h]; exact hy2
  obtain ⟨L, h1, h2, h3⟩ := all k (Nat.le_refl _)
  rw [h2] at hS
  subst h1
  exact ⟨L, hS, h3⟩

end Go.Proofs.Ytekhcjgmgflmkaa
