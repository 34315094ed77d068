/-
  Arguments opened, and the row's end: for laws that answer true and leave what they were handed.
-/
import Derived.Test.YtkbmhhbclbgdpaaG
import Derived.ProofKit
import Derived.Deep.Slices
namespace Go.Proofs.Ytkbmhhbclbgdpaa
open Go Go.RowKit Go.ChangeShapes Go.WideShapes Go.Deep
namespace K
section
variable {H : Type} {enc : TypeId × Value → H} {P : Program} {w : World} {sp : Nat → Bool} {held : Bool} {t e : TypeId} {fuel : Nat} {x : DataW H × List MemPlace} {v : Value}

theorem cell_some {a : Addr} {u : Value} (h : w.cell? a = some u) : a.spot = none ∧ ∃ c t fr, w.heap[a.block]? = some (.cells c t fr) ∧ c[a.off]? = some u := by
  unfold World.cell? at h
  split at h
  · rename_i c t fr hb
    split at h
    · cases h
    · rename_i hs
      exact ⟨by simpa using hs, c, t, fr, hb, h⟩
  · cases h

theorem flat_at {size : Nat} : ∀ (k : Nat) (X : Nat → List Value), (∀ i, i < k → (X i).length = size) → ((List.range k).flatMap X).length = k * size ∧ ∀ i j u, i < k → (X i)[j]? = some u → ((List.range k).flatMap X)[i * size + j]? = some u
  | 0, X, _ => by simp
  | k + 1, X, h => by
    have ih := flat_at k X fun i hi => h i (by omega)
    rw [List.range_succ, List.flatMap_append]
    have e : [k].flatMap X = X k := by simp
    rw [e]
    refine ⟨by rw [List.length_append, ih.1, h k (by omega), Nat.add_mul, Nat.one_mul], fun i j u hi hj => ?_⟩
    rcases Nat.lt_or_ge i k with h1 | h1
    · have h2 := ih.2 i j u h1 hj
      rw [List.getElem?_append_left]
      · exact h2
      · rcases Nat.lt_or_ge (i * size + j) ((List.range k).flatMap X).length with h3 | h3
        · exact h3
        · rw [List.getElem?_eq_none h3] at h2; cases h2
    · have h2 : i = k := by omega
      subst h2
      rw [List.getElem?_append_right (by rw [ih.1]; omega), ih.1, Nat.add_sub_cancel_left]
      exact hj

theorem TyF.cells {T : TypeId} {agg : Bool} {size bytes : Nat} (tf : TyF P T agg size bytes) : P.cellsOf T = size := by
  obtain ⟨i, hi, hs, _⟩ := tf.info
  simp [Program.cellsOf, hi, hs]

/-- A slice that is read, in memory as it is: its elements' cells, each read. -/
theorem trod_SlM (ht : P.underlying t = some (.slice e)) (hs : 0 < P.cellsOf e) (h : DataW.trod enc P w 0 sp held fuel t [v] = some x) :
    ∃ (k : Nat) (X : Nat → List Value), SlM (heapM w) v (P.cellsOf e) k ((List.range k).flatMap X) ∧ (k : Int) ≤ 9223372036854775807 ∧ ∀ i, i < k → (X i).length = P.cellsOf e ∧ ∃ n y, DataW.trod enc P w 0 sp held n e (X i) = some y := by
  rcases open_slice ht h with ⟨h0, _⟩ | ⟨a, len, cap, m, n, D, Pl, hv, _, hl, hm, hmm, _, hx⟩
  · rw [List.cons.injEq] at h0
    obtain ⟨rfl, _⟩ := h0
    exact ⟨0, fun _ => [], by simpa using SlM.nil, by decide, by simp⟩
  · rw [List.cons.injEq] at hv
    obtain ⟨rfl, _⟩ := hv
    have hmlen : len ≤ m := by rw [hmm]; split <;> omega
    obtain ⟨X, hX⟩ := choose_lt (α := List Value) (p := fun i cs => w.cells? 0 (a.add (i * P.cellsOf e)) (P.cellsOf e) = some cs ∧ DataW.trod enc P w 0 sp held n e cs = some (D i, Pl i)) (fun i hi => hx i hi)
    have hlen : ∀ i, i < len → (X i).length = P.cellsOf e := fun i hi => (World.cells?_some (hX i (by omega)).1).2.1
    have hcell : ∀ i j u, i < len → (X i)[j]? = some u → w.cell? (a.add (i * P.cellsOf e + j)) = some u := fun i j u hi hj => by
      have hjs : j < P.cellsOf e := by
        rcases Nat.lt_or_ge j (X i).length with h' | h'
        · rw [hlen i hi] at h'; exact h'
        · rw [List.getElem?_eq_none h'] at hj; cases hj
      have := (World.cells?_some (hX i (by omega)).1).2.2 j hjs
      rw [add_add] at this
      rw [this, hj]
    refine ⟨len, X, ⟨(flat_at len X hlen).1, some a, cap, rfl, hl, by simp, fun j u hj => ?_⟩, by unfold maxLen at hm; omega, fun i hi => ⟨hlen i hi, n, _, (hX i (by omega)).2⟩⟩
    have hjl : j < len * P.cellsOf e := by
      rw [← (flat_at len X hlen).1]
      rcases Nat.lt_or_ge j ((List.range len).flatMap X).length with h' | h'
      · exact h'
      · rw [List.getElem?_eq_none h'] at hj; cases hj
    have h0len : 0 < len := by
      rcases Nat.eq_zero_or_pos len with h0 | h0
      · subst h0; simp at hjl
      · exact h0
    have hspot : a.spot = none := by
      have h1 : (X 0)[0]? = some ((X 0)[0]'(by rw [hlen 0 h0len]; exact hs)) := List.getElem?_eq_getElem _
      have := hcell 0 0 _ h0len h1
      rw [Nat.zero_mul, Nat.zero_add, show a.add 0 = a by simp [Addr.add]] at this
      exact (cell_some this).1
    have hdiv : j / P.cellsOf e < len := (Nat.div_lt_iff_lt_mul hs).2 hjl
    have hmod : j % P.cellsOf e < P.cellsOf e := Nat.mod_lt _ hs
    have hu : (X (j / P.cellsOf e))[j % P.cellsOf e]? = some ((X (j / P.cellsOf e))[j % P.cellsOf e]'(by rw [hlen _ hdiv]; exact hmod)) := List.getElem?_eq_getElem _
    have hidx : j / P.cellsOf e * P.cellsOf e + j % P.cellsOf e = j := Nat.div_add_mod' j _
    have h2 := (flat_at len X hlen).2 _ _ _ hdiv hu
    rw [hidx, hj] at h2
    rw [← h2] at hu
    have h3 := hcell _ _ _ hdiv hu
    rw [hidx] at h3
    obtain ⟨_, c, t', fr, hb, hc⟩ := cell_some h3
    refine ⟨a.block, a.off, c, t', fr, ?_, ?_, ?_⟩
    · cases a; simp_all
    · have e1 : (a.add j).block = a.block := by unfold Addr.add; split <;> rfl
      rw [e1] at hb
      exact hb
    · have e1 : (a.add j).off = a.off + j := by unfold Addr.add; split <;> simp_all
      rw [e1] at hc
      exact hc

theorem flat_one {α : Type} (k : Nat) (X : Nat → List Value) (g : α → Value) (hX : ∀ i, i < k → ∃ y, X i = [g y]) : ∃ l : List α, l.length = k ∧ (List.range k).flatMap X = l.map g := by
  induction k with
  | zero => exact ⟨[], rfl, rfl⟩
  | succ k ih =>
    obtain ⟨l, h1, h2⟩ := ih fun i hi => hX i (by omega)
    obtain ⟨y, hy⟩ := hX k (by omega)
    refine ⟨l ++ [y], by simp [h1], ?_⟩
    rw [List.range_succ, List.flatMap_append, h2]
    simp [hy]

/-- A slice of bytes. -/
theorem trod_bytes (ht : P.underlying t = some (.slice e)) (he : P.underlying e = some (.int .u8)) (hc : P.cellsOf e = 1) (h : DataW.trod enc P w 0 sp held fuel t [v] = some x) :
    ∃ l : List UInt8, SlM (heapM w) v 1 l.length (bs l) ∧ (l.length : Int) ≤ 9223372036854775807 := by
  obtain ⟨k, X, hS, hk, hX⟩ := trod_SlM ht (by omega) h
  rw [hc] at hS
  obtain ⟨l, h1, h2⟩ := flat_one (α := UInt8) k X u8 fun i hi => by
    obtain ⟨_, n, y, hy⟩ := hX i hi
    obtain ⟨z, hz, _, hw⟩ := DataW.trod_int he hy
    simp only [Lit.wf, Bool.and_eq_true, decide_eq_true_eq] at hw
    have hw1 : 0 ≤ z := hw.1
    have hw2 : z ≤ 255 := hw.2
    refine ⟨UInt8.ofNat z.toNat, ?_⟩
    rw [hz]
    simp only [u8, List.cons.injEq, Value.int.injEq, true_and, and_true]
    rw [UInt8.toNat_ofNat']
    omega
  rw [h2] at hS
  subst h1
  exact ⟨l, hS, hk⟩

/-- A slice of whole numbers. -/
theorem trod_ints (ht : P.underlying t = some (.slice e)) (he : P.underlying e = some (.int .i64)) (hc : P.cellsOf e = 1) (h : DataW.trod enc P w 0 sp held fuel t [v] = some x) :
    ∃ l : List Int, SlM (heapM w) v 1 l.length (l.map (Value.int .i64)) ∧ (l.length : Int) ≤ 9223372036854775807 := by
  obtain ⟨k, X, hS, hk, hX⟩ := trod_SlM ht (by omega) h
  rw [hc] at hS
  obtain ⟨l, h1, h2⟩ := flat_one (α := Int) k X (Value.int .i64) fun i hi => by
    obtain ⟨_, n, y, hy⟩ := hX i hi
    obtain ⟨z, hz, _, hw⟩ := DataW.trod_int he hy
    exact ⟨z, hz⟩
  rw [h2] at hS
  subst h1
  exact ⟨l, hS, hk⟩

/-- The row's end: the law has answered true, and below the old end of memory nothing has turned. -/
theorem post_true {f : Func} {s : ChangeSpec} {W W' : World} {args : Array Value} {ds gs : List (DataW H)} {before : List MemPlace} {b : TypeId} (hl : laidOutB P = true) (hpar : f.params.toList.all (fun t => P.readableRec t && decide (t < P.types.size)) = true) (hvars : s.vars = [])
    (hW : DataW.Whole enc P f.params.toList s.vars false W args.toList ds gs before) (t : Tch W W' [] []) (hfn : s.fn H ds = { results := [.lit (.bool true)], args := ds }) (hres : f.resultTypes = #[b]) (hb : P.underlying b = some .bool) :
    s.post enc P f false true false false W args (.bool true) W' := by
  have hlt := fun p hp => hW.lt p hp
  have hW0 := hW
  obtain ⟨p, q, hA, hV, rfl, hfz, _⟩ := hW
  have hq : q = [] ∧ gs = [] := by
    rw [hvars] at hV
    cases gs with
    | nil => exact ⟨hV, rfl⟩
    | cons _ _ => exact hV.elim
  obtain ⟨rfl, rfl⟩ := hq
  have stays : ∀ (ts : List TypeId) (vs : List Value) (ds : List (DataW H)) (p : List MemPlace), ts.all (fun t => P.readableRec t && decide (t < P.types.size)) = true → (∀ x ∈ p, x.block < W.heap.size) → DataW.TrodAll enc P W 0 (fun _ => true) true ts vs ds p → DataW.TrodAll enc P W' 0 (fun b => decide (b < W.heap.size)) true ts vs ds p := by
    intro ts
    induction ts with
    | nil => intro vs ds p _ _ h; cases vs <;> cases ds <;> first | exact h | exact h.elim
    | cons t0 ts ih =>
      intro vs ds p hall hp h
      cases vs with
      | nil => exact h.elim
      | cons v0 vs =>
        cases ds with
        | nil => exact h.elim
        | cons d0 ds =>
          obtain ⟨p1, q1, h1, h2, rfl⟩ := h
          simp only [List.all_cons, Bool.and_eq_true, decide_eq_true_eq] at hall
          exact ⟨p1, q1, Below.trod hl hall.1.1 hall.1.2 h1 t.below (fun x hx => hp x (List.mem_append_left _ hx)), ih vs ds q1 (by simpa using hall.2) (fun x hx => hp x (List.mem_append_right _ hx)) h2, rfl⟩
  refine ⟨ds, [], p ++ [], [], p, [], hW0, ?_, ?_, ?_, ?_, fun h => by cases h⟩
  all_goals try rw [List.append_nil ds]
  · rw [hfn, hres]
    refine ⟨[], [], ⟨1, ?_⟩, rfl, rfl⟩
    simp [DataW.trod, Value.cells, hb, Value.resultList]
  · rw [hfn]
    exact stays _ _ _ _ hpar (fun x hx => hlt x (by simpa using hx)) hA
  · rw [hvars, hfn]
    rfl
  · refine ⟨t.os, t.output, fun i hi => ?_⟩
    have := (World.keptBut_refl W (fun p_1 => p_1 ∈ p ++ [] ∧ (p_1 ∈ ([] : List MemPlace) ∨ p_1 ∈ p ∨ p_1 ∈ ([] : List MemPlace)))).2.2 i hi
    rw [t.block i hi (by simp)]
    exact this

end
end K
end Go.Proofs.Ytkbmhhbclbgdpaa
