/-
  Digests and lists of digests, opened from what the row hands.
-/
import Derived.Test.YtkbmhhbclbgdpaaUd
import Derived.Test.YtkbmhhbclbgdpaaV
import Derived.OpenShut
import Derived.WideShapes
import Derived.ChangeShapes
namespace Go.Proofs.Ytkbmhhbclbgdpaa
open Go Go.RowKit Go.ChangeShapes Go.WideShapes K

theorem all_u8 : ∀ {cs : List Value}, (∀ i, i < cs.length → ∃ b : UInt8, cs[i]? = some (u8 b)) → ∃ l : List UInt8, cs = bs l
  | [], _ => ⟨[], rfl⟩
  | c :: cs, h => by
    obtain ⟨b, hb⟩ := h 0 (by simp)
    obtain ⟨l, hl⟩ := all_u8 (cs := cs) fun i hi => by
      have := h (i + 1) (by simp; exact hi)
      simpa using this
    refine ⟨b :: l, ?_⟩
    simp only [List.getElem?_cons_zero, Option.some.injEq] at hb
    rw [hb, hl]
    rfl

section
variable {H : Type} {enc : TypeId × Value → H} {w : World} {sp : Nat → Bool} {held : Bool} {fuel : Nat} {x : DataW H × List MemPlace} {v : Value}

theorem trod_dig {cs : List Value} (h : DataW.trod enc Try.prog w 0 sp held fuel 24 cs = some x) : ∃ l : List UInt8, cs = bs l ∧ l.length = 32 := by
  obtain ⟨xs, m, _, _, hl, hxl, hf⟩ := DataW.trod_array Try.underlying24 h
  rw [TF.t24.cells] at hl
  rw [TF.t5.cells] at hf
  obtain ⟨l, rfl⟩ := all_u8 (cs := cs) fun i hi => by
    have hi' : i < cs.length := hi
    have e := hf i (by omega)
    rw [List.getElem?_eq_getElem (by omega)] at e
    have ec : (cs.drop (i * 1)).take 1 = [cs[i]] := by rw [Nat.mul_one, List.drop_eq_getElem_cons hi]; rfl
    rw [ec] at e
    obtain ⟨a, q, _, wf⟩ := DataW.trod_int Try.underlying5 e
    rw [List.cons.injEq] at q
    simp only [Lit.wf, Bool.and_eq_true, decide_eq_true_eq] at wf
    have h1 : 0 ≤ a := wf.1
    have h2 : a ≤ 255 := wf.2
    refine ⟨UInt8.ofNat a.toNat, ?_⟩
    rw [List.getElem?_eq_getElem hi, q.1]
    simp only [u8, Option.some.injEq, Value.int.injEq, true_and]
    rw [UInt8.toNat_ofNat']
    omega
  exact ⟨l, rfl, by rw [length_bs] at hl; exact hl⟩

theorem open_dig {W : World} {r : Reach} {base : Nat} {d : DataW H} {p : List MemPlace} (hv : Value.okWide Try.prog W r base 24 v) (h : DataW.Trod enc Try.prog w 0 sp held 24 v d p) : ∃ l : List UInt8, v = arr l ∧ l.length = 32 := by
  simp only [Value.okWide, Try.underlying24] at hv
  obtain ⟨cs, rfl, _, _⟩ := hv
  obtain ⟨fu, hf⟩ := h
  obtain ⟨l, hl, h32⟩ := trod_dig hf
  refine ⟨l, ?_, h32⟩
  unfold arr
  rw [← hl]
  simp [Value.cells]

theorem open_digs (h : DataW.trod enc Try.prog w 0 sp held fuel 22 [v] = some x) : ∃ L : List (List UInt8), DigM (heapM w) v L ∧ L.length ≤ 9223372036854775807 := by
  obtain ⟨k, X, hS, hk, hX⟩ := trod_SlM Try.underlying22 (by rw [TF.t24.cells]; decide) h
  rw [TF.t24.cells] at hS hX
  have all : ∀ k', k' ≤ k → ∃ L : List (List UInt8), L.length = k' ∧ (List.range k').flatMap X = digs L ∧ D32 L := by
    intro k'
    induction k' with
    | zero => intro _; exact ⟨[], rfl, rfl, by simp [D32]⟩
    | succ k' ih =>
      intro hk'
      obtain ⟨L, h1, h2, h3⟩ := ih (by omega)
      obtain ⟨_, n, y, hy⟩ := hX k' (by omega)
      obtain ⟨l, hl, h32⟩ := trod_dig hy
      refine ⟨L ++ [l], by simp [h1], ?_, h3.app (D32.one h32)⟩
      rw [List.range_succ, List.flatMap_append, h2, digs_app, digs_one]
      simp [hl]
  obtain ⟨L, h1, h2, h3⟩ := all k (Nat.le_refl _)
  rw [h2] at hS
  subst h1
  exact ⟨L, ⟨h3, hS⟩, by omega⟩

theorem trodAll_five {P : Program} {base : Nat} {spare : Nat → Bool} {t t1 t2 t3 t4 : TypeId} {args : Array Value} {ds : List (DataW H)} {ps : List MemPlace} (h : DataW.TrodAll enc P w base spare held [t, t1, t2, t3, t4] args.toList ds ps) :
    ∃ v v1 v2 v3 v4 d d1 d2 d3 d4 p p1 p2 p3 p4, args = #[v, v1, v2, v3, v4] ∧ ds = [d, d1, d2, d3, d4] ∧ ps = p ++ p1 ++ p2 ++ p3 ++ p4 ∧ DataW.Trod enc P w base spare held t v d p ∧ DataW.Trod enc P w base spare held t1 v1 d1 p1 ∧ DataW.Trod enc P w base spare held t2 v2 d2 p2 ∧ DataW.Trod enc P w base spare held t3 v3 d3 p3 ∧ DataW.Trod enc P w base spare held t4 v4 d4 p4 := by
  obtain ⟨v, vs, d, ds0, p, q, hargs, rfl, rfl, hd, h⟩ := trodAll_cons h
  obtain ⟨v1, vs1, d1, ds1, p1, q1, rfl, rfl, rfl, hd1, h⟩ := trodAll_cons h
  obtain ⟨v2, vs2, d2, ds2, p2, q2, rfl, rfl, rfl, hd2, h⟩ := trodAll_cons h
  obtain ⟨v3, vs3, d3, ds3, p3, q3, rfl, rfl, rfl, hd3, h⟩ := trodAll_cons h
  obtain ⟨v4, vs4, d4, ds4, p4, q4, rfl, rfl, rfl, hd4, h⟩ := trodAll_cons h
  obtain ⟨rfl, rfl, rfl⟩ := trodAll_nil h
  exact ⟨v, v1, v2, v3, v4, d, d1, d2, d3, d4, p, p1, p2, p3, p4, by cases args; simp_all, rfl, by simp, hd, hd1, hd2, hd3, hd4⟩
end
end Go.Proofs.Ytkbmhhbclbgdpaa
