/-
  Memory for the walks: what is owned and may be written, what never changes, and what each operation does to it.
-/
import Derived.Test.YtkbmhhbclbgdpaaK
namespace Go.Proofs.Ytkbmhhbclbgdpaa
open Go Go.RowKit
namespace K

/-- The part of memory that never changes: what each of its blocks holds. -/
abbrev Mem := Nat → Option Obj

def Im (m : Mem) (w : World) : Prop := ∀ k o, m k = some o → w.heap[k]? = some o

/-- m' has all of m, and beside it only blocks from B on. -/
structure Grow (m m' : Mem) (B : Nat) : Prop where
  le : ∀ k o, m k = some o → m' k = some o
  new : ∀ k o, m' k = some o → m k = some o ∨ B ≤ k

theorem Grow.refl (m : Mem) (B : Nat) : Grow m m B := ⟨fun _ _ h => h, fun _ _ h => .inl h⟩
theorem Grow.trans {m m1 m2 : Mem} {B C : Nat} (h : Grow m m1 B) (h' : Grow m1 m2 C) (hB : B ≤ C) : Grow m m2 B :=
  ⟨fun k o x => h'.le k o (h.le k o x), fun k o x => by
    rcases h'.new k o x with y | y
    · exact h.new k o y
    · exact .inr (Nat.le_trans hB y)⟩

/-- From w to w' nothing turned but the blocks A (and new ones); A' are what they have become. -/
structure Tch (w w' : World) (A A' : List Nat) : Prop where
  os : w'.os = w.os
  tape : w'.tape = w.tape
  output : w'.output = w.output
  size : w.heap.size ≤ w'.heap.size
  block : ∀ k, k < w.heap.size → k ∉ A → w'.heap[k]? = w.heap[k]?
  out : ∀ k, k ∈ A' → k ∈ A ∨ w.heap.size ≤ k

theorem Tch.refl (w : World) (A : List Nat) : Tch w w A A := ⟨rfl, rfl, rfl, Nat.le_refl _, fun _ _ _ => rfl, fun _ h => .inl h⟩

theorem Tch.below {w w' : World} {A' : List Nat} (h : Tch w w' [] A') : Below w.heap.size w w' :=
  ⟨h.os, h.tape, h.output, h.size, fun k hk => h.block k hk (by simp)⟩

/-- A piece of owned memory: its blocks, and what is known of them. -/
structure Ent where
  foot : List Nat
  holds : World → Prop
  keep : ∀ {w w' : World}, (∀ k ∈ foot, w'.heap[k]? = w.heap[k]?) → holds w → holds w'
  live : ∀ {w : World}, holds w → ∀ k ∈ foot, k < w.heap.size

theorem lt_of_get {w : World} {b : Nat} {o : Obj} (h : w.heap[b]? = some o) : b < w.heap.size := by
  rcases Nat.lt_or_ge b w.heap.size with h' | h'
  · exact h'
  · rw [Array.getElem?_eq_none h'] at h; cases h

/-- A block of cells. -/
def blk (b : Nat) (c : Array Value) (t : TypeId) : Ent where
  foot := [b]
  holds := fun w => w.heap[b]? = some (.cells c t (0, 0))
  keep := fun h hw => by rw [h b (by simp)]; exact hw
  live := fun h k hk => by simp at hk; subst hk; exact lt_of_get h

/-- A slice of the call's own, with its cells. -/
def rowE (v : Value) (e : TypeId) (size n : Nat) (xs : List Value) : Ent where
  foot := v.ownBlock.toList
  holds := fun w => w.ownsRow 0 e size v n xs
  keep := fun {w w'} h hw => by
    obtain ⟨h1, h2⟩ := hw
    refine ⟨h1, ?_⟩
    rcases h2 with h2 | ⟨g, cap, cur, rfl, hg, hh, r⟩
    · exact .inl h2
    · exact .inr ⟨g, cap, cur, rfl, hg, by rw [h g (by simp [Value.ownBlock])]; exact hh, r⟩
  live := fun {w} h k hk => by
    rcases h.2 with ⟨rfl, _⟩ | ⟨g, cap, cur, rfl, hg, hh, r⟩
    · simp [Value.ownBlock] at hk
    · simp [Value.ownBlock] at hk; subst hk; exact lt_of_get hh

structure St (m0 m : Mem) (F : List Nat) (w0 w : World) (Es : List Ent) : Prop where
  touch : Tch w0 w F F
  grow : Grow m0 m w0.heap.size
  im : Im m w
  holds : ∀ E ∈ Es, E.holds w
  sep : Es.Pairwise fun E E' => ∀ k ∈ E.foot, k ∉ E'.foot
  own : ∀ E ∈ Es, ∀ k ∈ E.foot, m k = none ∧ (w0.heap.size ≤ k ∨ k ∈ F)

theorem St.start {m : Mem} {w : World} (h : Im m w) : St m m [] w w [] :=
  ⟨Tch.refl _ _, Grow.refl _ _, h, by simp, List.Pairwise.nil, by simp⟩

theorem St.startE {m : Mem} {w : World} {E : Ent} (h : Im m w) (hE : E.holds w) (hm : ∀ k ∈ E.foot, m k = none) : St m m E.foot w w [E] :=
  ⟨Tch.refl _ _, Grow.refl _ _, h, by simpa using hE, by simp, by simpa using fun k hk => ⟨hm k hk, .inr hk⟩⟩

section St
variable {m0 m : Mem} {F : List Nat} {w0 w w' : World} {Es : List Ent}

theorem Tch.trans' {A B : List Nat} (h : Tch w0 w F F) (t : Tch w w' A B) (hA : ∀ k ∈ A, w0.heap.size ≤ k ∨ k ∈ F) : Tch w0 w' F F :=
  ⟨t.os.trans h.os, t.tape.trans h.tape, t.output.trans h.output, Nat.le_trans h.size t.size, fun k hk hF => by
    have hkA : k ∉ A := fun hm => by
      rcases hA k hm with x | x
      · omega
      · exact hF x
    rw [t.block k (Nat.lt_of_lt_of_le hk h.size) hkA, h.block k hk hF], fun _ hk => .inl hk⟩

theorem Im.step {A B : List Nat} (h : Im m w) (t : Tch w w' A B) (hA : ∀ k ∈ A, m k = none) : Im m w' := fun k o hk => by
  have hw := h k o hk
  rw [t.block k (lt_of_get hw) (fun hm => by rw [hA k hm] at hk; cases hk)]
  exact hw

/-- A step that touches nothing that is owned. -/
theorem St.pure (h : St m0 m F w0 w Es) (t : Tch w w' [] []) : St m0 m F w0 w' Es :=
  ⟨h.touch.trans' t (by simp), h.grow, h.im.step t (by simp), fun E hE => E.keep (fun k hk => t.block k (E.live (h.holds E hE) k hk) (by simp)) (h.holds E hE), h.sep, h.own⟩

/-- The unchanging part has grown. -/
theorem St.grown {m' : Mem} (h : St m0 m F w0 w Es) (hg : Grow m m' w.heap.size) (t : Tch w w' [] []) (hi : Im m' w') : St m0 m' F w0 w' Es :=
  ⟨h.touch.trans' t (by simp), h.grow.trans hg h.touch.size, hi, (h.pure t).holds, h.sep, fun E hE k hk => by
    refine ⟨?_, (h.own E hE k hk).2⟩
    cases hm : m' k with
    | none => rfl
    | some o =>
      rcases hg.new k o hm with x | x
      · rw [(h.own E hE k hk).1] at x; cases x
      · have := E.live (h.holds E hE) k hk; omega⟩

/-- Something new is owned. -/
theorem St.new {E : Ent} (h : St m0 m F w0 w Es) (t : Tch w w' [] E.foot) (hE : E.holds w') : St m0 m F w0 w' (E :: Es) := by
  have h' := h.pure ⟨t.os, t.tape, t.output, t.size, t.block, by simp⟩
  have hn : ∀ k ∈ E.foot, w.heap.size ≤ k := fun k hk => (t.out k hk).resolve_left (by simp)
  refine ⟨h'.touch, h'.grow, h'.im, ?_, ?_, ?_⟩
  · intro E' hE'
    rcases List.mem_cons.1 hE' with rfl | hE'
    · exact hE
    · exact h'.holds E' hE'
  · refine List.pairwise_cons.2 ⟨fun E' hE' k hk hk' => ?_, h.sep⟩
    have h1 := E'.live (h.holds E' hE') k hk'
    have h2 := hn k hk
    omega
  · intro E' hE' k hk
    rcases List.mem_cons.1 hE' with rfl | hE'
    · refine ⟨?_, .inl (Nat.le_trans h.touch.size (hn k hk))⟩
      cases hm : m k with
      | none => rfl
      | some o => have := lt_of_get (h.im k o hm); have := hn k hk; omega
    · exact h.own E' hE' k hk

theorem mem_set {α : Type} {l : List α} {i : Nat} {x y : α} (h : y ∈ l.set i x) : y = x ∨ y ∈ l := by
  rcases List.mem_or_eq_of_mem_set h with h | h
  · exact .inr h
  · exact .inl h

/-- The i-th of what is owned becomes another. -/
theorem St.step {E E' : Ent} (h : St m0 m F w0 w Es) (i : Nat) (hi : Es[i]? = some E) (t : Tch w w' E.foot E'.foot) (hE : E'.holds w') : St m0 m F w0 w' (Es.set i E') := by
  have hlt : i < Es.length := by
    rcases Nat.lt_or_ge i Es.length with h' | h'
    · exact h'
    · rw [List.getElem?_eq_none h'] at hi; cases hi
  have hget : Es[i] = E := by rw [List.getElem?_eq_getElem hlt] at hi; exact Option.some.inj hi
  have hmem : E ∈ Es := hget ▸ List.getElem_mem hlt
  have hsplit : ∀ (j : Nat) (hj : j < Es.length), j ≠ i → (∀ k ∈ Es[j].foot, k ∉ E.foot) := by
    intro j hj hne k hk hk'
    rcases Nat.lt_or_gt_of_ne hne with hlt' | hgt
    · exact (List.pairwise_iff_getElem.1 h.sep) j i hj hlt hlt' k hk (by rw [hget]; exact hk')
    · exact (List.pairwise_iff_getElem.1 h.sep) i j hlt hj hgt k (by rw [hget]; exact hk') hk
  have hold : ∀ k ∈ E.foot, k < w.heap.size := E.live (h.holds E hmem)
  have hout : ∀ (j : Nat) (hj : j < Es.length), j ≠ i → (∀ k ∈ Es[j].foot, k ∉ E'.foot) := by
    intro j hj hne k hk hk'
    rcases t.out k hk' with x | x
    · exact hsplit j hj hne k hk x
    · have := Es[j].live (h.holds _ (List.getElem_mem hj)) k hk; omega
  have hothers : ∀ (j : Nat) (hj : j < Es.length), j ≠ i → Es[j].holds w' := fun j hj hne =>
    Es[j].keep (fun k hk => t.block k (Es[j].live (h.holds _ (List.getElem_mem hj)) k hk) (hsplit j hj hne k hk)) (h.holds _ (List.getElem_mem hj))
  refine ⟨h.touch.trans' t fun k hk => (h.own E hmem k hk).2, h.grow, h.im.step t fun k hk => (h.own E hmem k hk).1, ?_, ?_, ?_⟩
  · intro X hX
    obtain ⟨j, hj, rfl⟩ := List.getElem_of_mem hX
    rw [List.getElem_set]
    split
    · exact hE
    · rename_i hne
      exact hothers j (by simpa using hj) (fun e => hne e.symm)
  · rw [List.pairwise_iff_getElem]
    intro a b ha hb hab
    simp only [List.length_set] at ha hb
    rw [List.getElem_set, List.getElem_set]
    split
    · rename_i ea
      subst ea
      rw [if_neg (by omega)]
      exact fun k hk hk' => hout b hb (by omega) k hk' hk
    · split
      · rename_i na eb
        subst eb
        exact hout a ha (by omega)
      · exact (List.pairwise_iff_getElem.1 h.sep) a b ha hb hab
  · intro X hX k hk
    obtain ⟨j, hj, rfl⟩ := List.getElem_of_mem hX
    simp only [List.length_set] at hj
    rw [List.getElem_set] at hk
    split at hk
    · rcases t.out k hk with x | x
      · exact h.own E hmem k x
      · refine ⟨?_, .inl (Nat.le_trans h.touch.size x)⟩
        cases hm : m k with
        | none => rfl
        | some o => have := lt_of_get (h.im k o hm); omega
    · exact h.own _ (List.getElem_mem hj) k hk

/-- What is owned may be let go. -/
theorem St.drop (h : St m0 m F w0 w Es) (i : Nat) : St m0 m F w0 w (Es.eraseIdx i) :=
  ⟨h.touch, h.grow, h.im, fun E hE => h.holds E (List.mem_of_mem_eraseIdx hE), h.sep.sublist (List.eraseIdx_sublist ..), fun E hE => h.own E (List.mem_of_mem_eraseIdx hE)⟩

theorem St.keepOnly {l : List Ent} (h : St m0 m F w0 w Es) (hl : List.Sublist l Es) : St m0 m F w0 w l :=
  ⟨h.touch, h.grow, h.im, fun E hE => h.holds E (hl.subset hE), h.sep.sublist hl, fun E hE => h.own E (hl.subset hE)⟩

theorem St.perm {l : List Ent} (h : St m0 m F w0 w Es) (hp : List.Perm Es l) : St m0 m F w0 w l :=
  ⟨h.touch, h.grow, h.im, fun E hE => h.holds E (hp.mem_iff.2 hE), h.sep.perm hp fun hab k hk hk' => hab k hk' hk, fun E hE => h.own E (hp.mem_iff.2 hE)⟩

theorem St.at (h : St m0 m F w0 w Es) {i : Nat} {E : Ent} (hi : Es[i]? = some E) : E.holds w := h.holds E (List.mem_of_getElem? hi)

/-- A block of one's own is set to be unchanging from here on. -/
theorem St.freeze (h : St m0 m F w0 w Es) {i b : Nat} {c : Array Value} {t : TypeId} (hi : Es[i]? = some (blk b c t)) (hb : b ∉ F) :
    ∃ m', Grow m m' w0.heap.size ∧ m' b = some (.cells c t (0, 0)) ∧ St m0 m' F w0 w (Es.eraseIdx i) := by
  have hmem := List.mem_of_getElem? hi
  have ho := h.own _ hmem b (by simp [blk])
  have hB : w0.heap.size ≤ b := ho.2.resolve_right hb
  have hg : Grow m (fun k => if k = b then some (.cells c t (0, 0)) else m k) w0.heap.size := by
    refine ⟨fun k o hk => ?_, fun k o hk => ?_⟩
    · have : k ≠ b := fun e => by rw [e, ho.1] at hk; cases hk
      simp [this, hk]
    · by_cases hkb : k = b
      · exact .inr (hkb ▸ hB)
      · simp [hkb] at hk; exact .inl hk
  refine ⟨_, hg, by simp, ⟨h.touch, h.grow.trans hg (Nat.le_refl _), ?_, (h.drop i).holds, (h.drop i).sep, ?_⟩⟩
  · intro k o hk
    by_cases hkb : k = b
    · subst hkb
      simp at hk
      rw [← hk]
      exact h.at hi
    · simp [hkb] at hk; exact h.im k o hk
  · intro E hE k hk
    have hE' := List.mem_of_mem_eraseIdx hE
    refine ⟨?_, (h.own E hE' k hk).2⟩
    have hne : k ≠ b := by
      intro e
      subst e
      have hlt : i < Es.length := by
        rcases Nat.lt_or_ge i Es.length with h' | h'
        · exact h'
        · rw [List.getElem?_eq_none h'] at hi; cases hi
      have hget : Es[i] = blk k c t := by rw [List.getElem?_eq_getElem hlt] at hi; exact Option.some.inj hi
      obtain ⟨j, hj, hje⟩ := List.getElem_of_mem hE
      rw [List.getElem_eraseIdx] at hje
      have hpw := List.pairwise_iff_getElem.1 h.sep
      split at hje
      · rename_i hji
        have hj' : j < Es.length := by omega
        exact hpw j i hj' hlt hji k (by rw [hje]; exact hk) (by rw [hget]; simp [blk])
      · rename_i hji
        have hj' : j + 1 < Es.length := by rw [List.length_eraseIdx] at hj; split at hj <;> omega
        exact hpw i (j + 1) hlt hj' (by omega) k (by rw [hget]; simp [blk]) (by rw [hje]; exact hk)
    simp [hne, (h.own E hE' k hk).1]


/-- A row of one's own likewise. -/
theorem St.freezeR (h : St m0 m F w0 w Es) {i : Nat} {v : Value} {e size n : Nat} {xs : List Value} (hi : Es[i]? = some (rowE v e size n xs)) (hb : ∀ b ∈ F, v.ownBlock ≠ some b) :
    ∃ m', Grow m m' w0.heap.size ∧ (∀ k o, some k = v.ownBlock → w.heap[k]? = some o → m' k = some o) ∧ St m0 m' F w0 w (Es.eraseIdx i) := by
  rcases (h.at hi).2 with ⟨rfl, _⟩ | ⟨g, cap, cur, rfl, _, hg, _⟩
  · exact ⟨m, Grow.refl _ _, by simp [Value.ownBlock], h.drop i⟩
  · have hF : g ∉ F := fun hgF => hb g hgF rfl
    have st : St m0 m F w0 w (Es.set i (blk g cur e)) := h.step i hi ⟨rfl, rfl, rfl, Nat.le_refl _, fun _ _ _ => rfl, fun k hk => .inl (by simpa [rowE, Value.ownBlock, blk] using hk)⟩ hg
    have hlt : i < Es.length := by
      rcases Nat.lt_or_ge i Es.length with h' | h'
      · exact h'
      · rw [List.getElem?_eq_none h'] at hi; cases hi
    obtain ⟨m', h1, h2, h3⟩ := st.freeze (i := i) (b := g) (c := cur) (t := e) (by simp [hlt]) hF
    refine ⟨m', h1, fun k o hk ho => ?_, ?_⟩
    · simp only [Value.ownBlock, Option.some.injEq] at hk
      subst hk
      rw [hg] at ho
      rw [← ho]
      exact h2
    · have : (Es.set i (blk g cur e)).eraseIdx i = Es.eraseIdx i := by
        rw [List.eraseIdx_set_eq]
      rw [this] at h3
      exact h3

/-- Several pieces as one. -/
def joinE (l : List Ent) : Ent where
  foot := l.flatMap (·.foot)
  holds := fun w => (∀ E ∈ l, E.holds w) ∧ l.Pairwise fun (E E' : Ent) => ∀ k : Nat, k ∈ E.foot → k ∉ E'.foot
  keep := fun {w w'} h hw => ⟨fun E hE => E.keep (fun k hk => h k (List.mem_flatMap.2 ⟨E, hE, hk⟩)) (hw.1 E hE), hw.2⟩
  live := fun hw k hk => by
    obtain ⟨E, hE, hk⟩ := List.mem_flatMap.1 hk
    exact E.live (hw.1 E hE) k hk

theorem mem_joinE {l : List Ent} {k : Nat} : k ∈ (joinE l).foot ↔ ∃ E ∈ l, k ∈ E.foot := List.mem_flatMap

theorem St.split {l : List Ent} (h : St m0 m F w0 w (joinE l :: Es)) : St m0 m F w0 w (l ++ Es) := by
  have hj := h.holds (joinE l) List.mem_cons_self
  have hs := List.pairwise_cons.1 h.sep
  refine ⟨h.touch, h.grow, h.im, ?_, ?_, ?_⟩
  · intro E hE
    rcases List.mem_append.1 hE with hE | hE
    · exact hj.1 E hE
    · exact h.holds E (List.mem_cons_of_mem _ hE)
  · exact List.pairwise_append.2 ⟨hj.2, hs.2, fun E hE E' hE' k hk => hs.1 E' hE' k (mem_joinE.2 ⟨E, hE, hk⟩)⟩
  · intro E hE k hk
    rcases List.mem_append.1 hE with hE | hE
    · exact h.own (joinE l) List.mem_cons_self k (mem_joinE.2 ⟨E, hE, hk⟩)
    · exact h.own E (List.mem_cons_of_mem _ hE) k hk

theorem St.join {l : List Ent} (h : St m0 m F w0 w (l ++ Es)) : St m0 m F w0 w (joinE l :: Es) := by
  have hp := List.pairwise_append.1 h.sep
  refine ⟨h.touch, h.grow, h.im, ?_, ?_, ?_⟩
  · intro E hE
    rcases List.mem_cons.1 hE with rfl | hE
    · exact ⟨fun E hE => h.holds E (List.mem_append.2 (.inl hE)), hp.1⟩
    · exact h.holds E (List.mem_append.2 (.inr hE))
  · refine List.pairwise_cons.2 ⟨fun E' hE' k hk => ?_, hp.2.1⟩
    obtain ⟨E, hE, hk⟩ := mem_joinE.1 hk
    exact hp.2.2 E hE E' hE' k hk
  · intro E hE k hk
    rcases List.mem_cons.1 hE with rfl | hE
    · obtain ⟨E, hE, hk⟩ := mem_joinE.1 hk
      exact h.own E (List.mem_append.2 (.inl hE)) k hk
    · exact h.own E (List.mem_append.2 (.inr hE)) k hk

/-- A call that was handed one piece: it begins. -/
theorem St.begin {l : List Ent} (h : Im m w) (hE : (joinE l).holds w) (hm : ∀ k ∈ (joinE l).foot, m k = none) : St m m (joinE l).foot w w l := by
  have := (St.startE h hE hm).split
  simpa using this

/-- It ends: what it was handed has become this. -/
theorem St.finish {l : List Ent} (h : St m0 m F w0 w (l ++ Es)) : Tch w0 w F (joinE l).foot ∧ (joinE l).holds w := by
  have hj := h.join
  refine ⟨⟨h.touch.os, h.touch.tape, h.touch.output, h.touch.size, h.touch.block, fun k hk => ?_⟩, hj.holds _ List.mem_cons_self⟩
  rcases (hj.own _ List.mem_cons_self k hk).2 with x | x
  · exact .inr x
  · exact .inl x

/-- All of memory, as it is now. -/
def heapM (w : World) : Mem := fun k => w.heap[k]?

theorem im_heapM (w : World) : Im (heapM w) w := fun _ _ h => h

/-- Memory that is new since w. -/
def Fresh (m1 : Mem) (w : World) : Prop := ∀ k o, m1 k = some o → w.heap.size ≤ k

/-- What a call has made, and leaves unchanging, is taken in. -/
theorem St.absorb {m1 : Mem} (h : St m0 m F w0 w Es) (t : Tch w w' [] []) (hf : Fresh m1 w) (hi : Im m1 w') :
    ∃ m', (∀ k o, m k = some o → m' k = some o) ∧ (∀ k o, m1 k = some o → m' k = some o) ∧ St m0 m' F w0 w' Es := by
  have hle : ∀ k o, m k = some o → k < w.heap.size := fun k o hk => lt_of_get (h.im k o hk)
  have h1 : ∀ k o, m1 k = some o → m k = none := fun k o hk => by
    cases hm : m k with
    | none => rfl
    | some o' => have := hle k o' hm; have := hf k o hk; omega
  refine ⟨fun k => (m k).or (m1 k), fun k o hk => by simp [hk], fun k o hk => by simp [hk, h1 k o hk], h.grown ⟨fun k o hk => by simp [hk], fun k o hk => ?_⟩ t ?_⟩
  · rcases Option.or_eq_some_iff.1 hk with x | ⟨_, x⟩
    · exact .inl x
    · exact .inr (hf k o x)
  · intro k o hk
    rcases Option.or_eq_some_iff.1 hk with x | ⟨_, x⟩
    · exact (h.pure t).im k o x
    · exact hi k o x

/-- What one made oneself is new, for whoever called. -/
theorem St.fresh (h : St m0 m F w0 w Es) : ∃ m1, Fresh m1 w0 ∧ Im m1 w ∧ ∀ k o, m k = some o → m0 k = none → m1 k = some o := by
  refine ⟨fun k => if m0 k = none then m k else none, fun k o hk => ?_, fun k o hk => ?_, fun k o hk hn => by simp [hk, hn]⟩
  · by_cases hn : m0 k = none
    · simp only [hn, if_true] at hk
      rcases h.grow.new k o hk with x | x
      · rw [hn] at x; cases x
      · exact x
    · simp [hn] at hk
  · by_cases hn : m0 k = none
    · simp only [hn, if_true] at hk
      exact h.im k o hk
    · simp [hn] at hk

/-- Beside the unchanging part one block of one's own, for a call that only reads it. -/
theorem St.lend (h : St m0 m F w0 w Es) {i b : Nat} {c : Array Value} {t : TypeId} (hi : Es[i]? = some (blk b c t)) :
    ∃ m', Im m' w ∧ (∀ k o, m k = some o → m' k = some o) ∧ m' b = some (.cells c t (0, 0)) ∧ ∀ j E, j ≠ i → Es[j]? = some E → ∀ k ∈ E.foot, m' k = none := by
  have hmem := List.mem_of_getElem? hi
  have hob := (h.own _ hmem b (by simp [blk])).1
  refine ⟨fun k => if k = b then some (.cells c t (0, 0)) else m k, fun k o hk => ?_, fun k o hk => ?_, by simp, fun j E hj hE k hk => ?_⟩
  · by_cases e : k = b
    · subst e
      simp at hk
      rw [← hk]
      exact h.at hi
    · simp [e] at hk; exact h.im k o hk
  · have : k ≠ b := fun e => by rw [e, hob] at hk; cases hk
    simp [this, hk]
  · have hne : k ≠ b := by
      intro e
      subst e
      have hlt : ∀ {q : Nat} {X : Ent}, Es[q]? = some X → ∃ hq : q < Es.length, Es[q] = X := fun {q X} hq => by
        rcases Nat.lt_or_ge q Es.length with h' | h'
        · exact ⟨h', by rw [List.getElem?_eq_getElem h'] at hq; exact Option.some.inj hq⟩
        · rw [List.getElem?_eq_none h'] at hq; cases hq
      obtain ⟨h1, e1⟩ := hlt hi
      obtain ⟨h2, e2⟩ := hlt hE
      have hpw := List.pairwise_iff_getElem.1 h.sep
      rcases Nat.lt_or_gt_of_ne hj with hji | hji
      · exact hpw j i h2 h1 hji k (by rw [e2]; exact hk) (by rw [e1]; simp [blk])
      · exact hpw i j h1 h2 hji k (by rw [e1]; simp [blk]) (by rw [e2]; exact hk)
    simp [hne, (h.own E (List.mem_of_getElem? hE) k hk).1]

end St

end K
end Go.Proofs.Ytkbmhhbclbgdpaa
