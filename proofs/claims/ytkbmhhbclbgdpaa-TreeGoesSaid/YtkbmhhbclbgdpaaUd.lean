/-
  Lists of digests, how they lie; the tree of such lists; the reference's half.
-/
import Derived.Test.YtkbmhhbclbgdpaaUc
namespace Go.Proofs.Ytkbmhhbclbgdpaa
open Go Go.RowKit K SH PT

def digs (L : List By) : List Value := L.flatMap bs
def D32 (L : List By) : Prop := ∀ x ∈ L, x.length = 32

theorem length_digs : ∀ {L : List By}, D32 L → (digs L).length = L.length * 32
  | [], _ => rfl
  | x :: L, h => by
    have h1 := h x (by simp)
    have h2 := length_digs (L := L) fun y hy => h y (by simp [hy])
    simp only [digs, List.flatMap_cons, List.length_append, length_bs, List.length_cons] at h2 ⊢
    omega

theorem one_digs (L : List By) : ∀ u ∈ digs L, u.oneCell' = true := by
  intro u hu
  obtain ⟨x, _, hx⟩ := List.mem_flatMap.1 hu
  exact one_bs x u hx

theorem D32.app {L M : List By} (h : D32 L) (h' : D32 M) : D32 (L ++ M) := fun x hx => (List.mem_append.1 hx).elim (h x) (h' x)
theorem D32.one {d : By} (h : d.length = 32) : D32 [d] := fun x hx => by simp at hx; rw [hx, h]
theorem D32.take {L : List By} (h : D32 L) (i : Nat) : D32 (L.take i) := fun x hx => h x (List.mem_of_mem_take hx)
theorem D32.get {L : List By} (h : D32 L) {i : Nat} (hi : i < L.length) : L[i].length = 32 := h _ (List.getElem_mem hi)
theorem digs_app {L M : List By} : digs (L ++ M) = digs L ++ digs M := by simp [digs]
theorem digs_one {d : By} : digs [d] = bs d := by simp [digs]

theorem cells_digs : ∀ {L : List By}, D32 L → ∀ {i : Nat} (hi : i < L.length), cellsAt (digs L) 32 i = bs L[i]
  | [], _, _, hi => by simp at hi
  | x :: L, h, 0, _ => by
    have h1 := h x (by simp)
    simp only [cellsAt, digs, List.flatMap_cons, Nat.zero_mul, List.drop_zero, List.getElem_cons_zero]
    rw [List.take_left' (by rw [length_bs, h1])]
  | x :: L, h, i + 1, hi => by
    have h1 := h x (by simp)
    have h2 := cells_digs (L := L) (fun y hy => h y (by simp [hy])) (i := i) (by simp at hi; omega)
    rw [List.getElem_cons_succ, ← h2]
    simp only [cellsAt, digs, List.flatMap_cons]
    rw [show (i + 1) * 32 = (bs x).length + i * 32 by rw [length_bs, h1]; omega, List.drop_append, List.drop_eq_nil_of_le (by omega), List.nil_append, Nat.add_sub_cancel_left]

/-- A slice of digests lies there. -/
def DigM (m : Mem) (v : Value) (L : List By) : Prop := D32 L ∧ SlM m v 32 L.length (digs L)

theorem DigM.mono {m m' : Mem} {v : Value} {L : List By} (h : DigM m v L) (hm : ∀ k o, m k = some o → m' k = some o) : DigM m' v L := ⟨h.1, h.2.mono hm⟩
theorem DigM.nil {m : Mem} : DigM m (.slice none 0 0) [] := ⟨fun _ h => (by simp at h), SlM.nil⟩
theorem DigM.sl {m : Mem} {v : Value} {L : List By} (h : DigM m v L) : ∃ a cap, v = .slice a L.length cap := by
  obtain ⟨_, _, a, cap, rfl, _⟩ := h
  exact ⟨a, cap, rfl⟩

theorem DigM.at {m : Mem} {a : Option Addr} {k cap : Nat} {L : List By} (h : DigM m (.slice a k cap) L) {i : Nat} (hi : i < L.length) :
    ∃ b o, a = some ⟨b, o, none⟩ ∧ ∀ {w : World} (_ : Im m w), Reads Try.prog w 24 ⟨b, o + i * 32, none⟩ (arr L[i]) := by
  obtain ⟨b, o, cap', hv, _, hr⟩ := h.2.elem Try.prog (i := i) hi (by omega)
  simp only [Value.slice.injEq] at hv
  refine ⟨b, o, hv.1, fun {w} him => ?_⟩
  have := hr him (off := 0) (v' := arr L[i]) TF.t24 (by
    rw [cells_digs h.1 hi]
    exact getV_all (by simp [length_bs, h.1.get hi]))
  simpa using this

abbrev digE (v : Value) (L : List By) : Ent := rowE v 24 32 L.length (digs L)

section
variable {n : Nat} {ops : Array Oper} {Q : Po} {rest : List Oper} {r : Fr} {w : World} {d : Nat} {ty : TypeId} {pos : String} {after : Array Edge} {m0 m : Mem} {F : List Nat} {w0 : World} {Es : List Ent}

theorem wl_digOne {x : Operand} (c : By) (hc : c.length = 32) (hx : ev r x = arr c) (st : St m0 m F w0 w Es) (hd : Nat.blt d n = true)
    (k : ∀ b w', St m0 m F w0 w' (K.blk b (bs c).toArray 24 :: Es) → WL Try.prog n ops Q rest (upd d (.slice (some ⟨b, 0, none⟩) 1 1) r) w') :
    WL Try.prog n ops Q (⟨some d, .buildSlice 22 1 #[(0, x)], ty, pos, after, none⟩ :: rest) r w := by
  refine wl_buildSlice (c' := (bs c).toArray) [(0, arr c)] Try.underlying22 TF.t24 TF.z24 (by decide) (by decide) (by simp [hx]) ⟨0, 32, rfl, by rw [size_arr, hc], by simp [size_madeCells], ?_⟩ st hd k
  exact setSeg_all (by simp [size_madeCells, arr, Value.cells, length_bs, hc])

/-- One digest appended to a row of one's own. -/
theorem wl_digApp (i : Nat) {b cap : Nat} {v : Value} {s y : Operand} {L : List By} {c : By} (st : St m0 m F w0 w (K.blk b (bs c).toArray 24 :: Es)) (hi : Es[i]? = some (digE v L)) (hc : c.length = 32)
    (hs : ev r s = v) (hy : ev r y = .slice (some ⟨b, 0, none⟩) 1 cap) (hb : L.length ≤ 1099511627776) (hd : Nat.blt d n = true)
    (k : ∀ v' w', St m0 m F w0 w' (Es.set i (digE v' (L ++ [c]))) → v'.oneCell' = true → WL Try.prog n ops Q rest (upd d v' r) w') :
    WL Try.prog n ops Q (⟨some d, .call ⟨.builtin .append, #[s, y], #[22, 22]⟩, ty, pos, after, none⟩ :: rest) r w := by
  refine wl_append (news := bs c) (i + 1) st hi Try.underlying22 Try.underlying22 (.inr ⟨_, rfl⟩) TF.t24 TF.z24 rfl hs hy (st.srcArr (off := 0) 0 rfl (by rw [length_bs, hc]) (fun j u hj => by simpa using hj) (one_bs _)) (by omega) (by omega) hd ?_
  intro v' w' _ st'
  have e : digs L ++ bs c = digs (L ++ [c]) := by rw [digs_app, digs_one]
  have e2 : L.length + 1 = (L ++ [c]).length := by simp
  have st2 := st'.drop 0
  rw [e, e2] at st2
  have st3 : St m0 m F w0 w' (Es.set i (digE v' (L ++ [c]))) := st2
  have hlt : i < Es.length := by
    rcases Nat.lt_or_ge i Es.length with h | h
    · exact h
    · rw [List.getElem?_eq_none h] at hi; cases hi
  have hrow : (digE v' (L ++ [c])).holds w' := st3.at (i := i) (by simp [hlt])
  exact k v' w' st3 (row_one hrow)

theorem K.St.nilDig (st : St m0 m F w0 w Es) : St m0 m F w0 w (digE (.slice Option.none 0 0) [] :: Es) := nilRow st 24 32

/-- Such a row, for ever. -/
theorem K.St.keepDig (st : St m0 m [] w0 w Es) {i : Nat} {v : Value} {L : List By} (hi : Es[i]? = some (digE v L)) (hL : D32 L) :
    ∃ m', Grow m m' w0.heap.size ∧ DigM m' v L ∧ St m0 m' [] w0 w (Es.eraseIdx i) := by
  obtain ⟨m2, hg2, hm2, st2⟩ := st.freezeR hi (by simp)
  exact ⟨m2, hg2, ⟨hL, row_SlM (m := m2) (st.at hi) hm2⟩, st2⟩
end

/-- The reference's leaves lie there. -/
def LvM (m : Mem) (v : Value) (L : List (By × By)) : Prop := ∃ va vv, v = .agg #[va, vv] ∧ DigM m va (L.map (·.1)) ∧ DigM m vv (L.map (·.2))

theorem LvM.mono {m m' : Mem} {v : Value} {L : List (By × By)} (h : LvM m v L) (hm : ∀ k o, m k = some o → m' k = some o) : LvM m' v L := by
  obtain ⟨a, b, h1, h2, h3⟩ := h
  exact ⟨a, b, h1, h2.mono hm, h3.mono hm⟩

/-- The leaves, opened. -/
theorem LvM.open {m : Mem} {v : Value} {L : List (By × By)} (h : LvM m v L) : ∃ a1 c1 a2 c2, v = .agg #[.slice a1 L.length c1, .slice a2 L.length c2] ∧ DigM m (.slice a1 L.length c1) (L.map (·.1)) ∧ DigM m (.slice a2 L.length c2) (L.map (·.2)) := by
  obtain ⟨va, vv, rfl, h1, h2⟩ := h
  obtain ⟨a1, c1, rfl⟩ := h1.sl
  obtain ⟨a2, c2, rfl⟩ := h2.sl
  rw [List.length_map] at h1 h2 ⊢
  exact ⟨a1, c1, a2, c2, by rw [List.length_map], h1, h2⟩

theorem DigM.rd {m : Mem} {a : Option Addr} {k cap : Nat} {L : List By} (h : DigM m (.slice a k cap) L) {b o i : Nat} {d : By} (ha : a = some ⟨b, o, none⟩) (hi : i < L.length) (hd : L[i] = d) {w : World} (him : Im m w) :
    Reads Try.prog w 24 ⟨b, o + i * 32, none⟩ (arr d) := by
  obtain ⟨b', o', ha', hr⟩ := h.at hi
  rw [ha] at ha'
  cases ha'
  rw [← hd]
  exact hr him

theorem DigM.ptr {m : Mem} {a : Option Addr} {k cap : Nat} {L : List By} (h : DigM m (.slice a k cap) L) (hi : 0 < L.length) : ∃ b o, a = some ⟨b, o, none⟩ := by
  obtain ⟨b, o, ha, _⟩ := h.at hi
  exact ⟨b, o, ha⟩
end Go.Proofs.Ytkbmhhbclbgdpaa
