/-
  append, copy, '==' of arrays; what is read of the unchanging part of memory.
-/
import Derived.Test.YtkbmhhbclbgdpaaW
namespace Go.Proofs.Ytkbmhhbclbgdpaa
open Go Go.RowKit
namespace K

/-- What is appended: so many elements, with these cells. -/
structure Src (P : Program) (w : World) (v : Value) (size k : Nat) (news : List Value) : Prop where
  len : ∀ w', (Builtin.lenOf v).run P w' = .ok k w'
  part : ∀ w' j, j ≤ k → w'.heap = w.heap → (Builtin.firstCells size j v).run P w' = .ok (news.take (j * size)).toArray w'
  length : news.length = k * size
  one : ∀ u ∈ news, u.oneCell' = true

section
variable {P : Program} {w : World}

theorem cell_heap {w' : World} (h : w'.heap = w.heap) (a : Addr) : w'.cell? a = w.cell? a := by simp [World.cell?, h]

theorem Src.cells {v : Value} {size k : Nat} {news : List Value} (h : Src P w v size k news) (w' : World) (hw : w'.heap = w.heap) : (Builtin.firstCells size k v).run P w' = .ok news.toArray w' := by
  have := h.part w' k (Nat.le_refl _) hw
  rw [List.take_of_length_le (by rw [h.length]; exact Nat.le_refl _)] at this
  exact this

theorem Src.slice {a : Addr} {k c size : Nat} {news : List Value} (hl : news.length = k * size) (h : ∀ j u, news[j]? = some u → w.cell? (a.add j) = some u) (h1 : ∀ u ∈ news, u.oneCell' = true) : Src P w (.slice (some a) k c) size k news := by
  refine ⟨fun _ => rfl, fun w' j hj hw => ?_, hl, h1⟩
  refine run_firstCells_some (P := P) w' size j a k c _ (by rw [List.length_take, hl]; exact Nat.min_eq_left (Nat.mul_le_mul_right _ hj)) fun i u hu => ?_
  rw [cell_heap hw]
  rw [List.getElem?_take] at hu
  split at hu
  · exact h i u hu
  · cases hu

theorem Src.nil {size c : Nat} : Src P w (.slice none 0 c) size 0 [] :=
  ⟨fun _ => rfl, fun w' j hj _ => by obtain rfl : j = 0 := by omega
                                     simp [Builtin.firstCells], by simp, by simp⟩

theorem Src.str (s : ByteArray) : Src P w (.string s) 1 s.size (s.data.toList.map fun b => Value.int .u8 b.toNat) :=
  ⟨fun _ => rfl, fun w' j _ _ => by
    simp only [Builtin.firstCells, Sem.run_pure]
    congr 1
    apply Array.toList_inj.mp
    rw [Array.toList_map, ByteArray.data_extract, Array.toList_extract]
    simp [List.extract], by rw [List.length_map, Array.length_toList, Nat.mul_one]; rfl, by
    intro u hu
    obtain ⟨b, _, rfl⟩ := List.mem_map.1 hu
    rfl⟩

theorem run_append_gen {T U E ty : TypeId} {D : TypeDesc} {agg : Bool} {size bytes : Nat} {z : Value} (hT : P.underlying T = some (.slice E)) (hU : P.underlying U = some D) (hD : D = .string ∨ ∃ E', D = .slice E')
    (tf : TyF P E agg size bytes) (hz : TyZ P E z) {base : Option Addr} {sLen sCap k : Nat} {x : Value} {olds news : List Value}
    (hold : ∀ w', w'.heap = w.heap → (Builtin.firstCells size sLen (.slice base sLen sCap)).run P w' = .ok olds.toArray w') (src : Src P w x size k news)
    (hg : sCap < sLen + k) (h63 : sLen + k ≤ 9223372036854775807) (hb : (sLen + k) * bytes ≤ 140737488355328) :
    ∃ cap, sLen + k ≤ cap ∧ cap ≤ 9223372036854775807 ∧ (Builtin.append_ #[T, U] ty #[.slice base sLen sCap, x]).run P w =
      .ok (.slice (some ⟨w.heap.size, 0, none⟩) (sLen + k) cap) (w.drew.alloc (.cells (olds.toArray ++ news.toArray ++ Builtin.zeroCells z.cells (cap - (sLen + k))) E)) := by
  obtain ⟨i, hi, hsz, hby⟩ := tf.info
  obtain ⟨i', hi', hz'⟩ := hz
  rw [hi] at hi'
  obtain rfl := Option.some.inj hi'
  subst hsz
  subst hby
  have hn : ¬ (sLen + k ≤ sCap) := by omega
  have h63' : ¬ (9223372036854775807 < ((sLen : Int) + (k : Int))) := by omega
  have h48 : ¬ (281474976710656 < Builtin.nextslicecap (sLen + k) sCap * i.bytes) := by
    have := growslice_fits (need := sLen + k) (old := sCap) hg hb
    omega
  have hs0 := src.cells w.drew rfl
  refine ⟨grownCap w (sLen + k) sCap E, grownCap_ge w _ _ _, by have := grownCap_le_maxLen w (sLen + k) sCap E (by unfold maxLen; omega); unfold maxLen at this; omega, ?_⟩
  rcases hD with rfl | ⟨E', rfl⟩ <;>
    simp [Builtin.append_, run_underlying hT, run_underlying hU, sizeOf, typeInfo, hi, src.len, hn, h63', h48, hold w.drew rfl, hs0, zeroValue, hz', newRow, grownCap, Question.forced]
  all_goals
    congr 2
    apply Array.ext'
    simp [List.append_assoc]


theorem run_append_fit {T U E ty : TypeId} {D : TypeDesc} {agg : Bool} {size bytes : Nat} (hT : P.underlying T = some (.slice E)) (hU : P.underlying U = some D) (hD : D = .string ∨ ∃ E', D = .slice E')
    (tf : TyF P E agg size bytes) {g sLen sCap k : Nat} {x : Value} {news : List Value} {cur : Array Value} {t : TypeId} (hh : w.heap[g]? = some (.cells cur t (0, 0))) (src : Src P w x size k news)
    (hg : sLen + k ≤ sCap) (hfit : (sLen + k) * size ≤ cur.size) :
    (Builtin.append_ #[T, U] ty #[.slice (some ⟨g, 0, none⟩) sLen sCap, x]).run P w = .ok (.slice (some ⟨g, 0, none⟩) (sLen + k) sCap) (w.setRow g (setSeg cur (sLen * size) news)) := by
  obtain ⟨i, hi, hsz, hby⟩ := tf.info
  subst hsz
  have hst := run_storeCells_at P g (sLen * i.size) t news 0 cur w hh (by rw [src.length, Nat.add_zero, ← Nat.add_mul]; exact hfit) src.one
  simp only [Nat.add_zero] at hst
  rcases hD with rfl | ⟨E', rfl⟩ <;>
    simp [Builtin.append_, run_underlying hT, run_underlying hU, sizeOf, typeInfo, hi, src.len, hg, src.cells w rfl, Addr.add_lit, hst, setSeg]

theorem run_append_none {T U E ty : TypeId} {D : TypeDesc} {agg : Bool} {size bytes : Nat} (hT : P.underlying T = some (.slice E)) (hU : P.underlying U = some D) (hD : D = .string ∨ ∃ E', D = .slice E')
    (tf : TyF P E agg size bytes) {x : Value} (src : Src P w x size 0 []) : (Builtin.append_ #[T, U] ty #[.slice none 0 0, x]).run P w = .ok (.slice none 0 0) w := by
  obtain ⟨i, hi, hsz, hby⟩ := tf.info
  subst hsz
  rcases hD with rfl | ⟨E', rfl⟩ <;>
    simp [Builtin.append_, run_underlying hT, run_underlying hU, sizeOf, typeInfo, hi, src.len, src.cells w rfl]

/-- append onto a slice of one's own. -/
theorem append_own {T U E ty : TypeId} {D : TypeDesc} {agg : Bool} {size bytes : Nat} {z : Value} (hT : P.underlying T = some (.slice E)) (hU : P.underlying U = some D) (hD : D = .string ∨ ∃ E', D = .slice E')
    (tf : TyF P E agg size bytes) (hz : TyZ P E z) (hzs : z.cells.size = size) {v x : Value} {n k : Nat} {xs news : List Value} (hown : (rowE v E size n xs).holds w) (src : Src P w x size k news)
    (h63 : n + k ≤ 9223372036854775807) (hb : (n + k) * bytes ≤ 140737488355328) :
    ∃ v' w', (Builtin.append_ #[T, U] ty #[v, x]).run P w = .ok v' w' ∧ (rowE v' E size (n + k) (xs ++ news)).holds w' ∧ Tch w w' (rowE v E size n xs).foot (rowE v' E size (n + k) (xs ++ news)).foot ∧
      (v' = .slice none 0 0 ↔ v = .slice none 0 0 ∧ k = 0) := by
  have hlen : (xs ++ news).length = (n + k) * size := by rw [List.length_append, hown.1, src.length, Nat.add_mul]
  have grown : ∀ cap, n + k ≤ cap → cap ≤ 9223372036854775807 →
      (rowE (.slice (some ⟨w.heap.size, 0, none⟩) (n + k) cap) E size (n + k) (xs ++ news)).holds (w.drew.alloc (.cells (xs.toArray ++ news.toArray ++ Builtin.zeroCells z.cells (cap - (n + k))) E)) := by
    intro cap h1 h2
    refine ⟨hlen, .inr ⟨w.heap.size, cap, _, rfl, Nat.zero_le _, heap_alloc_new w.drew _, h1, h2, ?_, ?_⟩⟩
    · simp only [Array.size_append, List.size_toArray, size_zeroCells, hzs, hown.1, src.length, ← Nat.add_mul]
      congr 1
      omega
    · simp only [Array.toList_append, List.append_assoc]
      rw [← List.append_assoc, ← hlen]
      exact List.take_left
  have tgrown : ∀ (o : Obj) (A : List Nat), Tch w (w.drew.alloc o) A [w.heap.size] := fun o A =>
    ⟨rfl, rfl, rfl, by simp, fun j hj _ => heap_alloc_old w.drew o hj, fun j hj => .inr (by simp at hj; omega)⟩
  rcases hown.2 with ⟨rfl, rfl⟩ | ⟨g, cap, cur, rfl, _, hh, hnc, hcm, hcs, htake⟩
  · have hx : xs = [] := List.eq_nil_of_length_eq_zero (by simpa using hown.1)
    subst hx
    by_cases hk : k = 0
    · subst hk
      have hn : news = [] := List.eq_nil_of_length_eq_zero (by simpa using src.length)
      subst hn
      exact ⟨.slice none 0 0, w, run_append_none hT hU hD tf src, hown, Tch.refl _ _, by simp⟩
    · obtain ⟨cap, h1, h2, h3⟩ := run_append_gen (ty := ty) (base := none) (sLen := 0) (sCap := 0) (olds := []) hT hU hD tf hz (fun w' _ => by simp [Builtin.firstCells]) src (by omega) (by omega) (by simpa using hb)
      exact ⟨_, _, h3, grown cap h1 h2, tgrown _ _, by simp [hk]⟩
  · by_cases hroom : n + k ≤ cap
    · have hfit : (n + k) * size ≤ cur.size := by rw [hcs]; exact Nat.mul_le_mul_right _ hroom
      have hr := run_append_fit (ty := ty) hT hU hD tf hh src hroom hfit
      refine ⟨_, _, hr, ⟨hlen, .inr ⟨g, cap, _, rfl, Nat.zero_le _, setRow_heap w g cur _ E _ hh, hroom, hcm, ?_, ?_⟩⟩, touch_setRow w g _, by simp⟩
      · rw [size_setSeg (by rw [src.length, ← Nat.add_mul]; exact hfit), hcs]
      · simp only [setSeg, List.take_append, htake]
        rw [Nat.add_mul] at hfit ⊢
        simp [src.length, hown.1, htake, List.take_of_length_le]
    · have holds : ∀ j u, xs[j]? = some u → w.cell? ((⟨g, 0, none⟩ : Addr).add j) = some u := World.ownsRow.cells hown (g := g) rfl
      obtain ⟨cap', h1, h2, h3⟩ := run_append_gen (ty := ty) (base := some ⟨g, 0, none⟩) (sLen := n) (sCap := cap) (olds := xs) hT hU hD tf hz
        (fun w' hw => run_firstCells_some (P := P) w' size n ⟨g, 0, none⟩ n cap xs hown.1 fun j u hu => by rw [cell_heap hw]; exact holds j u hu) src (by omega) h63 hb
      exact ⟨_, _, h3, grown cap' h1 h2, tgrown _ _, by simp⟩

end

section
variable {P : Program} {n : Nat} {ops : Array Oper} {Q : Po} {r : Fr} {w w0 : World} {rest : List Oper} {d : Nat} {ty : TypeId} {pos : String} {after : Array Edge} {m0 m : Mem} {F : List Nat} {Es : List Ent}

theorem wl_append (i : Nat) {T U E : TypeId} {D : TypeDesc} {agg : Bool} {size bytes : Nat} {z v x : Value} {s y : Operand} {k j : Nat} {xs news : List Value} (st : St m0 m F w0 w Es) (hi : Es[i]? = some (rowE v E size k xs))
    (hT : P.underlying T = some (.slice E)) (hU : P.underlying U = some D) (hD : D = .string ∨ ∃ E', D = .slice E') (tf : TyF P E agg size bytes) (hz : TyZ P E z) (hzs : z.cells.size = size)
    (hs : ev r s = v) (hy : ev r y = x) (src : Src P w x size j news) (h63 : k + j ≤ 9223372036854775807) (hb : (k + j) * bytes ≤ 140737488355328) (hd : Nat.blt d n = true)
    (kk : ∀ v' w', (v' = .slice none 0 0 ↔ v = .slice none 0 0 ∧ j = 0) → St m0 m F w0 w' (Es.set i (rowE v' E size (k + j) (xs ++ news))) → WL P n ops Q rest (upd d v' r) w') :
    WL P n ops Q (⟨some d, .call ⟨.builtin .append, #[s, y], #[T, U]⟩, ty, pos, after, none⟩ :: rest) r w := by
  obtain ⟨v', w', h1, h2, h3, h4⟩ := append_own (ty := ty) hT hU hD tf hz hzs (st.at hi) src h63 hb
  refine wl_val (v := v') (w' := w') ?_ hd (kk v' w' h4 (st.step i hi h3 h2))
  intro _ _ _ _
  simp [execOp, resolve, invoke, builtin, hs, hy, h1]

/-- copy into a block of one's own. -/
theorem wl_copy (i : Nat) {T U E : TypeId} {agg : Bool} {size bytes : Nat} {x : Value} {s y : Operand} {b off len cap j : Nat} {c : Array Value} {t : TypeId} {news : List Value} (st : St m0 m F w0 w Es) (hi : Es[i]? = some (blk b c t))
    (hT : P.underlying T = some (.slice E)) (tf : TyF P E agg size bytes) (hs : ev r s = .slice (some ⟨b, off, none⟩) len cap) (hy : ev r y = x) (src : Src P w x size j news)
    (hfit : off + min j len * size ≤ c.size) (hd : Nat.blt d n = true)
    (kk : ∀ w', St m0 m F w0 w' (Es.set i (blk b (setSeg c off (news.take (min j len * size))) t)) → WL P n ops Q rest (upd d (.int .i64 (min j len : Nat)) r) w') :
    WL P n ops Q (⟨some d, .call ⟨.builtin .copy, #[s, y], #[T, U]⟩, ty, pos, after, none⟩ :: rest) r w := by
  have hb := st.at hi
  have hp := src.part w (min j len) (Nat.min_le_left _ _) rfl
  have hone : ∀ u ∈ news.take (min j len * size), u.oneCell' = true := fun u hu => src.one u (List.mem_of_mem_take hu)
  have hl : (news.take (min j len * size)).length = min j len * size := by rw [List.length_take, src.length]; exact Nat.min_eq_left (Nat.mul_le_mul_right _ (Nat.min_le_left _ _))
  have hst := run_storeCells_at P b off t (news.take (min j len * size)) 0 c w hb (by rw [hl]; exact hfit) hone
  simp only [Nat.add_zero] at hst
  refine wl_val (v := .int .i64 (min j len : Nat)) (w' := w.setRow b (setSeg c off (news.take (min j len * size)))) ?_ hd (kk _ (st.step i hi (touch_setRow w b _) (setRow_heap w b c _ t _ hb)))
  intro _ _ _ _
  have hm : Nat.min j len = min j len := rfl
  simp only [execOp, resolve, invoke, builtin, List.map_toArray, List.map_cons, List.map_nil, hs, hy, Builtin.copy_, Sem.run_bind, Sem.run_pure, Result.andThen_ok]
  simp [run_underlying hT, src.len, tf.sz, hm, hp, hst, goInt, setSeg]

end
end K
end Go.Proofs.Ytkbmhhbclbgdpaa
