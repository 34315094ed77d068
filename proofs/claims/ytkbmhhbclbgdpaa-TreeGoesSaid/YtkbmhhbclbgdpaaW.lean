/-
  What each operation that makes or writes memory does to what is owned.
-/
import Derived.Test.YtkbmhhbclbgdpaaO
import Derived.ChangeKeysEq
import Derived.Laws.MakeOwn
namespace Go.Proofs.Ytkbmhhbclbgdpaa
open Go Go.RowKit
namespace K

theorem touch_alloc (w : World) (o : Obj) : Tch w (w.alloc o) [] [w.heap.size] :=
  ⟨rfl, rfl, rfl, by simp, fun k hk _ => heap_alloc_old w o hk, fun k hk => .inr (by simp at hk; omega)⟩

theorem touch_drew (w : World) : Tch w w.drew [] [] := ⟨rfl, rfl, rfl, Nat.le_refl _, fun _ _ _ => rfl, fun _ h => .inl h⟩

theorem touch_setRow (w : World) (g : Nat) (cs : Array Value) : Tch w (w.setRow g cs) [g] [g] :=
  ⟨rfl, rfl, rfl, by simp, fun k _ hk => setRow_other w g k cs (by simpa using hk), fun k hk => .inl hk⟩

def setSeg (c : Array Value) (o : Nat) (l : List Value) : Array Value := (c.toList.take o ++ l ++ c.toList.drop (o + l.length)).toArray

theorem size_setSeg {c : Array Value} {o : Nat} {l : List Value} (h : o + l.length ≤ c.size) : (setSeg c o l).size = c.size := by
  simp [setSeg]; omega

section wl
variable {P : Program} {n : Nat} {ops : Array Oper} {Q : Po} {r : Fr} {w w0 : World} {rest : List Oper} {d : Nat} {ty : TypeId} {pos : String} {after : Array Edge} {m0 m : Mem} {F : List Nat} {Es : List Ent}

theorem wl_alloc {T : TypeId} {z : Value} (hz : TyZ P T z) (st : St m0 m F w0 w Es) (hd : Nat.blt d n = true)
    (k : ∀ b w', St m0 m F w0 w' (blk b z.cells T :: Es) → WL P n ops Q rest (upd d (.pointer (some ⟨b, 0, none⟩)) r) w') :
    WL P n ops Q (⟨some d, .alloc T, ty, pos, after, none⟩ :: rest) r w := by
  refine wl_val (v := .pointer (some ⟨w.heap.size, 0, none⟩)) (w' := w.alloc (.cells z.cells T)) ?_ hd (k _ _ (st.new (E := blk w.heap.size z.cells T) (touch_alloc w _) (heap_alloc_new w _)))
  intro _ _ _ _
  simp [execOp, Instr.alloc, hz.run, newVar, newRow]

theorem wl_box {T : TypeId} {x : Operand} {v : Value} (hx : ev r x = v) (st : St m0 m F w0 w Es) (hd : Nat.blt d n = true)
    (k : ∀ b w', St m0 m F w0 w' (blk b v.cells T :: Es) → WL P n ops Q rest (upd d (.pointer (some ⟨b, 0, none⟩)) r) w') :
    WL P n ops Q (⟨some d, .box T x, ty, pos, after, none⟩ :: rest) r w := by
  refine wl_val (v := .pointer (some ⟨w.heap.size, 0, none⟩)) (w' := w.alloc (.cells v.cells T)) ?_ hd (k _ _ (st.new (E := blk w.heap.size v.cells T) (touch_alloc w _) (heap_alloc_new w _)))
  intro _ _ _ _
  simp [execOp, Instr.box, newVar, newRow, hx]

theorem run_store_seg {w : World} {b off size bytes : Nat} {T : TypeId} {agg : Bool} {c : Array Value} {t : TypeId} {v : Value} (tf : TyF P T agg size bytes) (h : w.heap[b]? = some (.cells c t (0, 0)))
    (hs : v.cells.size = size) (hone : ∀ u ∈ v.cells.toList, u.oneCell' = true) (hfit : off + size ≤ c.size) :
    (storeVar T ⟨b, off, none⟩ v).run P w = .ok () (w.setRow b (setSeg c off v.cells.toList)) := by
  have hst := run_storeCells_at P b off t v.cells.toList 0 c w h (by simp [hs]; omega) hone
  simp only [Nat.add_zero] at hst
  simp [storeVar, tf.sz, hs, hst, setSeg]

/-- A store into a block of one's own. -/
theorem wl_store (i : Nat) {b off size bytes : Nat} {T t : TypeId} {agg : Bool} {c : Array Value} {x y : Operand} {v : Value} (st : St m0 m F w0 w Es) (hi : Es[i]? = some (blk b c t)) (tf : TyF P T agg size bytes)
    (hx : ev r x = .pointer (some ⟨b, off, none⟩)) (hy : ev r y = v) (hs : v.cells.size = size) (hone : ∀ u ∈ v.cells.toList, u.oneCell' = true) (hfit : off + size ≤ c.size)
    (k : ∀ w', St m0 m F w0 w' (Es.set i (blk b (setSeg c off v.cells.toList) t)) → WL P n ops Q rest r w') :
    WL P n ops Q (⟨none, .store T x y, ty, pos, after, none⟩ :: rest) r w := by
  have hb := st.at hi
  refine wl_eff (w' := w.setRow b (setSeg c off v.cells.toList)) ?_ (k _ (st.step i hi (touch_setRow w b _) (setRow_heap w b c _ t _ hb)))
  intro _ _ _ _
  have := run_store_seg (P := P) tf hb hs hone hfit
  simp [execOp, Instr.storeAt, Instr.sureAddr, hx, hy, this]

theorem setSeg_one {c : Array Value} {o : Nat} {v : Value} (h : o < c.size) : setSeg c o [v] = c.setIfInBounds o v := by
  apply Array.toList_inj.mp
  rw [Array.toList_setIfInBounds]
  simp only [setSeg, List.length_singleton]
  rw [List.set_eq_take_append_cons_drop, if_pos (by simpa using h)]
  simp

/-- A store of one cell. -/
theorem wl_store1 (i : Nat) {b off bytes : Nat} {T t : TypeId} {c : Array Value} {x y : Operand} {v : Value} (st : St m0 m F w0 w Es) (hi : Es[i]? = some (blk b c t)) (tf : TyF P T false 1 bytes)
    (hx : ev r x = .pointer (some ⟨b, off, none⟩)) (hy : ev r y = v) (hone : v.oneCell' = true) (hfit : off < c.size)
    (k : ∀ w', St m0 m F w0 w' (Es.set i (blk b (c.setIfInBounds off v) t)) → WL P n ops Q rest r w') :
    WL P n ops Q (⟨none, .store T x y, ty, pos, after, none⟩ :: rest) r w := by
  have hc : v.cells = #[v] := by cases v <;> first | rfl | (simp [Value.oneCell'] at hone)
  refine wl_store i st hi tf hx hy (by rw [hc]; rfl) (by rw [hc]; simpa using hone) hfit (fun w' h => ?_)
  rw [hc, setSeg_one hfit] at h
  exact k w' h

/-- A store of a whole variable of many cells. -/
theorem wl_storeW (i : Nat) {b size bytes : Nat} {T t : TypeId} {c cs : Array Value} {x y : Operand} (st : St m0 m F w0 w Es) (hi : Es[i]? = some (blk b c t)) (tf : TyF P T true size bytes)
    (hx : ev r x = .pointer (some ⟨b, 0, none⟩)) (hy : ev r y = .agg cs) (hs : cs.size = size) (hc : c.size = size) (hone : ∀ u ∈ cs.toList, u.oneCell' = true)
    (k : ∀ w', St m0 m F w0 w' (Es.set i (blk b cs t)) → WL P n ops Q rest r w') :
    WL P n ops Q (⟨none, .store T x y, ty, pos, after, none⟩ :: rest) r w := by
  refine wl_store i st hi tf hx hy hs hone (by simp [hc]) (fun w' h => ?_)
  have : setSeg c 0 (Value.agg cs).cells.toList = cs := by
    apply Array.toList_inj.mp
    simp only [setSeg, Value.cells]
    simp [List.drop_eq_nil_of_le, hs, hc]
  rw [this] at h
  exact k w' h

/-- Whether this may be filled in, and what comes of it. -/
def FillR (place : Nat → Option (Nat × Nat)) : Array Value → List (Nat × Value) → Array Value → Prop
  | c, [], c' => c = c'
  | c, (i, v) :: l, c' => ∃ off size, place i = some (off, size) ∧ v.cells.size = size ∧ off + size ≤ c.size ∧ FillR place (setSeg c off v.cells.toList) l c'

theorem foldl_seg (off : Nat) : ∀ (l : List Value) (j : Nat) (c : Array Value), off + j + l.length ≤ c.size →
    (l.zipIdx j).foldl (fun cs (p : Value × Nat) => cs.setIfInBounds (off + p.2) p.1) c = setSeg c (off + j) l
  | [], j, c, _ => by
    apply Array.toList_inj.mp
    simp [setSeg]
  | v :: l, j, c, h => by
    simp only [List.zipIdx_cons, List.foldl_cons]
    have hlt : off + j < c.size := by simp at h; omega
    rw [foldl_seg off l (j + 1) (c.setIfInBounds (off + j) v) (by simp at h ⊢; omega)]
    apply Array.toList_inj.mp
    simp only [setSeg, Array.toList_setIfInBounds]
    have e := list_seg_step c.toList (off + j) v l (by simp at h ⊢; omega)
    simpa [Nat.add_assoc] using e

theorem fill_run {place : Nat → Option (Nat × Nat)} : ∀ {l : List (Nat × Value)} {c c' : Array Value}, FillR place c l c' → Instr.fill place c l = some c'
  | [], c, c', h => by have : c = c' := h; subst this; rfl
  | (i, v) :: l, c, c', h => by
    obtain ⟨off, size, h1, h2, h3, h4⟩ := h
    unfold Instr.fill
    rw [h1]
    simp only [h2]
    rw [if_neg (by simp [h2]; omega)]
    have hf := foldl_seg off v.cells.toList 0 c (by simp [h2]; omega)
    have : v.cells.zipIdx.foldl (fun cs (p : Value × Nat) => cs.setIfInBounds (off + p.2) p.1) c = setSeg c off v.cells.toList := by
      rw [← Array.foldl_toList, Array.toList_zipIdx]
      exact hf
    have h5 := fill_run h4
    rw [← this] at h5
    exact h5

/-- Where a struct's fields lie. -/
def TyP (P : Program) (T : TypeId) (places : Array (Nat × Nat)) : Prop :=
  ∃ fs, P.underlying T = some (.struct fs) ∧ ∀ w, (fs.mapM fun f => (do pure (f.offset, ← sizeOf f.type) : Sem (Nat × Nat))).run P w = .ok places w

theorem v_build {T : TypeId} {z : Value} {places : Array (Nat × Nat)} {parts : Array (Nat × Operand)} {c' : Array Value} (vals : List (Nat × Value)) (hz : TyZ P T z) (hp : TyP P T places)
    (hvs : (parts.toList.map fun p => (p.1, ev r p.2)) = vals) (hf : FillR (places[·]?) z.cells vals c') : Val P (.build T parts) ty r w (.agg c') w := by
  intro _ _ _ _
  obtain ⟨fs, h1, h2⟩ := hp
  have hm : (parts.map fun p => (p.1, ev r p.2)).toList = parts.toList.map fun p => (p.1, ev r p.2) := by simp
  subst hvs
  have hfl := fill_run hf
  simp only [execOp, Instr.build, Sem.run_bind, hz.run, Result.andThen_ok, run_underlying h1, h2]
  rw [hm, hfl]
  rfl

theorem v_build_a {T E : TypeId} {z : Value} {k : Nat} {agg : Bool} {size bytes : Nat} {parts : Array (Nat × Operand)} {c' : Array Value} (vals : List (Nat × Value)) (hz : TyZ P T z) (hT : P.underlying T = some (.array k E)) (tf : TyF P E agg size bytes)
    (hvs : (parts.toList.map fun p => (p.1, ev r p.2)) = vals) (hf : FillR (fun i => some (i * size, size)) z.cells vals c') : Val P (.build T parts) ty r w (.agg c') w := by
  intro _ _ _ _
  have hm : (parts.map fun p => (p.1, ev r p.2)).toList = parts.toList.map fun p => (p.1, ev r p.2) := by simp
  subst hvs
  have hfl := fill_run hf
  simp only [execOp, Instr.build, Sem.run_bind, hz.run, Result.andThen_ok, run_underlying hT, tf.sz]
  rw [hm, hfl]
  rfl


/-- A new row of so many elements. -/
theorem wl_buildSlice {T E : TypeId} {z : Value} {agg : Bool} {size bytes len : Nat} {parts : Array (Nat × Operand)} {c' : Array Value} (vals : List (Nat × Value)) (hT : P.underlying T = some (.slice E)) (tf : TyF P E agg size bytes) (hz : TyZ P E z)
    (hpos : 0 < len * size) (hsmall : len * size ≤ 16777216)
    (hvs : (parts.toList.map fun p => (p.1, ev r p.2)) = vals) (hf : FillR (fun i => some (i * size, size)) (madeCells z.cells (len * size)) vals c') (st : St m0 m F w0 w Es) (hd : Nat.blt d n = true)
    (k : ∀ b w', St m0 m F w0 w' (blk b c' E :: Es) → WL P n ops Q rest (upd d (.slice (some ⟨b, 0, none⟩) len len) r) w') :
    WL P n ops Q (⟨some d, .buildSlice T len parts, ty, pos, after, none⟩ :: rest) r w := by
  refine wl_val (v := .slice (some ⟨w.heap.size, 0, none⟩) len len) (w' := w.alloc (.cells c' E)) ?_ hd (k _ _ (st.new (E := blk w.heap.size c' E) (touch_alloc w _) (heap_alloc_new w _)))
  intro _ _ _ _
  have hm : (parts.map fun p => (p.1, ev r p.2)).toList = parts.toList.map fun p => (p.1, ev r p.2) := by simp
  subst hvs
  have hfl := fill_run hf
  have h1 : ¬ (len * size > 2 ^ 24) := by have : (2 : Nat) ^ 24 = 16777216 := rfl; omega
  have h2 : ¬ (len * size = 0) := by omega
  simp only [execOp, Instr.buildSlice, Sem.run_bind, run_underlying hT, Result.andThen_ok, tf.sz, h1, if_false, Sem.run_pure, h2, hz.run]
  rw [hm]
  simp only [madeCells] at hfl
  rw [hfl]
  simp [newRow]


/-- make([]T, len, cap). -/
theorem wl_make {T E : TypeId} {z : Value} {agg : Bool} {size bytes l c : Nat} {x y : Operand} {j k : IntKind} {a b : Int} (hT : P.underlying T = some (.slice E)) (tf : TyF P E agg size bytes) (hz : TyZ P E z)
    (hx : ev r x = .int j a) (hy : ev r y = .int k b) (ha : a = l) (hb : b = c) (hlc : l ≤ c) (hbytes : bytes * c ≤ 281474976710656) (h63 : c ≤ 9223372036854775807) (hpos : 0 < size)
    (st : St m0 m F w0 w Es) (hd : Nat.blt d n = true)
    (kk : ∀ b w', St m0 m F w0 w' (blk b (madeCells z.cells (c * size)) E :: Es) → WL P n ops Q rest (upd d (.slice (some ⟨b, 0, none⟩) l c) r) w') :
    WL P n ops Q (⟨some d, .makeSlice T x y, ty, pos, after, none⟩ :: rest) r w := by
  subst ha
  subst hb
  have key : (Instr.makeSlice T (.int j l) (.int k c)).run P w = .ok (.slice (some ⟨w.heap.size, 0, none⟩) l c) (w.alloc (.cells (madeCells z.cells (c * size)) E)) := by
    obtain ⟨i, hi, hsz, hby⟩ := tf.info
    obtain ⟨i', hi', hz'⟩ := hz
    rw [hi] at hi'
    obtain rfl := Option.some.inj hi'
    have hb : ((i.bytes : Int) * (c : Int)) ≤ 281474976710656 := by
      rw [hby]
      have h1 : ((bytes : Int) * (c : Int)) = ((bytes * c : Nat) : Int) := by simp
      rw [h1]
      omega
    have := run_make (P := P) w T E i z hT hi hz' j k l c (by omega) (by omega) hb (by omega)
    simpa [hsz] using this
  refine wl_val (v := .slice (some ⟨w.heap.size, 0, none⟩) l c) (w' := w.alloc (.cells (madeCells z.cells (c * size)) E)) ?_ hd (kk _ _ (st.new (E := blk w.heap.size _ E) (touch_alloc w _) (heap_alloc_new w _)))
  intro _ _ _ _
  simp only [execOp, hx, hy, Sem.run_bind, key, Result.andThen_ok, Sem.run_pure]

end wl
end K
end Go.Proofs.Ytkbmhhbclbgdpaa
