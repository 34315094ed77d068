/-
  What is read of memory; '==' of arrays; bytes.
-/
import Derived.Test.YtkbmhhbclbgdpaaA
namespace Go.Proofs.Ytkbmhhbclbgdpaa
open Go Go.RowKit
namespace K

def u8 (x : UInt8) : Value := .int .u8 x.toNat
def bs (l : List UInt8) : List Value := l.map u8
/-- An array of bytes. -/
def arr (l : List UInt8) : Value := .agg (bs l).toArray

theorem length_bs (l : List UInt8) : (bs l).length = l.length := by simp [bs]
theorem one_u8 (x : UInt8) : (u8 x).oneCell' = true := rfl
theorem one_bs (l : List UInt8) : ∀ u ∈ bs l, u.oneCell' = true := by
  intro u hu
  obtain ⟨x, _, rfl⟩ := List.mem_map.1 hu
  rfl
theorem size_arr (l : List UInt8) : (arr l).cells.size = l.length := by simp [arr, Value.cells, bs]

theorem u8_inj {x y : UInt8} (h : u8 x = u8 y) : x = y := by
  unfold u8 at h
  injection h with _ h
  exact UInt8.toNat_inj.mp (by omega)

theorem bs_inj : ∀ {a b : List UInt8}, bs a = bs b → a = b
  | [], [], _ => rfl
  | [], _ :: _, h => by simp [bs] at h
  | _ :: _, [], h => by simp [bs] at h
  | x :: a, y :: b, h => by
    simp only [bs, List.map_cons, List.cons.injEq] at h
    rw [u8_inj h.1, bs_inj h.2]

/-- A slice in the unchanging part: so many elements of so many cells, with these cells. -/
def SlM (m : Mem) (v : Value) (size k : Nat) (xs : List Value) : Prop :=
  xs.length = k * size ∧ ∃ a cap, v = .slice a k cap ∧ k ≤ cap ∧ (a = none → cap = 0) ∧
    ∀ j u, xs[j]? = some u → ∃ b o c t fr, a = some ⟨b, o, none⟩ ∧ m b = some (.cells c t fr) ∧ c[o + j]? = some u

theorem SlM.mono {m m' : Mem} {v : Value} {size k : Nat} {xs : List Value} (h : SlM m v size k xs) (hm : ∀ k o, m k = some o → m' k = some o) : SlM m' v size k xs := by
  obtain ⟨h1, a, cap, h2, h3, h4, h5⟩ := h
  exact ⟨h1, a, cap, h2, h3, h4, fun j u hj => let ⟨b, o, c, t, fr, x, y, z⟩ := h5 j u hj; ⟨b, o, c, t, fr, x, hm _ _ y, z⟩⟩

theorem SlM.nil {m : Mem} {size : Nat} : SlM m (.slice none 0 0) size 0 [] := ⟨by simp, none, 0, rfl, Nat.le_refl _, fun _ => rfl, by simp⟩

section
variable {P : Program} {w : World} {m : Mem}

theorem SlM.src {v : Value} {size k : Nat} {xs : List Value} (h : SlM m v size k xs) (him : Im m w) (h1 : ∀ u ∈ xs, u.oneCell' = true) : Src P w v size k xs := by
  obtain ⟨hl, a, cap, rfl, hk, hn, hc⟩ := h
  cases a with
  | none =>
    have h0 : cap = 0 := hn rfl
    obtain rfl : k = 0 := by omega
    have : xs = [] := List.eq_nil_of_length_eq_zero (by simpa using hl)
    subst this
    exact Src.nil
  | some p =>
    refine Src.slice hl (fun j u hj => ?_) h1
    obtain ⟨b, o, c, t, fr, hp, hm, hcu⟩ := hc j u hj
    cases hp
    rw [add_at, cell_of_row w b (o + j) c t fr (him b _ hm)]
    exact hcu

/-- The cells of one element. -/
def cellsAt (xs : List Value) (size i : Nat) : List Value := (xs.drop (i * size)).take size

/-- What is read of one element, or of a part of it. -/
theorem SlM.elem (P : Program) {v : Value} {size k i : Nat} {xs : List Value} (h : SlM m v size k xs) (hi : i < k) (hs : 0 < size) :
    ∃ b o cap, v = .slice (some ⟨b, o, none⟩) k cap ∧ k ≤ cap ∧ ∀ {w : World} (_ : Im m w) {T : TypeId} {agg : Bool} {sz bytes off : Nat} {v' : Value} (_ : TyF P T agg sz bytes),
      getV agg sz (cellsAt xs size i).toArray off = some v' → Reads P w T ⟨b, o + i * size + off, none⟩ v' := by
  obtain ⟨hl, a, cap, rfl, hk, hn, hc⟩ := h
  have hlt : ∀ j, j < size → i * size + j < xs.length := by
    intro j hj
    rw [hl]
    have : (i + 1) * size ≤ k * size := Nat.mul_le_mul_right _ hi
    rw [Nat.add_mul] at this
    omega
  have h0 := hlt 0 hs
  obtain ⟨b, o, c, t, fr, ha, hm, hcu⟩ := hc (i * size) xs[i * size] (List.getElem?_eq_getElem (by omega))
  subst ha
  refine ⟨b, o, cap, rfl, hk, fun {w} him {T agg sz bytes off v'} tf hv => ?_⟩
  refine reads_row tf (him b _ hm) ?_
  have hcells : ∀ j, j < size → c[o + i * size + j]? = xs[i * size + j]? := by
    intro j hj
    have hj' := hlt j hj
    obtain ⟨b', o', c', t', fr', ha', hm', hcu'⟩ := hc (i * size + j) xs[i * size + j] (List.getElem?_eq_getElem hj')
    cases ha'
    rw [hm] at hm'
    cases hm'
    rw [List.getElem?_eq_getElem hj', ← hcu', Nat.add_assoc]
  have hcl : (cellsAt xs size i).length = size := by
    unfold cellsAt
    rw [List.length_take, List.length_drop]
    have := hlt (size - 1) (by omega)
    omega
  have hca : ∀ j, j < size → (cellsAt xs size i)[j]? = c[o + i * size + j]? := by
    intro j hj
    rw [hcells j hj]
    unfold cellsAt
    rw [List.getElem?_take, if_pos hj, List.getElem?_drop]
  unfold getV at hv ⊢
  cases agg with
  | false =>
    rw [if_neg (by simp), Array.getElem?_toList] at hv ⊢
    rw [List.getElem?_toArray] at hv
    have ho : off < size := by
      rcases Nat.lt_or_ge off size with h' | h'
      · exact h'
      · rw [List.getElem?_eq_none (by omega)] at hv; cases hv
    rw [← hca off ho]
    exact hv
  | true =>
    rw [if_pos rfl] at hv ⊢
    split at hv
    · rename_i hle
      simp only [List.size_toArray, hcl] at hle
      cases hv
      have hsz : o + i * size + off + sz ≤ c.size := by
        rcases Nat.eq_zero_or_pos sz with e | e
        · subst e
          rcases Nat.lt_or_ge off size with h' | h'
          · have h2 := hca off h'
            rw [List.getElem?_eq_getElem (by omega)] at h2
            rcases Nat.lt_or_ge (o + i * size + off) c.size with h'' | h''
            · omega
            · rw [Array.getElem?_eq_none h''] at h2; cases h2
          · have h2 := hca (size - 1) (by omega)
            rw [List.getElem?_eq_getElem (by omega)] at h2
            rcases Nat.lt_or_ge (o + i * size + (size - 1)) c.size with h'' | h''
            · omega
            · rw [Array.getElem?_eq_none h''] at h2; cases h2
        · have h2 := hca (off + sz - 1) (by omega)
          rw [List.getElem?_eq_getElem (by omega)] at h2
          rcases Nat.lt_or_ge (o + i * size + (off + sz - 1)) c.size with h'' | h''
          · omega
          · rw [Array.getElem?_eq_none h''] at h2; cases h2
      rw [if_pos hsz]
      congr 2
      apply Array.ext'
      apply List.ext_getElem?
      intro j
      simp only [Array.getElem?_toList, Array.getElem?_extract, List.size_toArray, hcl, List.getElem?_toArray]
      by_cases hj : j < sz
      · rw [if_pos (by omega), if_pos (by omega), hca _ (by omega), Nat.add_assoc (o + i * size)]
      · rw [if_neg (by omega), if_neg (by omega)]
    · cases hv

/-- What is read of a slice's cells. -/
theorem SlM.rd (P : Program) {v : Value} {size k : Nat} {xs : List Value} (h : SlM m v size k xs) (hpos : 0 < xs.length) :
    ∃ b o cap, v = .slice (some ⟨b, o, none⟩) k cap ∧ k ≤ cap ∧ ∀ {w : World} (_ : Im m w) {T : TypeId} {agg : Bool} {sz bytes off : Nat} {v' : Value} (_ : TyF P T agg sz bytes),
      getV agg sz xs.toArray off = some v' → Reads P w T ⟨b, o + off, none⟩ v' := by
  have hh := h
  obtain ⟨hl, a, cap, rfl, hk, hn, hc⟩ := h
  obtain ⟨b, o, c, t, fr, ha, hm, hcu⟩ := hc 0 xs[0] (List.getElem?_eq_getElem hpos)
  subst ha
  refine ⟨b, o, cap, rfl, hk, fun {w} him {T agg sz bytes off v'} tf hv => ?_⟩
  -- the whole as one element
  have h1 : SlM m (.slice (some ⟨b, o, none⟩) 1 (max 1 cap)) xs.length 1 xs := ⟨by simp, _, _, rfl, Nat.le_max_left _ _, by simp, hc⟩
  obtain ⟨b', o', cap', he, _, hr⟩ := h1.elem P (i := 0) (by omega) hpos
  cases he
  have := hr him (off := off) (v' := v') tf (by
    have : cellsAt xs xs.length 0 = xs := by simp [cellsAt]
    rw [this]; exact hv)
  simpa using this

theorem SlM.sub {v : Value} {size k l h : Nat} {xs : List Value} {a : Option Addr} {cap : Nat} (hx : SlM m v size k xs) (hv : v = .slice a k cap) (h1 : l ≤ h) (h2 : h ≤ k) (hs : 0 < size) :
    SlM m (.slice (sliceOff a cap l size) (h - l) (cap - l)) size (h - l) ((xs.drop (l * size)).take ((h - l) * size)) := by
  obtain ⟨hl, a', cap', hv', hk, hn, hc⟩ := hx
  rw [hv] at hv'
  cases hv'
  have hmul : h * size ≤ k * size := Nat.mul_le_mul_right _ h2
  have hmul2 : (h - l) * size + l * size = h * size := by rw [← Nat.add_mul]; congr 1; omega
  refine ⟨?_, _, _, rfl, by omega, ?_, ?_⟩
  · rw [List.length_take, List.length_drop, hl]
    omega
  · intro hno
    unfold sliceOff at hno
    split at hno
    · rename_i e; omega
    · cases a with
      | none => have := hn rfl; omega
      | some p => simp at hno
  · intro j u hj
    rw [List.getElem?_take] at hj
    split at hj
    · rename_i hjl
      rw [List.getElem?_drop] at hj
      obtain ⟨b, o, c, t, fr, ha, hm, hcu⟩ := hc _ u hj
      subst ha
      have hne : cap ≠ l := by
        intro e
        have : 0 < h - l := by
          rcases Nat.eq_zero_or_pos (h - l) with e0 | e0
          · rw [e0] at hjl; omega
          · exact e0
        omega
      refine ⟨b, o + l * size, c, t, fr, ?_, hm, by rw [Nat.add_assoc]; exact hcu⟩
      unfold sliceOff
      rw [if_neg hne]
      simp [add_at]
    · cases hj

theorem St.reads {m0 : Mem} {F : List Nat} {w0 : World} {Es : List Ent} {T : TypeId} {agg : Bool} {size bytes b off : Nat} {c : Array Value} {t : TypeId} {v : Value} (st : St m0 m F w0 w Es) (i : Nat) (hi : Es[i]? = some (blk b c t)) (tf : TyF P T agg size bytes) (hv : getV agg size c off = some v) : Reads P w T ⟨b, off, none⟩ v :=
  reads_row tf (st.at hi) hv

theorem St.readm {m0 : Mem} {F : List Nat} {w0 : World} {Es : List Ent} {T : TypeId} {agg : Bool} {size bytes b off : Nat} {c : Array Value} {t : TypeId} {fr : Nat × Nat} {v : Value} (st : St m0 m F w0 w Es) (hm : m b = some (.cells c t fr)) (tf : TyF P T agg size bytes) (hv : getV agg size c off = some v) : Reads P w T ⟨b, off, none⟩ v :=
  reads_row tf (st.im _ _ hm) hv

theorem getV_seg {size off : Nat} {l a b c : List Value} (hl : l = a ++ b ++ c) (ha : a.length = off) (hb : b.length = size) : getV true size l.toArray off = some (.agg b.toArray) := by
  unfold getV
  subst hl
  subst ha
  subst hb
  rw [if_pos rfl, if_pos (by simp)]
  congr 2
  apply Array.ext'
  simp

theorem getV_tl {size : Nat} {x : Value} {l : List Value} (h : l.length = size) : getV true size (x :: l).toArray 1 = some (.agg l.toArray) :=
  getV_seg (a := [x]) (c := []) (by simp) rfl h

theorem getV_all {size : Nat} {c : Array Value} (h : c.size = size) : getV true size c 0 = some (.agg c) := by
  unfold getV
  subst h
  simp

/-- A slice over a whole array of one's own, as what is appended or copied. -/
theorem St.srcArr {m0 : Mem} {F : List Nat} {w0 : World} {Es : List Ent} {b : Nat} {c : Array Value} {t : TypeId} {k cap size off : Nat} {news : List Value} (st : St m0 m F w0 w Es) (i : Nat) (hi : Es[i]? = some (blk b c t))
    (hl : news.length = k * size) (h : ∀ j u, news[j]? = some u → c[off + j]? = some u) (h1 : ∀ u ∈ news, u.oneCell' = true) : Src P w (.slice (some ⟨b, off, none⟩) k cap) size k news :=
  Src.slice hl (fun j u hj => by rw [add_at, cell_of_row w b (off + j) c t _ (st.at hi)]; exact h j u hj) h1

/-- '==' of arrays of whole numbers. -/
theorem run_eqItems_int {e : TypeId} {bytes : Nat} {k : IntKind} (tf : TyF P e false 1 bytes) (hu : P.underlying e = some (.int k)) (xs ys : Array Value) (a b : List Int) (hx : xs.toList = a.map (Value.int k)) (hy : ys.toList = b.map (Value.int k)) (hl : a.length = b.length) (d : Nat) :
    ∀ j i, i + j = a.length → (Op.eqItems (d + 1) e 1 xs ys (List.range' i j)).run P w = .ok (decide (a.drop i = b.drop i)) w := by
  intro j
  induction j with
  | zero =>
    intro i hij
    have e1 : a.drop i = [] := List.drop_eq_nil_of_le (by omega)
    have e2 : b.drop i = [] := List.drop_eq_nil_of_le (by omega)
    simp [Op.eqItems, e1, e2]
  | succ j ih =>
    intro i hij
    have hi : i < a.length := by omega
    have hi' : i < b.length := by omega
    have hxi : xs[i * 1]? = some (.int k a[i]) := by
      rw [← Array.getElem?_toList, hx]
      simp [hi]
    have hyi : ys[i * 1]? = some (.int k b[i]) := by
      rw [← Array.getElem?_toList, hy]
      simp [hi']
    have p1 : (part e xs (i * 1)).run P w = .ok (.int k a[i]) w := by simp only [part, Sem.run_bind, tf.isagg, Result.andThen_ok, Bool.false_eq_true, if_false, hxi, Sem.run_pure]
    have p2 : (part e ys (i * 1)).run P w = .ok (.int k b[i]) w := by simp only [part, Sem.run_bind, tf.isagg, Result.andThen_ok, Bool.false_eq_true, if_false, hyi, Sem.run_pure]
    have p3 := run_equalIn_int (P := P) w d e k k a[i] b[i] hu
    rw [List.range'_succ]
    simp only [Op.eqItems, Sem.run_bind, p1, p2, p3, Result.andThen_ok]
    have ea : a.drop i = a[i] :: a.drop (i + 1) := List.drop_eq_getElem_cons hi
    have eb : b.drop i = b[i] :: b.drop (i + 1) := List.drop_eq_getElem_cons hi'
    have hih := ih (i + 1) (by omega)
    by_cases hab : a[i] = b[i]
    · have h1 : (a[i] == b[i]) = true := by simpa using hab
      have h2 : decide (a.drop i = b.drop i) = decide (a.drop (i + 1) = b.drop (i + 1)) := by rw [ea, eb, hab]; simp only [List.cons.injEq, true_and]
      rw [h1, h2]
      simpa using hih
    · have h1 : (a[i] == b[i]) = false := by simpa using hab
      have h2 : decide (a.drop i = b.drop i) = false := decide_eq_false fun h => hab (by rw [ea, eb] at h; exact (List.cons.inj h).1)
      rw [h1, h2]
      simp

theorem run_eq_ints {T e : TypeId} {bytes n : Nat} {k : IntKind} (hT : P.underlying T = some (.array n e)) (tf : TyF P e false 1 bytes) (hu : P.underlying e = some (.int k)) (a b : List Int) (ha : a.length = n) (hb : b.length = n) :
    (Op.equal T (.agg (a.map (Value.int k)).toArray) (.agg (b.map (Value.int k)).toArray)).run P w = .ok (decide (a = b)) w := by
  obtain ⟨i, hi, hs, _⟩ := tf.info
  have h := run_equalIn_array (P := P) w 9999 (t := T) (e := e) (n := n) (i := i) (a.map (Value.int k)).toArray (b.map (Value.int k)).toArray hT hi
  have hc : P.cellsOf e = 1 := by simp [Program.cellsOf, hi, hs]
  rw [hc] at h
  have h2 := run_eqItems_int (P := P) (w := w) tf hu (a.map (Value.int k)).toArray (b.map (Value.int k)).toArray a b (by simp) (by simp) (by omega) 9998 a.length 0 (by omega)
  rw [List.range_eq_range'] at h
  rw [ha] at h2
  unfold Op.equal
  exact h.trans h2

def EqOk (P : Program) (T : TypeId) : Prop := P.eqGuardType P.depth T = false

theorem bs_ints (l : List UInt8) : bs l = (l.map fun x => (x.toNat : Int)).map (Value.int .u8) := by simp [bs, u8]

theorem ints_inj {a b : List UInt8} : (a.map fun x => (x.toNat : Int)) = (b.map fun x => (x.toNat : Int)) ↔ a = b := by
  constructor
  · intro h
    refine (List.map_inj_right (f := fun x : UInt8 => (x.toNat : Int)) fun x y hxy => ?_).1 h
    exact UInt8.toNat_inj.mp (Int.ofNat_inj.mp hxy)
  · rintro rfl; rfl

end

section
variable {P : Program} {r : Fr} {w : World} {ty : TypeId}

theorem v_eq_arr {T E U : TypeId} {bytes n : Nat} {x y : Operand} {a b : List UInt8} (hT : P.underlying T = some (.array n E)) (tf : TyF P E false 1 bytes) (hE : P.underlying E = some (.int .u8)) (hg : EqOk P T) (hx : ev r x = arr a) (hy : ev r y = arr b) (ha : a.length = n) (hb : b.length = n) :
    Val P (.binOp .eql T x y U) ty r w (.bool (decide (a = b))) w := by
  intro _ _ _ _
  have h := run_eq_ints (w := w) hT tf hE (a.map fun x => (x.toNat : Int)) (b.map fun x => (x.toNat : Int)) (by simpa using ha) (by simpa using hb)
  rw [← bs_ints, ← bs_ints] at h
  have hd : decide ((a.map fun x => (x.toNat : Int)) = (b.map fun x => (x.toNat : Int))) = decide (a = b) := by simp only [ints_inj]
  rw [hd] at h
  unfold EqOk at hg
  unfold arr at hx hy
  simp [execOp, eqGuard, binOp, hx, hy, hg, h]

theorem v_ne_arr {T E U : TypeId} {bytes n : Nat} {x y : Operand} {a b : List UInt8} (hT : P.underlying T = some (.array n E)) (tf : TyF P E false 1 bytes) (hE : P.underlying E = some (.int .u8)) (hg : EqOk P T) (hx : ev r x = arr a) (hy : ev r y = arr b) (ha : a.length = n) (hb : b.length = n) :
    Val P (.binOp .neq T x y U) ty r w (.bool (decide (¬ a = b))) w := by
  intro _ _ _ _
  have h := run_eq_ints (w := w) hT tf hE (a.map fun x => (x.toNat : Int)) (b.map fun x => (x.toNat : Int)) (by simpa using ha) (by simpa using hb)
  rw [← bs_ints, ← bs_ints] at h
  have hd : decide ((a.map fun x => (x.toNat : Int)) = (b.map fun x => (x.toNat : Int))) = decide (a = b) := by simp only [ints_inj]
  rw [hd] at h
  unfold EqOk at hg
  unfold arr at hx hy
  simp [execOp, eqGuard, binOp, hx, hy, hg, h]

/-- The address of a field, a cell; the pointer is written out. -/
theorem v_fa {S f off F b o : Nat} {x : Operand} (hf : FdOff P S f off F) (hx : ev r x = .pointer (some ⟨b, o, none⟩)) : Val P (.fieldAddr S x f) ty r w (.pointer (some ⟨b, o + off, none⟩)) w := by
  have := v_faddr (P := P) (r := r) (w := w) (ty := ty) hf hx
  rw [add_at] at this
  exact this

theorem v_ias {T E : TypeId} {agg : Bool} {size bytes : Nat} {x ix : Operand} {b o len cap : Nat} {k : IntKind} {i : Int} (j : Nat) (hT : P.underlying T = some (.slice E)) (tf : TyF P E agg size bytes)
    (hx : ev r x = .slice (some ⟨b, o, none⟩) len cap) (hi : ev r ix = .int k i) (hj : i = j) (h1 : j < len) : Val P (.indexAddr T x ix) ty r w (.pointer (some ⟨b, o + j * size, none⟩)) w := by
  subst hj
  have := v_iaddr_s (P := P) (r := r) (w := w) (ty := ty) hT tf hx hi (by omega) (by omega)
  rw [add_at] at this
  exact this

theorem v_iaa {T E : TypeId} {agg : Bool} {size bytes n : Nat} {x ix : Operand} {b o : Nat} {k : IntKind} {i : Int} (j : Nat) (hT : P.underlying T = some (.array n E)) (tf : TyF P E agg size bytes)
    (hx : ev r x = .pointer (some ⟨b, o, none⟩)) (hi : ev r ix = .int k i) (hj : i = j) (h1 : j < n) : Val P (.indexAddr T x ix) ty r w (.pointer (some ⟨b, o + j * size, none⟩)) w := by
  subst hj
  have := v_iaddr_a (P := P) (r := r) (w := w) (ty := ty) hT tf hx hi (by omega) (by omega)
  rw [add_at] at this
  exact this

/-- A part that fills a whole. -/
theorem setSeg_all {c : Array Value} {l : List Value} (h : l.length = c.size) : setSeg c 0 l = l.toArray := by
  apply Array.ext'
  simp [setSeg, List.drop_eq_nil_of_le, h]

theorem setSeg_mid {a b c l : List Value} {o : Nat} (ho : a.length = o) (hl : l.length = b.length) : setSeg (a ++ b ++ c).toArray o l = (a ++ l ++ c).toArray := by
  subst ho
  apply Array.ext'
  simp only [setSeg, List.append_assoc, List.take_left]
  rw [← List.drop_drop, List.drop_left, hl, List.drop_left]

/-- One part is filled in, by where it lies. -/
theorem fill_one {place : Nat → Option (Nat × Nat)} {z : Array Value} {i : Nat} {v : Value} {l : List (Nat × Value)} {c' : Array Value} (a b c : List Value) (hz : z.toList = a ++ b ++ c) (hp : place i = some (a.length, b.length)) (hv : v.cells.size = b.length)
    (k : FillR place (a ++ v.cells.toList ++ c).toArray l c') : FillR place z ((i, v) :: l) c' := by
  have hz' : z = (a ++ b ++ c).toArray := by apply Array.ext'; simpa using hz
  subst hz'
  refine ⟨a.length, b.length, hp, hv, by simp, ?_⟩
  rw [setSeg_mid rfl (by simpa using hv)]
  exact k

end
section own
variable {m0 m : Mem} {F : List Nat} {w0 w : World} {Es : List Ent}

/-- A slice of a block. -/
theorem SlM.of {b o k cap size : Nat} {c : Array Value} {t : TypeId} {fr : Nat × Nat} {xs : List Value} (hm : m b = some (.cells c t fr)) (hl : xs.length = k * size) (hk : k ≤ cap) (h : ∀ j u, xs[j]? = some u → c[o + j]? = some u) : SlM m (.slice (some ⟨b, o, none⟩) k cap) size k xs :=
  ⟨hl, _, _, rfl, hk, by simp, fun j u hj => ⟨b, o, c, t, fr, rfl, hm, h j u hj⟩⟩

/-- A block of one's own, as new memory for whoever called. -/
theorem St.freshB (st : St m0 m [] w0 w Es) {i b : Nat} {c : Array Value} {t : TypeId} (hi : Es[i]? = some (blk b c t)) : ∃ m1, Fresh m1 w0 ∧ Im m1 w ∧ m1 b = some (.cells c t (0, 0)) := by
  refine ⟨fun k => if k = b then some (.cells c t (0, 0)) else none, fun k o hk => ?_, fun k o hk => ?_, by simp⟩
  · by_cases e : k = b
    · subst e
      exact ((st.own _ (List.mem_of_getElem? hi) k (by simp [blk])).2).resolve_right (by simp)
    · simp [e] at hk
  · by_cases e : k = b
    · subst e
      simp at hk
      rw [← hk]
      exact st.at hi
    · simp [e] at hk

theorem row_SlM {m : Mem} {w : World} {v : Value} {e size n : Nat} {xs : List Value} (h : (rowE v e size n xs).holds w) (hm : ∀ k o, some k = v.ownBlock → w.heap[k]? = some o → m k = some o) : SlM m v size n xs := by
  obtain ⟨h1, h2⟩ := h
  rcases h2 with ⟨rfl, rfl⟩ | ⟨g, cap, cur, rfl, _, hg, hc, _, hs, ht⟩
  · have : xs = [] := List.eq_nil_of_length_eq_zero (by simpa using h1)
    subst this
    exact SlM.nil
  · refine ⟨h1, _, _, rfl, hc, by simp, fun j u hj => ⟨g, 0, cur, e, (0, 0), rfl, hm _ _ rfl hg, ?_⟩⟩
    rw [← ht, List.getElem?_take] at hj
    split at hj
    · rw [Nat.zero_add, ← Array.getElem?_toList]; exact hj
    · cases hj

theorem St.freshR (st : St m0 m [] w0 w Es) {i : Nat} {v : Value} {e size n : Nat} {xs : List Value} (hi : Es[i]? = some (rowE v e size n xs)) : ∃ m1, Fresh m1 w0 ∧ Im m1 w ∧ SlM m1 v size n xs := by
  refine ⟨fun k => if some k = v.ownBlock then w.heap[k]? else none, fun k o hk => ?_, fun k o hk => ?_, row_SlM (st.at hi) fun k o hk ho => by simp [hk, ho]⟩
  · by_cases e : some k = v.ownBlock
    · exact ((st.own _ (List.mem_of_getElem? hi) k (by simp [rowE, ← e])).2).resolve_right (by simp)
    · simp [e] at hk
  · by_cases e : some k = v.ownBlock
    · simpa [e] using hk
    · simp [e] at hk

/-- A row of one's own, looked into. -/
theorem St.rowOpen (st : St m0 m F w0 w Es) (i : Nat) {v : Value} {e size n : Nat} {xs : List Value} (hi : Es[i]? = some (rowE v e size n xs)) (hn : 0 < n) :
    ∃ g cap sp, v = .slice (some ⟨g, 0, none⟩) n cap ∧ n ≤ cap ∧ (xs ++ sp).length = cap * size ∧ cap ≤ 9223372036854775807 ∧ St m0 m F w0 w (Es.set i (blk g (xs ++ sp).toArray e)) := by
  have hh := st.at hi
  rcases hh.2 with ⟨_, h0⟩ | ⟨g, cap, cur, rfl, _, hg, hc, hm, hs, ht⟩
  · omega
  · have he : xs ++ cur.toList.drop (n * size) = cur.toList := by rw [← ht, List.take_append_drop]
    refine ⟨g, cap, cur.toList.drop (n * size), rfl, hc, by rw [he]; simpa using hs, by unfold maxLen at hm; omega, ?_⟩
    rw [he]
    exact st.step i hi ⟨rfl, rfl, rfl, Nat.le_refl _, fun _ _ _ => rfl, fun k hk => .inl (by simpa [rowE, Value.ownBlock, blk] using hk)⟩ (by simpa [blk] using hg)

/-- A block of one's own, as a row to be appended to. -/
theorem St.rowShut (st : St m0 m F w0 w Es) (i : Nat) {b k cap size : Nat} {c : Array Value} {t : TypeId} {xs : List Value} (hi : Es[i]? = some (blk b c t)) (hk : k ≤ cap) (hc : c.size = cap * size) (hcap : cap ≤ 9223372036854775807) (hx : c.toList.take (k * size) = xs) :
    St m0 m F w0 w (Es.set i (rowE (.slice (some ⟨b, 0, none⟩) k cap) t size k xs)) := by
  refine st.step i hi ⟨rfl, rfl, rfl, Nat.le_refl _, fun _ _ _ => rfl, fun j hj => .inl (by simpa [rowE, Value.ownBlock, blk] using hj)⟩ ⟨?_, .inr ⟨b, cap, c, rfl, Nat.zero_le _, st.at hi, hk, by unfold maxLen; omega, hc, hx⟩⟩
  rw [← hx, List.length_take, Array.length_toList, hc]
  exact Nat.min_eq_left (Nat.mul_le_mul_right _ hk)

theorem madeCells_rep {s : Nat} {u : Value} (k : Nat) : madeCells (Array.replicate (s + 1) u) k = (List.replicate k u).toArray := by
  apply Array.ext'
  apply List.ext_getElem?
  intro i
  simp only [madeCells, Array.getElem?_toList, Array.getElem?_map, Array.size_replicate]
  by_cases hi : i < k
  · have h1 : i % (s + 1) < s + 1 := Nat.mod_lt _ (by omega)
    simp [hi, getElem!_pos, h1]
  · simp [hi]
theorem cells_one {v : Value} (h : v.oneCell' = true) : v.cells = #[v] := by cases v <;> first | rfl | (simp [Value.oneCell'] at h)

theorem row_one {w : World} {v : Value} {e size n : Nat} {xs : List Value} (h : (rowE v e size n xs).holds w) : v.oneCell' = true := by
  rcases h.2 with ⟨rfl, _⟩ | ⟨g, cap, cur, rfl, _⟩ <;> rfl

variable {m0 m : Mem} {F : List Nat} {w0 w : World} {Es : List Ent}
theorem St.none (st : St m0 m F w0 w Es) {i : Nat} {E : Ent} (hi : Es[i]? = some E) : ∀ k ∈ E.foot, m k = none := fun k hk => (st.own E (List.mem_of_getElem? hi) k hk).1
end own
end K
end Go.Proofs.Ytkbmhhbclbgdpaa
