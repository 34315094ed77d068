/-
  What each operation yields.
-/
import Derived.Test.YtkbmhhbclbgdpaaR
namespace Go.Proofs.Ytkbmhhbclbgdpaa
open Go Go.RowKit
namespace K

/-- What is known of a type. -/
structure TyF (P : Program) (T : TypeId) (agg : Bool) (size bytes : Nat) : Prop where
  isagg : ∀ w, (isAgg T).run P w = .ok agg w
  sz : ∀ w, (sizeOf T).run P w = .ok size w
  info : ∃ i, P.info? T = some i ∧ i.size = size ∧ i.bytes = bytes

def TyZ (P : Program) (T : TypeId) (z : Value) : Prop := ∃ i, P.info? T = some i ∧ i.zero = some z

theorem TyZ.run {P : Program} {T : TypeId} {z : Value} (h : TyZ P T z) (w : World) : (zeroValue T).run P w = .ok z w := by
  obtain ⟨i, hi, hz⟩ := h
  simp [zeroValue, typeInfo, hi, hz]

/-- Field f of struct S begins at off, and is of type F, which has cells. -/
def FdOff (P : Program) (S f off F : Nat) : Prop :=
  ∃ fs fl, P.underlying S = some (.struct fs) ∧ fs[f]? = some fl ∧ fl.offset = off ∧ fl.type = F ∧ ∃ k, 0 < k ∧ ∀ w, (sizeOf F).run P w = .ok k w

def Reads (P : Program) (w : World) (T : TypeId) (p : Addr) (v : Value) : Prop := (loadVar T p).run P w = .ok v w

/-- The value at an offset among cells. -/
def getV (agg : Bool) (size : Nat) (c : Array Value) (off : Nat) : Option Value :=
  if agg then (if off + size ≤ c.size then some (.agg (c.extract off (off + size))) else none) else c.toList[off]?

theorem add_at (b o k : Nat) : (⟨b, o, none⟩ : Addr).add k = ⟨b, o + k, none⟩ := by unfold Addr.add; split <;> simp_all

theorem reads_row {P : Program} {w : World} {T : TypeId} {agg : Bool} {size bytes b off : Nat} {c : Array Value} {t : TypeId} {fr : Nat × Nat} {v : Value} (tf : TyF P T agg size bytes)
    (h : w.heap[b]? = some (.cells c t fr)) (hv : getV agg size c off = some v) : Reads P w T ⟨b, off, none⟩ v := by
  unfold Reads loadVar
  unfold getV at hv
  cases agg with
  | true =>
    rw [if_pos rfl] at hv
    split at hv
    · rename_i hle
      have hl := run_loadCells_list (P := P) w ⟨b, off, none⟩ (c.extract off (off + size)).toList (fun j u hu => by
        rw [add_at, cell_of_row w b (off + j) c t fr h]
        rw [Array.getElem?_toList, Array.getElem?_extract] at hu
        split at hu
        · exact hu
        · cases hu)
      have hs : (c.extract off (off + size)).toList.length = size := by simp; omega
      rw [hs, Array.toArray_toList] at hl
      cases hv
      simp only [Sem.run_bind, tf.isagg, tf.sz, hl, Result.andThen_ok, if_true, Sem.run_pure]
    · cases hv
  | false =>
    rw [if_neg (by simp)] at hv
    rw [Array.getElem?_toList] at hv
    have hc : w.cell? ⟨b, off, none⟩ = some v := by rw [cell_of_row w b off c t fr h]; exact hv
    simp [Sem.run_bind, tf.isagg, hc]

section val
variable {P : Program} {r : Fr} {w : World} {ty : TypeId}

theorem v_move {x : Operand} : Val P (.move x) ty r w (ev r x) w := fun _ _ _ _ => rfl
theorem v_move' {x : Operand} {v : Value} (h : ev r x = v) : Val P (.move x) ty r w v w := h ▸ v_move
theorem v_assign' {x : Operand} {v : Value} (h : ev r x = v) : Val P (.assign x) ty r w v w := h ▸ (fun _ _ _ _ => rfl)
theorem v_assign {x : Operand} : Val P (.assign x) ty r w (ev r x) w := fun _ _ _ _ => rfl

theorem v_pick {c x y : Operand} {b : Bool} (hc : ev r c = .bool b) : Val P (.pick c x y) ty r w (bif b then ev r x else ev r y) w := by
  intro _ _ _ _
  cases b <;> simp [execOp, hc, asBool]

theorem v_nil {x : Operand} {p : Addr} (hx : ev r x = .pointer (some p)) : Val P (.nilCheck x) ty r w (.pointer (some p)) w := by
  intro _ _ _ _
  simp [execOp, hx]

theorem v_nilf {x : Operand} {f : FuncId} {first captured : Array Value} (hx : ev r x = .func (.func f) first captured) : Val P (.nilCheck x) ty r w (.func (.func f) first captured) w := by
  intro _ _ _ _
  simp [execOp, hx]

theorem v_load {T : TypeId} {x : Operand} {p : Addr} {v : Value} (hx : ev r x = .pointer (some p)) (hr : Reads P w T p v) : Val P (.load T x) ty r w v w := by
  intro _ _ _ _
  unfold Reads at hr
  simp [execOp, Instr.loadAt, Instr.sureAddr, hx, hr]

theorem v_faddr {S f off F : Nat} {x : Operand} {p : Addr} (hf : FdOff P S f off F) (hx : ev r x = .pointer (some p)) : Val P (.fieldAddr S x f) ty r w (.pointer (some (p.add off))) w := by
  intro _ _ _ _
  obtain ⟨fs, fl, h1, h2, h3, h4, k, hk, h5⟩ := hf
  subst h3
  subst h4
  simp [execOp, Instr.fieldAt, run_underlying h1, h2, Instr.sureAddr, hx, fieldPlace, h5, Nat.pos_iff_ne_zero.1 hk]

theorem v_iaddr_s {T E : TypeId} {agg : Bool} {size bytes : Nat} {x ix : Operand} {a : Addr} {len cap : Nat} {k : IntKind} {i : Int} (hT : P.underlying T = some (.slice E)) (tf : TyF P E agg size bytes)
    (hx : ev r x = .slice (some a) len cap) (hi : ev r ix = .int k i) (h0 : 0 ≤ i) (h1 : i < len) : Val P (.indexAddr T x ix) ty r w (.pointer (some (a.add (i.toNat * size)))) w := by
  intro _ _ _ _
  simp [execOp, Instr.indexAt, asIntOf, hi, run_underlying hT, hx, tf.sz, h0, h1]

theorem v_iaddr_a {T E : TypeId} {agg : Bool} {size bytes n : Nat} {x ix : Operand} {a : Addr} {k : IntKind} {i : Int} (hT : P.underlying T = some (.array n E)) (tf : TyF P E agg size bytes)
    (hx : ev r x = .pointer (some a)) (hi : ev r ix = .int k i) (h0 : 0 ≤ i) (h1 : i < n) : Val P (.indexAddr T x ix) ty r w (.pointer (some (a.add (i.toNat * size)))) w := by
  intro _ _ _ _
  simp [execOp, Instr.indexAt, Instr.sureAddr, asIntOf, hi, run_underlying hT, hx, tf.sz, h0, h1]

theorem v_len_s {T E : TypeId} {x : Operand} {a : Option Addr} {len cap : Nat} (hT : P.underlying T = some (.slice E)) (hx : ev r x = .slice a len cap) :
    Val P (.call ⟨.builtin .len, #[x], #[T]⟩) ty r w (.int .i64 len) w := by
  intro _ _ _ _
  simp [execOp, resolve, invoke, builtin, Builtin.len_, run_underlying hT, hx, goInt]

theorem v_len_str {T : TypeId} {x : Operand} {s : ByteArray} (hT : P.underlying T = some .string) (hx : ev r x = .string s) :
    Val P (.call ⟨.builtin .len, #[x], #[T]⟩) ty r w (.int .i64 s.size) w := by
  intro _ _ _ _
  simp [execOp, resolve, invoke, builtin, Builtin.len_, run_underlying hT, hx, goInt]

theorem v_cap_s {T E : TypeId} {x : Operand} {a : Option Addr} {len cap : Nat} (hT : P.underlying T = some (.slice E)) (hx : ev r x = .slice a len cap) :
    Val P (.call ⟨.builtin .cap, #[x], #[T]⟩) ty r w (.int .i64 cap) w := by
  intro _ _ _ _
  simp [execOp, resolve, invoke, builtin, Builtin.cap_, run_underlying hT, hx, goInt]

theorem v_not {t : TypeId} {x : Operand} {b : Bool} (hx : ev r x = .bool b) : Val P (.unOp .not t x) ty r w (.bool !b) w := by
  intro _ _ _ _
  simp [execOp, hx, Op.unary]

theorem v_conv {T U : TypeId} {x : Operand} {k j : IntKind} {D : TypeDesc} {i : Int} (hT : P.underlying T = some D) (hU : P.underlying U = some (.int k)) (hx : ev r x = .int j i) : Val P (.convert T U x) ty r w (.int k (k.wrap i)) w := by
  intro _ _ _ _
  simp [execOp, convert, run_underlying hT, run_underlying hU, hx, Conv.intToInt]

theorem v_extract {x : Operand} {i : Nat} {vs : Array Value} {v : Value} (hx : ev r x = .tuple vs) (hv : vs[i]? = some v) : Val P (.extract x i) ty r w v w := by
  intro _ _ _ _
  simp [execOp, Instr.extract, hx, hv]

theorem v_field {S f : Nat} {x : Operand} {cs : Array Value} {F off size bytes : Nat} {agg : Bool} {v : Value} (hf : FdOff P S f off F) (tf : TyF P F agg size bytes) (hx : ev r x = .agg cs) (hv : getV agg size cs off = some v) : Val P (.field S x f) ty r w v w := by
  intro _ _ _ _
  obtain ⟨fs, fl, h1, h2, h3, h4, _⟩ := hf
  subst h3
  subst h4
  unfold getV at hv
  cases agg with
  | true =>
    rw [if_pos rfl] at hv
    split at hv
    · cases hv
      simp [execOp, Instr.field, run_underlying h1, h2, hx, asAgg, part, tf.isagg, tf.sz]
    · cases hv
  | false =>
    rw [if_neg (by simp), Array.getElem?_toList] at hv
    simp [execOp, Instr.field, run_underlying h1, h2, hx, asAgg, part, tf.isagg, hv]

theorem v_index_a {T E : TypeId} {agg : Bool} {size bytes n : Nat} {x ix : Operand} {cs : Array Value} {k : IntKind} {i : Int} {v : Value} (hT : P.underlying T = some (.array n E)) (tf : TyF P E agg size bytes)
    (hx : ev r x = .agg cs) (hi : ev r ix = .int k i) (h0 : 0 ≤ i) (h1 : i < n) (hv : getV agg size cs (i.toNat * size) = some v) : Val P (.index T x ix) ty r w v w := by
  intro _ _ _ _
  unfold getV at hv
  cases agg with
  | true =>
    rw [if_pos rfl] at hv
    split at hv
    · cases hv
      simp [execOp, Instr.index, asIntOf, hi, run_underlying hT, hx, tf.sz, h0, h1, part, tf.isagg]
    · cases hv
  | false =>
    rw [if_neg (by simp), Array.getElem?_toList] at hv
    simp [execOp, Instr.index, asIntOf, hi, run_underlying hT, hx, tf.sz, h0, h1, part, tf.isagg, hv]

theorem v_index_str {T : TypeId} {x ix : Operand} {s : ByteArray} {k : IntKind} {i : Int} {b : UInt8} (hT : P.underlying T = some .string) (hx : ev r x = .string s) (hi : ev r ix = .int k i) (h0 : 0 ≤ i) (hv : s[i.toNat]? = some b) :
    Val P (.index T x ix) ty r w (.int .u8 b.toNat) w := by
  intro _ _ _ _
  simp [execOp, Instr.index, asIntOf, hi, run_underlying hT, hx, h0, hv]

/-- A bound of a slice expression. -/
def BoundIs (r : Fr) (o : Option Operand) (dflt l : Nat) : Prop :=
  match o with
  | none => l = dflt
  | some x => ∃ k i, ev r x = .int k i ∧ i = (l : Int)

def sliceOff (a : Option Addr) (cap l size : Nat) : Option Addr := if cap = l then a else a.map (·.add (l * size))

theorem run_bounds {isS : Bool} {len cap l h : Nat} {lo hi : Option Operand} (hlo : BoundIs r lo 0 l) (hhi : BoundIs r hi len h) (h1 : l ≤ h) (h2 : h ≤ cap) :
    (Instr.sliceBounds isS len cap (lo.map (ev r)) (hi.map (ev r)) none).run P w = .ok (l, h, cap) w := by
  cases lo with
  | none =>
    have hl : l = 0 := hlo
    subst hl
    cases hi with
    | none => have hh : h = len := hhi; subst hh; simp [Instr.sliceBounds]
    | some x =>
      obtain ⟨k, i, hx, rfl⟩ := hhi
      simp [Instr.sliceBounds, Instr.sliceBound, asIntOf, hx, Int.ofNat_le.2 h2]
      intro hc; omega
  | some y =>
    obtain ⟨ky, iy, hy, rfl⟩ := hlo
    cases hi with
    | none =>
      have hh : h = len := hhi
      subst hh
      simp [Instr.sliceBounds, Instr.sliceBound, asIntOf, hy]
      intro hc; omega
    | some x =>
      obtain ⟨k, i, hx, rfl⟩ := hhi
      have e1 : ¬ (cap < h) := by omega
      have e2 : ¬ (h < l) := by omega
      simp [Instr.sliceBounds, Instr.sliceBound, asIntOf, hx, hy, h1, h2]

theorem v_slice_s {T E : TypeId} {agg : Bool} {size bytes : Nat} {x : Operand} {lo hi : Option Operand} {a : Option Addr} {len cap l h : Nat} (hT : P.underlying T = some (.slice E)) (tf : TyF P E agg size bytes)
    (hx : ev r x = .slice a len cap) (hlo : BoundIs r lo 0 l) (hhi : BoundIs r hi len h) (h1 : l ≤ h) (h2 : h ≤ cap) :
    Val P (.slice T x lo hi none) ty r w (.slice (sliceOff a cap l size) (h - l) (cap - l)) w := by
  intro _ _ _ _
  simp [execOp, Instr.sliceAt, Instr.slice, run_underlying hT, hx, run_bounds (P := P) (w := w) hlo hhi h1 h2, tf.sz, sliceOff]

theorem v_slice_a {T E : TypeId} {agg : Bool} {size bytes n : Nat} {x : Operand} {lo hi : Option Operand} {a : Addr} {l h : Nat} (hT : P.underlying T = some (.array n E)) (tf : TyF P E agg size bytes)
    (hx : ev r x = .pointer (some a)) (hlo : BoundIs r lo 0 l) (hhi : BoundIs r hi n h) (h1 : l ≤ h) (h2 : h ≤ n) :
    Val P (.slice T x lo hi none) ty r w (.slice (some (if n = l then a else a.add (l * size))) (h - l) (n - l)) w := by
  intro _ _ _ _
  simp [execOp, Instr.sliceAt, Instr.sureAddr, run_underlying hT, hx, run_bounds (P := P) (w := w) hlo hhi h1 h2, tf.sz]

theorem v_slice_str {T : TypeId} {x : Operand} {lo hi : Option Operand} {s : ByteArray} {l h : Nat} (hT : P.underlying T = some .string)
    (hx : ev r x = .string s) (hlo : BoundIs r lo 0 l) (hhi : BoundIs r hi s.size h) (h1 : l ≤ h) (h2 : h ≤ s.size) :
    Val P (.slice T x lo hi none) ty r w (.string (s.extract l h)) w := by
  intro _ _ _ _
  simp [execOp, Instr.sliceAt, Instr.slice, run_underlying hT, hx, run_bounds (P := P) (w := w) hlo hhi h1 h2]

theorem v_s2a {T E : TypeId} {n len cap : Nat} {x : Operand} {a : Option Addr} (hT : P.underlying T = some (.array n E)) (hx : ev r x = .slice a len cap) (hl : n ≤ len) : Val P (.sliceToArrayPointer T x) ty r w (.pointer a) w := by
  intro _ _ _ _
  simp [execOp, Instr.arrayAt, run_underlying hT, hx, Nat.not_lt.2 hl]

theorem v_add {T U : TypeId} {x y : Operand} {k : IntKind} {a b : Int} (hx : ev r x = .int k a) (hy : ev r y = .int k b) : Val P (.binOp .add T x y U) ty r w (.int k (k.wrap (a + b))) w := by
  intro _ _ _ _
  simp [execOp, eqGuard, binOp, hx, hy, Op.intArith]
theorem v_sub {T U : TypeId} {x y : Operand} {k : IntKind} {a b : Int} (hx : ev r x = .int k a) (hy : ev r y = .int k b) : Val P (.binOp .sub T x y U) ty r w (.int k (k.wrap (a - b))) w := by
  intro _ _ _ _
  simp [execOp, eqGuard, binOp, hx, hy, Op.intArith]
theorem v_mul {T U : TypeId} {x y : Operand} {k : IntKind} {a b : Int} (hx : ev r x = .int k a) (hy : ev r y = .int k b) : Val P (.binOp .mul T x y U) ty r w (.int k (k.wrap (a * b))) w := by
  intro _ _ _ _
  simp [execOp, eqGuard, binOp, hx, hy, Op.intArith]

theorem wrap_i64 {z : Int} (h1 : -9223372036854775808 ≤ z) (h2 : z ≤ 9223372036854775807) : IntKind.i64.wrap z = z := IntWalk.i64_in z ⟨h1, h2⟩

/-- The same on int, where nothing runs over: the sum is told plainly. -/
theorem v_add' {T U : TypeId} {x y : Operand} {a b c : Int} (hx : ev r x = .int .i64 a) (hy : ev r y = .int .i64 b) (hc : a + b = c) (h1 : -9223372036854775808 ≤ c) (h2 : c ≤ 9223372036854775807) : Val P (.binOp .add T x y U) ty r w (.int .i64 c) w := by
  have h := v_add (P := P) (w := w) (ty := ty) (T := T) (U := U) hx hy
  rw [hc, wrap_i64 h1 h2] at h
  exact h
theorem v_sub' {T U : TypeId} {x y : Operand} {a b c : Int} (hx : ev r x = .int .i64 a) (hy : ev r y = .int .i64 b) (hc : a - b = c) (h1 : -9223372036854775808 ≤ c) (h2 : c ≤ 9223372036854775807) : Val P (.binOp .sub T x y U) ty r w (.int .i64 c) w := by
  have h := v_sub (P := P) (w := w) (ty := ty) (T := T) (U := U) hx hy
  rw [hc, wrap_i64 h1 h2] at h
  exact h
theorem v_mul' {T U : TypeId} {x y : Operand} {a b c : Int} (hx : ev r x = .int .i64 a) (hy : ev r y = .int .i64 b) (hc : a * b = c) (h1 : -9223372036854775808 ≤ c) (h2 : c ≤ 9223372036854775807) : Val P (.binOp .mul T x y U) ty r w (.int .i64 c) w := by
  have h := v_mul (P := P) (w := w) (ty := ty) (T := T) (U := U) hx hy
  rw [hc, wrap_i64 h1 h2] at h
  exact h

theorem v_quo {T U : TypeId} {x y : Operand} {k : IntKind} {a b : Int} (hx : ev r x = .int k a) (hy : ev r y = .int k b) (h0 : b ≠ 0) : Val P (.binOp .quo T x y U) ty r w (.int k (k.wrap (a.tdiv b))) w := by
  intro _ _ _ _
  simp [execOp, eqGuard, binOp, hx, hy, Op.intDiv, h0]
theorem v_rem {T U : TypeId} {x y : Operand} {k : IntKind} {a b : Int} (hx : ev r x = .int k a) (hy : ev r y = .int k b) (h0 : b ≠ 0) : Val P (.binOp .rem T x y U) ty r w (.int k (a.tmod b)) w := by
  intro _ _ _ _
  simp [execOp, eqGuard, binOp, hx, hy, Op.intDiv, h0]
/-- Division and remainder of what is not below nought. -/
theorem v_quo' {T U : TypeId} {x y : Operand} {a b c : Int} (hx : ev r x = .int .i64 a) (hy : ev r y = .int .i64 b) (ha : 0 ≤ a) (hb : 0 < b) (hc : a / b = c) (h2 : a ≤ 9223372036854775807) : Val P (.binOp .quo T x y U) ty r w (.int .i64 c) w := by
  have h := v_quo (P := P) (w := w) (ty := ty) (T := T) (U := U) hx hy (by omega)
  have h0 : 0 ≤ a / b := Int.ediv_nonneg ha (by omega)
  have h3 : a / b ≤ a := Int.ediv_le_self b ha
  rw [Int.tdiv_eq_ediv_of_nonneg ha, wrap_i64 (by omega) (by omega), hc] at h
  exact h
theorem v_rem' {T U : TypeId} {x y : Operand} {k : IntKind} {a b c : Int} (hx : ev r x = .int k a) (hy : ev r y = .int k b) (ha : 0 ≤ a) (hb : 0 < b) (hc : a % b = c) : Val P (.binOp .rem T x y U) ty r w (.int k c) w := by
  have h := v_rem (P := P) (w := w) (ty := ty) (T := T) (U := U) hx hy (by omega)
  rw [Int.tmod_eq_emod_of_nonneg ha, hc] at h
  exact h

theorem v_lss {T U : TypeId} {x y : Operand} {k : IntKind} {a b : Int} (hx : ev r x = .int k a) (hy : ev r y = .int k b) : Val P (.binOp .lss T x y U) ty r w (.bool (decide (a < b))) w := by
  intro _ _ _ _
  simp [execOp, eqGuard, binOp, hx, hy, Op.intCmp]
theorem v_leq {T U : TypeId} {x y : Operand} {k : IntKind} {a b : Int} (hx : ev r x = .int k a) (hy : ev r y = .int k b) : Val P (.binOp .leq T x y U) ty r w (.bool (decide (a ≤ b))) w := by
  intro _ _ _ _
  simp [execOp, eqGuard, binOp, hx, hy, Op.intCmp]
theorem v_gtr {T U : TypeId} {x y : Operand} {k : IntKind} {a b : Int} (hx : ev r x = .int k a) (hy : ev r y = .int k b) : Val P (.binOp .gtr T x y U) ty r w (.bool (decide (b < a))) w := by
  intro _ _ _ _
  simp [execOp, eqGuard, binOp, hx, hy, Op.intCmp]
theorem v_geq {T U : TypeId} {x y : Operand} {k : IntKind} {a b : Int} (hx : ev r x = .int k a) (hy : ev r y = .int k b) : Val P (.binOp .geq T x y U) ty r w (.bool (decide (b ≤ a))) w := by
  intro _ _ _ _
  simp [execOp, eqGuard, binOp, hx, hy, Op.intCmp]
theorem v_eql {T U : TypeId} {x y : Operand} {k : IntKind} {a b : Int} (hx : ev r x = .int k a) (hy : ev r y = .int k b) : Val P (.binOp .eql T x y U) ty r w (.bool (decide (a = b))) w := by
  intro _ _ _ _
  simp [execOp, eqGuard, binOp, hx, hy, Op.intCmp]
  rfl
theorem v_neq {T U : TypeId} {x y : Operand} {k : IntKind} {a b : Int} (hx : ev r x = .int k a) (hy : ev r y = .int k b) : Val P (.binOp .neq T x y U) ty r w (.bool (decide (¬ a = b))) w := by
  intro _ _ _ _
  simp [execOp, eqGuard, binOp, hx, hy, Op.intCmp]
  by_cases h : a = b <;> simp [h]

theorem v_eqb {T U : TypeId} {x y : Operand} {a b : Bool} (hT : P.underlying T = some .bool) (hx : ev r x = .bool a) (hy : ev r y = .bool b) : Val P (.binOp .eql T x y U) ty r w (.bool (a == b)) w := by
  intro _ _ _ _
  simp [execOp, eqGuard, binOp, hx, hy, run_equal_bool w T a b hT]
theorem v_neb {T U : TypeId} {x y : Operand} {a b : Bool} (hT : P.underlying T = some .bool) (hx : ev r x = .bool a) (hy : ev r y = .bool b) : Val P (.binOp .neq T x y U) ty r w (.bool !(a == b)) w := by
  intro _ _ _ _
  simp [execOp, eqGuard, binOp, hx, hy, run_equal_bool w T a b hT]

theorem run_eq_nil {T E : TypeId} {p : Option Addr} (hT : P.underlying T = some (.pointer E)) : (Op.equal T (.pointer p) (.pointer none)).run P w = .ok p.isNone w :=
  run_equal_pointer_nil w T p (by rw [hT]; simp [Program.pointee, hT])
theorem v_eq_nil {T E U : TypeId} {x y : Operand} {p : Option Addr} (hT : P.underlying T = some (.pointer E)) (hx : ev r x = .pointer p) (hy : ev r y = .pointer none) : Val P (.binOp .eql T x y U) ty r w (.bool p.isNone) w := by
  intro _ _ _ _
  simp [execOp, eqGuard, binOp, hx, hy, run_eq_nil hT]
theorem v_ne_nil {T E U : TypeId} {x y : Operand} {p : Option Addr} (hT : P.underlying T = some (.pointer E)) (hx : ev r x = .pointer p) (hy : ev r y = .pointer none) : Val P (.binOp .neq T x y U) ty r w (.bool !p.isNone) w := by
  intro _ _ _ _
  simp [execOp, eqGuard, binOp, hx, hy, run_eq_nil hT]

theorem v_max {x y : Operand} {tys : Array TypeId} {k j : IntKind} {a b : Int} (hx : ev r x = .int k a) (hy : ev r y = .int j b) : Val P (.call ⟨.builtin .max, #[x, y], tys⟩) ty r w (.int k (max a b)) w := by
  intro _ _ _ _
  simp [execOp, resolve, invoke, builtin, Builtin.max_, Builtin.max2, hx, hy]
  split <;> omega
theorem v_min {x y : Operand} {tys : Array TypeId} {k j : IntKind} {a b : Int} (hx : ev r x = .int k a) (hy : ev r y = .int j b) : Val P (.call ⟨.builtin .min, #[x, y], tys⟩) ty r w (.int k (min a b)) w := by
  intro _ _ _ _
  simp [execOp, resolve, invoke, builtin, Builtin.min_, Builtin.min2, hx, hy]
  split <;> omega

theorem v_and {T U : TypeId} {x y : Operand} {k : IntKind} {a b : Int} (hx : ev r x = .int k a) (hy : ev r y = .int k b) : Val P (.binOp .and T x y U) ty r w (.int k (k.wrap (BitVec.ofInt k.bits a &&& BitVec.ofInt k.bits b).toNat)) w := by
  intro _ _ _ _
  simp [execOp, eqGuard, binOp, hx, hy, Op.intBits]
theorem v_or {T U : TypeId} {x y : Operand} {k : IntKind} {a b : Int} (hx : ev r x = .int k a) (hy : ev r y = .int k b) : Val P (.binOp .or T x y U) ty r w (.int k (k.wrap (BitVec.ofInt k.bits a ||| BitVec.ofInt k.bits b).toNat)) w := by
  intro _ _ _ _
  simp [execOp, eqGuard, binOp, hx, hy, Op.intBits]
theorem v_xor {T U : TypeId} {x y : Operand} {k : IntKind} {a b : Int} (hx : ev r x = .int k a) (hy : ev r y = .int k b) : Val P (.binOp .xor T x y U) ty r w (.int k (k.wrap (BitVec.ofInt k.bits a ^^^ BitVec.ofInt k.bits b).toNat)) w := by
  intro _ _ _ _
  simp [execOp, eqGuard, binOp, hx, hy, Op.intBits]
theorem v_shl {T U : TypeId} {x y : Operand} {k j : IntKind} {a b : Int} (hx : ev r x = .int k a) (hy : ev r y = .int j b) (h0 : 0 ≤ b) : Val P (.binOp .shl T x y U) ty r w (.int k (k.wrap (a * 2 ^ (min b.toNat k.bits)))) w := by
  intro _ _ _ _
  simp [execOp, eqGuard, binOp, hx, hy, Op.shift, Int.not_lt.2 h0]
theorem v_shr {T U : TypeId} {x y : Operand} {k j : IntKind} {a b : Int} (hx : ev r x = .int k a) (hy : ev r y = .int j b) (h0 : 0 ≤ b) : Val P (.binOp .shr T x y U) ty r w (.int k (a.fdiv (2 ^ (min b.toNat k.bits)))) w := by
  intro _ _ _ _
  simp [execOp, eqGuard, binOp, hx, hy, Op.shift, Int.not_lt.2 h0]

theorem v_mkfunc {f : Fn} {first captured : Array Operand} {l1 l2 : List Value} (h1 : first.toList.map (ev r) = l1) (h2 : captured.toList.map (ev r) = l2) : Val P (.makeFunc f first captured) ty r w (.func f l1.toArray l2.toArray) w := by
  intro _ _ _ _
  have e1 : first.map (ev r) = l1.toArray := Array.toList_inj.mp (by rw [Array.toList_map, h1])
  have e2 : captured.map (ev r) = l2.toArray := Array.toList_inj.mp (by rw [Array.toList_map, h2])
  simp [execOp, Instr.makeFunc, e1, e2]

end val
end K
end Go.Proofs.Ytkbmhhbclbgdpaa
