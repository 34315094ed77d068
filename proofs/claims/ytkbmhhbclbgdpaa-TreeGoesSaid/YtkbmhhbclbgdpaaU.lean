/-
  Words of 32 and 64 bits.
-/
import Derived.Test.YtkbmhhbclbgdpaaG
namespace Go.Proofs.Ytkbmhhbclbgdpaa
open Go Go.RowKit
namespace K

def u32 (x : UInt32) : Value := .int .u32 x.toNat
def u64 (x : UInt64) : Value := .int .u64 x.toNat
def ws (l : List UInt32) : List Value := l.map u32
def arr32 (l : List UInt32) : Value := .agg (ws l).toArray

theorem length_ws (l : List UInt32) : (ws l).length = l.length := by simp [ws]
theorem one_u32 (x : UInt32) : (u32 x).oneCell' = true := rfl
theorem one_u64 (x : UInt64) : (u64 x).oneCell' = true := rfl
theorem one_ws (l : List UInt32) : ∀ u ∈ ws l, u.oneCell' = true := by
  intro u hu
  obtain ⟨x, _, rfl⟩ := List.mem_map.1 hu
  rfl

def shl32 (x : UInt32) (n : Nat) : UInt32 := UInt32.ofNat (x.toNat * 2 ^ n)
def shr32 (x : UInt32) (n : Nat) : UInt32 := UInt32.ofNat (x.toNat / 2 ^ n)
def shl64 (x : UInt64) (n : Nat) : UInt64 := UInt64.ofNat (x.toNat * 2 ^ n)
def shr64 (x : UInt64) (n : Nat) : UInt64 := UInt64.ofNat (x.toNat / 2 ^ n)

theorem wrap_u32 (n : Nat) : IntKind.u32.wrap n = ((UInt32.ofNat n).toNat : Int) := by
  rw [UInt32.toNat_ofNat']
  simp [IntKind.wrap, IntKind.signed, IntKind.bits]

theorem wrap_u64 (n : Nat) : IntKind.u64.wrap n = ((UInt64.ofNat n).toNat : Int) := by
  rw [UInt64.toNat_ofNat']
  simp [IntKind.wrap, IntKind.signed, IntKind.bits]

theorem wrap_u64_small {n : Nat} (h : n < 18446744073709551616) : IntKind.u64.wrap n = n := by
  rw [wrap_u64, UInt64.toNat_ofNat', Nat.mod_eq_of_lt h]

theorem wrap_u8 (n : Nat) : IntKind.u8.wrap n = ((UInt8.ofNat n).toNat : Int) := by
  rw [UInt8.toNat_ofNat']
  simp [IntKind.wrap, IntKind.signed, IntKind.bits]

section
variable {P : Program} {r : Fr} {w : World} {ty : TypeId} {T U : TypeId} {x y : Operand} {a b : UInt32} {p q : UInt64} {c d : UInt8}

theorem v_add32 (hx : ev r x = u32 a) (hy : ev r y = u32 b) : Val P (.binOp .add T x y U) ty r w (u32 (a + b)) w := by
  have h := v_add (P := P) (w := w) (ty := ty) (T := T) (U := U) hx hy
  rw [show ((a.toNat : Int) + (b.toNat : Int)) = ((a.toNat + b.toNat : Nat) : Int) by simp, wrap_u32] at h
  rw [show a + b = UInt32.ofNat (a.toNat + b.toNat) by
    apply UInt32.toNat_inj.mp
    rw [UInt32.toNat_add, UInt32.toNat_ofNat']]
  exact h

theorem v_mul32 (hx : ev r x = u32 a) (hy : ev r y = u32 b) : Val P (.binOp .mul T x y U) ty r w (u32 (a * b)) w := by
  have h := v_mul (P := P) (w := w) (ty := ty) (T := T) (U := U) hx hy
  rw [show ((a.toNat : Int) * (b.toNat : Int)) = ((a.toNat * b.toNat : Nat) : Int) by simp, wrap_u32] at h
  rw [show a * b = UInt32.ofNat (a.toNat * b.toNat) by
    apply UInt32.toNat_inj.mp
    rw [UInt32.toNat_mul, UInt32.toNat_ofNat']]
  exact h

theorem bv32 (a : UInt32) : BitVec.ofInt 32 (a.toNat : Int) = a.toBitVec := by
  rw [BitVec.ofInt_natCast]
  exact BitVec.ofNat_toNat 32 a.toBitVec |>.trans (by simp)

theorem v_and32 (hx : ev r x = u32 a) (hy : ev r y = u32 b) : Val P (.binOp .and T x y U) ty r w (u32 (a &&& b)) w := by
  have h := v_and (P := P) (w := w) (ty := ty) (T := T) (U := U) hx hy
  rw [show IntKind.u32.bits = 32 from rfl, bv32, bv32, wrap_u32] at h
  rw [show a &&& b = UInt32.ofNat (a.toBitVec &&& b.toBitVec).toNat by
    apply UInt32.toNat_inj.mp
    rw [UInt32.toNat_ofNat', Nat.mod_eq_of_lt (a.toBitVec &&& b.toBitVec).isLt]
    rfl]
  exact h

theorem v_or32 (hx : ev r x = u32 a) (hy : ev r y = u32 b) : Val P (.binOp .or T x y U) ty r w (u32 (a ||| b)) w := by
  have h := v_or (P := P) (w := w) (ty := ty) (T := T) (U := U) hx hy
  rw [show IntKind.u32.bits = 32 from rfl, bv32, bv32, wrap_u32] at h
  rw [show a ||| b = UInt32.ofNat (a.toBitVec ||| b.toBitVec).toNat by
    apply UInt32.toNat_inj.mp
    rw [UInt32.toNat_ofNat', Nat.mod_eq_of_lt (a.toBitVec ||| b.toBitVec).isLt]
    rfl]
  exact h

theorem v_xor32 (hx : ev r x = u32 a) (hy : ev r y = u32 b) : Val P (.binOp .xor T x y U) ty r w (u32 (a ^^^ b)) w := by
  have h := v_xor (P := P) (w := w) (ty := ty) (T := T) (U := U) hx hy
  rw [show IntKind.u32.bits = 32 from rfl, bv32, bv32, wrap_u32] at h
  rw [show a ^^^ b = UInt32.ofNat (a.toBitVec ^^^ b.toBitVec).toNat by
    apply UInt32.toNat_inj.mp
    rw [UInt32.toNat_ofNat', Nat.mod_eq_of_lt (a.toBitVec ^^^ b.toBitVec).isLt]
    rfl]
  exact h

theorem v_not32 {t : TypeId} (hT : P.underlying t = some (.int .u32)) (hx : ev r x = u32 a) : Val P (.unOp .xor t x) ty r w (u32 (a ^^^ 0xffffffff)) w := by
  intro _ _ _ _
  have e : (IntKind.u32.wrap (BitVec.ofInt 32 IntKind.u32.max ^^^ BitVec.ofInt 32 (a.toNat : Int)).toNat) = ((a ^^^ 0xffffffff : UInt32).toNat : Int) := by
    rw [bv32, wrap_u32, UInt32.toNat_ofNat', Nat.mod_eq_of_lt (BitVec.isLt _), BitVec.xor_comm]
    rfl
  have e2 : (execOp (ev r) ⟨‹_›, .unOp .xor t x, ty, ‹_›, ‹_›, ‹_›⟩).run P w = .ok (.value (.int .u32 (IntKind.u32.wrap (BitVec.ofInt 32 IntKind.u32.max ^^^ BitVec.ofInt 32 (a.toNat : Int)).toNat))) w := by
    simp [execOp, hx, Op.unary, u32, Op.intBits, IntKind.signed, IntKind.bits]
    rfl
  rw [e2, e]
  rfl

theorem pow_min {z n m : Nat} (h : n ≤ m) : z * 2 ^ (min n m) = z * 2 ^ n := by rw [Nat.min_eq_left h]

theorem v_shl32 {k : IntKind} (n : Nat) (hx : ev r x = u32 a) (hy : ev r y = .int k n) (hn : n ≤ 32) : Val P (.binOp .shl T x y U) ty r w (u32 (shl32 a n)) w := by
  have h := v_shl (P := P) (w := w) (ty := ty) (T := T) (U := U) hx hy (by omega)
  rw [show IntKind.u32.bits = 32 from rfl, Int.toNat_natCast, Nat.min_eq_left hn, show ((a.toNat : Int) * 2 ^ n) = ((a.toNat * 2 ^ n : Nat) : Int) by simp, wrap_u32] at h
  exact h

theorem v_shr32 {k : IntKind} (n : Nat) (hx : ev r x = u32 a) (hy : ev r y = .int k n) (hn : n ≤ 32) : Val P (.binOp .shr T x y U) ty r w (u32 (shr32 a n)) w := by
  have h := v_shr (P := P) (w := w) (ty := ty) (T := T) (U := U) hx hy (by omega)
  have e : ((a.toNat : Int)).fdiv (2 ^ n) = ((a.toNat / 2 ^ n : Nat) : Int) := by
    rw [Int.fdiv_eq_ediv_of_nonneg _ (Int.le_of_lt (Int.pow_pos (by decide))), Int.natCast_ediv, Int.natCast_pow]
    rfl
  rw [show IntKind.u32.bits = 32 from rfl, Int.toNat_natCast, Nat.min_eq_left hn, e] at h
  have hlt : a.toNat / 2 ^ n < 2 ^ 32 := Nat.lt_of_le_of_lt (Nat.div_le_self _ _) a.toNat_lt
  have e2 : (shr32 a n).toNat = a.toNat / 2 ^ n := by
    unfold shr32
    rw [UInt32.toNat_ofNat', Nat.mod_eq_of_lt hlt]
  unfold u32
  rw [e2]
  exact h

theorem v_add64 (hx : ev r x = u64 p) (hy : ev r y = u64 q) : Val P (.binOp .add T x y U) ty r w (u64 (p + q)) w := by
  have h := v_add (P := P) (w := w) (ty := ty) (T := T) (U := U) hx hy
  rw [show ((p.toNat : Int) + (q.toNat : Int)) = ((p.toNat + q.toNat : Nat) : Int) by simp, wrap_u64] at h
  rw [show p + q = UInt64.ofNat (p.toNat + q.toNat) by
    apply UInt64.toNat_inj.mp
    rw [UInt64.toNat_add, UInt64.toNat_ofNat']]
  exact h

theorem v_mul64 (hx : ev r x = u64 p) (hy : ev r y = u64 q) : Val P (.binOp .mul T x y U) ty r w (u64 (p * q)) w := by
  have h := v_mul (P := P) (w := w) (ty := ty) (T := T) (U := U) hx hy
  rw [show ((p.toNat : Int) * (q.toNat : Int)) = ((p.toNat * q.toNat : Nat) : Int) by simp, wrap_u64] at h
  rw [show p * q = UInt64.ofNat (p.toNat * q.toNat) by
    apply UInt64.toNat_inj.mp
    rw [UInt64.toNat_mul, UInt64.toNat_ofNat']]
  exact h

theorem v_shl64 {k : IntKind} (n : Nat) (hx : ev r x = u64 p) (hy : ev r y = .int k n) (hn : n ≤ 64) : Val P (.binOp .shl T x y U) ty r w (u64 (shl64 p n)) w := by
  have h := v_shl (P := P) (w := w) (ty := ty) (T := T) (U := U) hx hy (by omega)
  rw [show IntKind.u64.bits = 64 from rfl, Int.toNat_natCast, Nat.min_eq_left hn, show ((p.toNat : Int) * 2 ^ n) = ((p.toNat * 2 ^ n : Nat) : Int) by simp, wrap_u64] at h
  exact h

theorem v_shr64 {k : IntKind} (n : Nat) (hx : ev r x = u64 p) (hy : ev r y = .int k n) (hn : n ≤ 64) : Val P (.binOp .shr T x y U) ty r w (u64 (shr64 p n)) w := by
  have h := v_shr (P := P) (w := w) (ty := ty) (T := T) (U := U) hx hy (by omega)
  have e : ((p.toNat : Int)).fdiv (2 ^ n) = ((p.toNat / 2 ^ n : Nat) : Int) := by
    rw [Int.fdiv_eq_ediv_of_nonneg _ (Int.le_of_lt (Int.pow_pos (by decide))), Int.natCast_ediv, Int.natCast_pow]
    rfl
  rw [show IntKind.u64.bits = 64 from rfl, Int.toNat_natCast, Nat.min_eq_left hn, e] at h
  have hlt : p.toNat / 2 ^ n < 2 ^ 64 := Nat.lt_of_le_of_lt (Nat.div_le_self _ _) p.toNat_lt
  have e2 : (shr64 p n).toNat = p.toNat / 2 ^ n := by
    unfold shr64
    rw [UInt64.toNat_ofNat', Nat.mod_eq_of_lt hlt]
  unfold u64
  rw [e2]
  exact h

theorem v_conv8_32 {D : TypeDesc} (hT : P.underlying T = some D) (hU : P.underlying U = some (.int .u32)) (hx : ev r x = u8 c) : Val P (.convert T U x) ty r w (u32 (UInt32.ofNat c.toNat)) w := by
  have h := v_conv (P := P) (w := w) (ty := ty) hT hU hx
  rw [wrap_u32] at h
  exact h

theorem v_conv32_8 {D : TypeDesc} (hT : P.underlying T = some D) (hU : P.underlying U = some (.int .u8)) (hx : ev r x = u32 a) : Val P (.convert T U x) ty r w (u8 (UInt8.ofNat a.toNat)) w := by
  have h := v_conv (P := P) (w := w) (ty := ty) hT hU hx
  rw [wrap_u8] at h
  exact h

theorem v_conv64_8 {D : TypeDesc} (hT : P.underlying T = some D) (hU : P.underlying U = some (.int .u8)) (hx : ev r x = u64 p) : Val P (.convert T U x) ty r w (u8 (UInt8.ofNat p.toNat)) w := by
  have h := v_conv (P := P) (w := w) (ty := ty) hT hU hx
  rw [wrap_u8] at h
  exact h

theorem v_convi_64 {D : TypeDesc} {k : IntKind} {n : Nat} (hT : P.underlying T = some D) (hU : P.underlying U = some (.int .u64)) (hx : ev r x = .int k n) : Val P (.convert T U x) ty r w (u64 (UInt64.ofNat n)) w := by
  have h := v_conv (P := P) (w := w) (ty := ty) hT hU hx
  rw [wrap_u64] at h
  exact h

theorem v_rem64 (hx : ev r x = u64 p) (hy : ev r y = u64 q) (h0 : 0 < q.toNat) : Val P (.binOp .rem T x y U) ty r w (u64 (p % q)) w := by
  have h := v_rem' (P := P) (w := w) (ty := ty) (T := T) (U := U) (c := ((p % q).toNat : Int)) hx hy (by omega) (by omega) (by rw [UInt64.toNat_mod]; rfl)
  exact h

end
theorem SlM.ptr1 {m : Mem} {v : Value} {size k : Nat} {xs : List Value} (hx : SlM m v size k xs) (hi : 0 < k) (hs : 0 < size) : ∃ b o cap, v = .slice (some ⟨b, o, none⟩) k cap ∧ k ≤ cap := by
  obtain ⟨hl, a, cap, rfl, hk, hn, hc⟩ := hx
  have hpos : 0 < xs.length := by rw [hl]; exact Nat.mul_pos hi hs
  obtain ⟨b, o, c, t, fr, ha, _, _⟩ := hc 0 xs[0] (List.getElem?_eq_getElem hpos)
  subst ha
  exact ⟨b, o, cap, rfl, hk⟩

theorem SlM.rdB {P : Program} {T bytes : Nat} (tf : TyF P T false 1 bytes) {m : Mem} {b o cap k : Nat} {l : List UInt8} (i : Nat) (hx : SlM m (.slice (some ⟨b, o, none⟩) k cap) 1 k (bs l)) (hi : i < l.length) {w : World} (him : Im m w) : Reads P w T ⟨b, o + i * 1, none⟩ (u8 l[i]) := by
  have hk : l.length = k := by have := hx.1; simpa [bs] using this
  obtain ⟨b', o', cap', h, _, hr⟩ := hx.elem P (i := i) (by omega) (by omega)
  simp only [Value.slice.injEq, Option.some.injEq, Addr.mk.injEq, and_true] at h
  obtain ⟨⟨rfl, rfl⟩, _⟩ := h
  have := hr him (off := 0) (v' := u8 l[i]) tf (by
    have e : cellsAt (bs l) 1 i = [u8 l[i]] := by simp [cellsAt, bs, List.drop_eq_getElem_cons, hi]
    rw [e]
    rfl)
  simpa using this

theorem SlM.subB {m : Mem} {a : Option Addr} {cap : Nat} {l : List UInt8} (i j : Nat) (hx : SlM m (.slice a l.length cap) 1 l.length (bs l)) (hij : i ≤ j) (hj : j ≤ l.length) :
    SlM m (.slice (sliceOff a cap i 1) (j - i) (cap - i)) 1 (j - i) (bs ((l.drop i).take (j - i))) := by
  have hs := hx.sub rfl (l := i) (h := j) hij hj (by omega)
  have e : ((bs l).drop (i * 1)).take ((j - i) * 1) = bs ((l.drop i).take (j - i)) := by
    unfold bs
    rw [List.map_take, List.map_drop, Nat.mul_one, Nat.mul_one]
  rw [e] at hs
  exact hs

/-- Bytes of a block, as a slice. -/
theorem SlM.ofBlock {m : Mem} {b o cap : Nat} {c : Array Value} {t : TypeId} {fr : Nat × Nat} {l : List UInt8} {pre post : List Value} (hm : m b = some (.cells c t fr)) (hc : c.toList = pre ++ bs l ++ post) (ho : o = pre.length) (hcap : l.length ≤ cap) : SlM m (.slice (some ⟨b, o, none⟩) l.length cap) 1 l.length (bs l) := by
  refine SlM.of hm (by simp [bs]) hcap fun j u hj => ?_
  subst ho
  rw [← Array.getElem?_toList, hc, List.append_assoc, List.getElem?_append_right (by omega), Nat.add_sub_cancel_left, List.getElem?_append_left]
  · exact hj
  · rcases Nat.lt_or_ge j (bs l).length with h | h
    · exact h
    · rw [List.getElem?_eq_none h] at hj; cases hj

theorem v_sla {P : Program} {r : Fr} {w : World} {ty : TypeId} {T E : TypeId} {agg : Bool} {size bytes n : Nat} {x : Operand} {lo hi : Option Operand} {b o : Nat} (l h : Nat) (hT : P.underlying T = some (.array n E)) (tf : TyF P E agg size bytes)
    (hx : ev r x = .pointer (some ⟨b, o, none⟩)) (hlo : BoundIs r lo 0 l) (hhi : BoundIs r hi n h) (h1 : l ≤ h) (h2 : h ≤ n) (hl : l < n) :
    Val P (.slice T x lo hi none) ty r w (.slice (some ⟨b, o + l * size, none⟩) (h - l) (n - l)) w := by
  have := v_slice_a (P := P) (r := r) (w := w) (ty := ty) hT tf hx hlo hhi h1 h2
  rw [if_neg (by omega), add_at] at this
  exact this

theorem set_app {A B : List Value} {x y : Value} {n : Nat} (h : n = A.length) : (A ++ y :: B).toArray.setIfInBounds n x = (A ++ x :: B).toArray := by
  subst h
  simp

theorem getV_ws {L : List UInt32} {X : List Value} {o j : Nat} (ho : o = j) (hj : j < L.length) : getV false 1 (ws L ++ X).toArray o = some (u32 (L.getD j 0)) := by
  subst ho
  unfold getV
  simp only [Bool.false_eq_true, if_false]
  rw [List.getElem?_append_left (by simpa [ws] using hj)]
  simp [ws, List.getD, hj]

theorem set_ws {L : List UInt32} {X : List Value} {o i : Nat} {y : UInt32} (ho : o = i) (hi : i < L.length) : (ws L ++ X).toArray.setIfInBounds o (u32 y) = (ws (L.set i y) ++ X).toArray := by
  subst ho
  apply Array.toList_inj.mp
  rw [Array.toList_setIfInBounds]
  simp only [ws]
  rw [List.set_append_left _ _ (by simpa using hi), List.map_set]

theorem getV_wse {L : List UInt32} {o j : Nat} (ho : o = j) (hj : j < L.length) : getV false 1 (ws L).toArray o = some (u32 (L.getD j 0)) := by
  have := getV_ws (X := []) ho hj
  simpa using this

theorem v_build_fill {P : Program} {r : Fr} {w : World} {ty : TypeId} {T E : TypeId} {z : Value} {k : Nat} {agg : Bool} {size bytes : Nat} {parts : Array (Nat × Operand)} {c' : Array Value} (vals : List (Nat × Value)) (hz : TyZ P T z) (hT : P.underlying T = some (.array k E)) (tf : TyF P E agg size bytes)
    (hvs : (parts.toList.map fun p => (p.1, ev r p.2)) = vals) (hf : Instr.fill (fun i => some (i * size, size)) z.cells vals = some c') : Val P (.build T parts) ty r w (.agg c') w := by
  intro _ _ _ _
  have hm : (parts.map fun p => (p.1, ev r p.2)).toList = parts.toList.map fun p => (p.1, ev r p.2) := by simp
  subst hvs
  simp only [execOp, Instr.build, Sem.run_bind, hz.run, Result.andThen_ok, run_underlying hT, tf.sz]
  rw [hm, hf]
  rfl

section
variable {P : Program} {n : Nat} {ops : Array Oper} {Q : Po} {rest : List Oper} {r : Fr} {w : World} {d : Nat} {ty : TypeId} {pos : String} {after : Array Edge} {m0 m : Mem} {F : List Nat} {w0 : World} {Es : List Ent}

theorem row_len {v : Value} {e size k : Nat} {xs : List Value} (h : (rowE v e size k xs).holds w) (hk : 0 < k) : ∃ g cap, v = .slice (some ⟨g, 0, none⟩) k cap := by
  rcases h.2 with ⟨_, h0⟩ | ⟨g, cap, cur, rfl, _⟩
  · omega
  · exact ⟨g, cap, rfl⟩

theorem nilRow (st : St m0 m F w0 w Es) (e size : Nat) : St m0 m F w0 w (rowE (.slice none 0 0) e size 0 [] :: Es) :=
  st.new (E := rowE (.slice none 0 0) e size 0 []) ⟨rfl, rfl, rfl, Nat.le_refl _, fun _ _ _ => rfl, by simp [rowE, Value.ownBlock]⟩ ⟨by simp, .inl ⟨rfl, rfl⟩⟩

/-- A slice cut to its length, capacity and all. -/
theorem v_slice_full {T E bytes size : Nat} {agg : Bool} {x y z : Operand} {a : Option Addr} {len cap h : Nat} (hT : P.underlying T = some (.slice E)) (tf : TyF P E agg size bytes)
    (hx : ev r x = .slice a len cap) (hy : ev r y = .int .i64 h) (hz : ev r z = .int .i64 h) (hc : h ≤ cap) : Val P (.slice T x none (some y) (some z)) ty r w (.slice a h h) w := by
  intro _ _ _ _
  have e : (if h = 0 then a else a.map (·.add (0 * size))) = a := by
    split
    · rfl
    · cases a with
      | none => rfl
      | some a => simp [Addr.add]
  simp [execOp, Instr.sliceAt, Instr.slice, run_underlying hT, hx, hy, hz, Instr.sliceBounds, Instr.sliceBound, asIntOf, tf.sz, hc]
  have e2 : (if h = 0 then a else a.map (·.add 0)) = a := by simpa using e
  simpa using e2

/-- Bytes appended to bytes that never change and have no room. -/
theorem wl_appFull {T E bytes j k : Nat} {a : Option Addr} {x : Value} {s y : Operand} {l l2 : List UInt8} (st : St m0 m [] w0 w Es) (hx : SlM m (.slice a k k) 1 l.length (bs l)) (hT : P.underlying T = some (.slice E)) (tf : TyF P E false 1 bytes) (hz : TyZ P E (.int .u8 0))
    (hs : ev r s = .slice a k k) (hy : ev r y = x) (src : Src P w x 1 j (bs l2)) (hb : (l.length + l2.length) * bytes ≤ 140737488355328) (h63 : l.length + l2.length ≤ 9223372036854775807) (hd : Nat.blt d n = true)
    (kk : ∀ m' v' w', (∀ k o, m k = some o → m' k = some o) → St m0 m' [] w0 w' Es → SlM m' v' 1 (l ++ l2).length (bs (l ++ l2)) → WL P n ops Q rest (upd d v' r) w') :
    WL P n ops Q (⟨some d, .call ⟨.builtin .append, #[s, y], #[T, T]⟩, ty, pos, after, none⟩ :: rest) r w := by
  have hj : l2.length = j := by have := src.length; simpa [bs] using this
  subst hj
  have hsrc := hx.src st.im (one_bs _) (P := P)
  have hkl : k = l.length := by obtain ⟨_, a', c', he, _⟩ := hx; cases he; rfl
  subst hkl
  by_cases h0 : l2.length = 0
  · have hl2 : l2 = [] := List.eq_nil_of_length_eq_zero h0
    subst hl2
    have hrun : (Builtin.append_ #[T, T] ty #[.slice a l.length l.length, x]).run P w = .ok (.slice a l.length l.length) w := by
      obtain ⟨i, hi, hsz, hby⟩ := tf.info
      have hc : (Builtin.firstCells 1 0 x).run P w = .ok #[] w := src.cells w rfl
      cases a <;> simp [Builtin.append_, run_underlying hT, sizeOf, typeInfo, hi, src.len, hsz, hc, bs, storeCells]
    refine wl_val (v := .slice a l.length l.length) (w' := w) ?_ hd (kk m _ w (fun _ _ h => h) st (by rw [List.append_nil]; exact hx))
    intro _ _ _ _
    simp [execOp, resolve, invoke, builtin, hs, hy, hrun]
  · obtain ⟨cap, h1, h2, h3⟩ := run_append_gen (ty := ty) (base := a) (sLen := l.length) (sCap := l.length) (olds := bs l) hT hT (.inr ⟨_, rfl⟩) tf hz (fun w' hw => hsrc.cells w' hw) src (by omega) h63 hb
    have t : Tch w (w.drew.alloc (.cells ((bs l).toArray ++ (bs l2).toArray ++ Builtin.zeroCells (Value.int .u8 0).cells (cap - (l.length + l2.length))) E)) [] [w.heap.size] :=
      ⟨rfl, rfl, rfl, by simp, fun j hj _ => heap_alloc_old w.drew _ hj, fun j hj => .inr (by simp at hj; omega)⟩
    have st2 := st.new (E := blk w.heap.size ((bs l).toArray ++ (bs l2).toArray ++ Builtin.zeroCells (Value.int .u8 0).cells (cap - (l.length + l2.length))) E) t (heap_alloc_new w.drew _)
    obtain ⟨m', hg, hm', st3⟩ := st2.freeze (i := 0) rfl (by simp)
    have hbs : bs (l ++ l2) = bs l ++ bs l2 := by simp [bs]
    have hlen : (l ++ l2).length = l.length + l2.length := by simp
    refine wl_val (v := .slice (some ⟨w.heap.size, 0, none⟩) (l.length + l2.length) cap) ?_ hd (kk m' _ _ hg.le st3 ?_)
    · intro _ _ _ _
      simp [execOp, resolve, invoke, builtin, hs, hy, h3]
    · rw [← hlen] at h1 ⊢
      refine SlM.of hm' (by simp [bs]) h1 fun j u hj => ?_
      rw [Nat.zero_add, ← Array.getElem?_toList]
      simp only [Array.toList_append]
      rw [List.getElem?_append_left]
      · rw [hbs] at hj; exact hj
      · rw [hbs] at hj
        rcases Nat.lt_or_ge j (bs l ++ bs l2).length with h | h
        · exact h
        · rw [List.getElem?_eq_none h] at hj; cases hj

/-- A row of one byte. -/
theorem wl_byte1 {T E bytes : Nat} {x : Operand} (c : UInt8) (hT : P.underlying T = some (.slice E)) (tf : TyF P E false 1 bytes) (hz : TyZ P E (.int .u8 0)) (hx : ev r x = u8 c) (st : St m0 m F w0 w Es) (hd : Nat.blt d n = true)
    (k : ∀ b w', St m0 m F w0 w' (blk b (bs [c]).toArray E :: Es) → WL P n ops Q rest (upd d (.slice (some ⟨b, 0, none⟩) 1 1) r) w') :
    WL P n ops Q (⟨some d, .buildSlice T 1 #[(0, x)], ty, pos, after, none⟩ :: rest) r w := by
  refine wl_buildSlice (c' := (bs [c]).toArray) [(0, u8 c)] hT tf hz (by decide) (by decide) (by simp [hx]) ⟨0, 1, rfl, rfl, by simp [size_madeCells], ?_⟩ st hd k
  have : (u8 c).cells.toList = bs [c] := rfl
  rw [this]
  exact setSeg_all (by simp [size_madeCells, bs])

/-- One byte appended to a row of one's own. -/
theorem wl_app1 {T E bytes b cap : Nat} {v : Value} {s y : Operand} {l : List UInt8} {c : UInt8} (st : St m0 m F w0 w (blk b (bs [c]).toArray E :: rowE v E 1 l.length (bs l) :: Es)) (hT : P.underlying T = some (.slice E)) (tf : TyF P E false 1 bytes) (hz : TyZ P E (.int .u8 0))
    (hs : ev r s = v) (hy : ev r y = .slice (some ⟨b, 0, none⟩) 1 cap) (hb : (l.length + 1) * bytes ≤ 140737488355328) (h63 : l.length + 1 ≤ 9223372036854775807) (hd : Nat.blt d n = true)
    (k : ∀ v' w', St m0 m F w0 w' (rowE v' E 1 (l ++ [c]).length (bs (l ++ [c])) :: Es) → v'.oneCell' = true → WL P n ops Q rest (upd d v' r) w') :
    WL P n ops Q (⟨some d, .call ⟨.builtin .append, #[s, y], #[T, T]⟩, ty, pos, after, none⟩ :: rest) r w := by
  refine wl_append (news := bs [c]) 1 st rfl hT hT (.inr ⟨_, rfl⟩) tf hz rfl hs hy (st.srcArr (off := 0) 0 rfl rfl (fun j u hj => by simpa using hj) (one_bs _)) h63 hb hd ?_
  intro v' w' _ st'
  have e : bs l ++ bs [c] = bs (l ++ [c]) := by simp [bs]
  have e2 : l.length + 1 = (l ++ [c]).length := by simp
  have st2 := st'.drop 0
  change St _ _ _ _ _ (rowE v' E 1 (l.length + 1) (bs l ++ bs [c]) :: Es) at st2
  rw [e, e2] at st2
  exact k v' w' st2 (row_one (st2.at (i := 0) rfl))

/-- A list of bytes appended to a row of one's own. -/
theorem wl_appB {T U E bytes j : Nat} {D : TypeDesc} {v x : Value} {s y : Operand} {l l2 : List UInt8} (st : St m0 m F w0 w (rowE v E 1 l.length (bs l) :: Es)) (hT : P.underlying T = some (.slice E)) (hU : P.underlying U = some D) (hD : D = .string ∨ ∃ E', D = .slice E') (tf : TyF P E false 1 bytes) (hz : TyZ P E (.int .u8 0))
    (hs : ev r s = v) (hy : ev r y = x) (src : Src P w x 1 j (bs l2)) (hb : (l.length + l2.length) * bytes ≤ 140737488355328) (h63 : l.length + l2.length ≤ 9223372036854775807) (hd : Nat.blt d n = true)
    (k : ∀ v' w', St m0 m F w0 w' (rowE v' E 1 (l ++ l2).length (bs (l ++ l2)) :: Es) → v'.oneCell' = true → WL P n ops Q rest (upd d v' r) w') :
    WL P n ops Q (⟨some d, .call ⟨.builtin .append, #[s, y], #[T, U]⟩, ty, pos, after, none⟩ :: rest) r w := by
  have hj : l2.length = j := by have := src.length; simpa [bs] using this
  subst hj
  refine wl_append (news := bs l2) 0 st rfl hT hU hD tf hz rfl hs hy src h63 hb hd ?_
  intro v' w' _ st'
  have e : bs l ++ bs l2 = bs (l ++ l2) := by simp [bs]
  change St _ _ _ _ _ (rowE v' E 1 (l.length + l2.length) (bs l ++ bs l2) :: Es) at st'
  rw [e, show l.length + l2.length = (l ++ l2).length by simp] at st'
  exact k v' w' st' (row_one (st'.at (i := 0) rfl))

/-- A row of bytes of one's own, for ever. -/
theorem St.bytesOut {v : Value} {E : TypeId} {l : List UInt8} (st : St m0 m [] w0 w (rowE v E 1 l.length (bs l) :: Es)) : Out m0 w0 w fun m' => SlM m' v 1 l.length (bs l) := by
  obtain ⟨m2, hg2, hm2, st2⟩ := st.freezeR (i := 0) rfl (by simp)
  have hrow := row_SlM (m := m2) (st.at (i := 0) rfl) hm2
  have st3 := st2.keepOnly (l := []) (List.nil_sublist _)
  exact st3.out hrow
end

theorem all4 {p : Nat → Prop} {a b c d : Nat} (ha : p a) (hb : p b) (hc : p c) (hd : p d) : ∀ k ∈ [a, b, c, d], p k := by
  intro k hk
  simp only [List.mem_cons, List.not_mem_nil, or_false] at hk
  rcases hk with rfl | rfl | rfl | rfl
  · exact ha
  · exact hb
  · exact hc
  · exact hd

def permC (D D' Pu Pu' L L' : List Nat) : Bool := D.all D'.contains && D'.all D.contains && Pu.all Pu'.contains && Pu'.all Pu.contains && L.all L'.contains

/-- The same done in another order, told by a reckoning. -/
theorem FL.permB {P : Program} {n : Nat} {ops : Array Oper} {Q : Po} {r : Fr} {w : World} {D Pu L : List Nat} (D' Pu' L' : List Nat) (hc : permC D D' Pu Pu' L L' = true) (h : FL P n ops Q D' Pu' L' r w) : FL P n ops Q D Pu L r w := by
  simp only [permC, Bool.and_eq_true] at hc
  obtain ⟨⟨⟨⟨h1, h2⟩, h3⟩, h4⟩, h5⟩ := hc
  have sub : ∀ {A B : List Nat}, A.all B.contains = true → ∀ i, i ∈ A → i ∈ B := fun {A B} h i hi => by
    have := List.all_eq_true.1 h i hi
    simpa using this
  refine FL.perm (fun i => ?_) (sub h3) (sub h4) (sub h5) h
  rw [Bool.eq_iff_iff]
  simp only [List.contains_iff_mem]
  exact ⟨sub h1 i, sub h2 i⟩

theorem fl_o {P : Program} {n : Nat} {ops : Array Oper} {Q : Po} {r : Fr} {w : World} {D Pu L : List Nat} {v : Value} (t : Nat) (h : r t = v) (k : FL P n ops Q D Pu L (upd t v r) w) : FL P n ops Q D Pu L r w := by
  rw [upd_eq h] at k
  exact k

section
variable {α : Type} {a b c : α} {l : List α}
theorem p3_1 : List.Perm (a :: b :: c :: l) (a :: b :: c :: l) := List.Perm.refl _
theorem p3_2 : List.Perm (a :: c :: b :: l) (a :: b :: c :: l) := List.Perm.cons _ (List.Perm.swap _ _ _)
theorem p3_3 : List.Perm (b :: a :: c :: l) (a :: b :: c :: l) := List.Perm.swap _ _ _
theorem p3_4 : List.Perm (b :: c :: a :: l) (a :: b :: c :: l) := (List.Perm.cons _ (List.Perm.swap _ _ _)).trans (List.Perm.swap _ _ _)
theorem p3_5 : List.Perm (c :: a :: b :: l) (a :: b :: c :: l) := (List.Perm.swap _ _ _).trans (List.Perm.cons _ (List.Perm.swap _ _ _))
theorem p3_6 : List.Perm (c :: b :: a :: l) (a :: b :: c :: l) := (p3_4 (a := b) (b := c) (c := a) (l := l) |> fun _ => (List.Perm.swap b c (a :: l)).trans ((List.Perm.cons b (List.Perm.swap a c l)).trans (List.Perm.swap a b (c :: l))))
end

end K
end Go.Proofs.Ytkbmhhbclbgdpaa
