/-
  Several texts as one: La Pa Y Z Pc Pd Zb Zc Zd Pe Lb Lc Ld V Le Lf.
-/
import Derived.RangeFuncRecord
import Derived.RangeFuncCalls
import Derived.OwnWalkIn
import Derived.LoopIn
import Derived.Scope
import Derived.RangeFuncLeaves
import Derived.OrdersIn
import Derived.ProofKit
import Derived.Deep.Slices
import Derived.Laws.StructEq
import Derived.Test.YtjjpakjgppmmdaaMk2

/-
  Numbers as bytes; what is hashed of a root.
-/
namespace Go.Proofs.Ytjjpakjgppmmdaa
open Go Go.RowKit K SH

/-- Eight bytes, the highest first. -/
def num8 (n : UInt64) : List UInt8 := (List.range 8).map fun i => UInt8.ofNat (n.toNat / 2 ^ (56 - 8 * i))

theorem length_num8 (n : UInt64) : (num8 n).length = 8 := by simp [num8]

theorem fill_ones {z : Value} (hz : z.oneCell' = true) : ∀ (vs pre : List Value), (∀ v ∈ vs, v.oneCell' = true) →
    FillR (fun i => some (i * 1, 1)) (pre ++ List.replicate vs.length z).toArray ((vs.zipIdx pre.length).map fun p : Value × Nat => (p.2, p.1)) (pre ++ vs).toArray
  | [], pre, _ => by simp [FillR]
  | v :: vs, pre, h => by
    have hv := h v (by simp)
    simp only [List.zipIdx_cons, List.map_cons]
    refine fill_one pre [z] (List.replicate vs.length z) (by simp [List.replicate_succ]) (by simp) (by rw [cells_one hv]; rfl) ?_
    rw [cells_one hv]
    have ih := fill_ones hz vs (pre ++ [v]) fun u hu => h u (by simp [hu])
    simpa using ih

section
variable {P : Program} {n : Nat} {ops : Array Oper} {Q : Po} {rest : List Oper} {r : Fr} {w : World} {d : Nat} {ty : TypeId} {pos : String} {after : Array Edge} {m0 m : Mem} {F : List Nat} {w0 : World} {Es : List Ent}

/-- Pieces. -/
theorem wl_pcsN {k : Nat} {parts : Array (Nat × Operand)} (L : List (List UInt8 × Value)) (st : St m0 m [] w0 w Es) (hk : L.length = k) (hk0 : 0 < k) (hk1 : k ≤ 1000) (hvs : (parts.toList.map fun p => (p.1, ev r p.2)) = ((L.map fun x => x.2).zipIdx.map fun p : Value × Nat => (p.2, p.1)))
    (hL : ∀ x ∈ L, SlM m x.2 1 x.1.length (bs x.1)) (hd : Nat.blt d n = true)
    (kk : ∀ m' v' w', (∀ k o, m k = some o → m' k = some o) → St m0 m' [] w0 w' Es → PcsM m' v' L → WL Try.prog n ops Q rest (upd d v' r) w') :
    WL Try.prog n ops Q (⟨some d, .buildSlice 102 k parts, ty, pos, after, none⟩ :: rest) r w := by
  have hone : ∀ v ∈ L.map (·.2), v.oneCell' = true := by
    intro v hv
    obtain ⟨x, hx, rfl⟩ := List.mem_map.1 hv
    obtain ⟨_, a, c, h, _⟩ := hL x hx
    rw [h]
    rfl
  have hfill := fill_ones (z := .slice none 0 0) rfl (L.map (·.2)) [] hone
  refine wl_buildSlice (c' := (L.map (·.2)).toArray) _ Try.underlying102 TF.t41 TF.z41 (by omega) (by omega) hvs ?_ st hd ?_
  · have e : madeCells (Value.slice none 0 0).cells (k * 1) = ([] ++ List.replicate (L.map fun x : List UInt8 × Value => x.2).length (Value.slice none 0 0)).toArray := by
      rw [show (Value.slice none 0 0).cells = Array.replicate (0 + 1) (Value.slice none 0 0) from rfl, madeCells_rep]
      simp [hk]
    rw [e]
    exact hfill
  · intro b w' st'
    obtain ⟨m1, hg1, hm1, st1⟩ := st'.freeze (i := 0) rfl (by simp)
    refine kk m1 _ w' hg1.le st1 ⟨?_, fun z hz => (hL z hz).mono hg1.le⟩
    rw [← hk]
    exact SlM.of hm1 (by simp) (Nat.le_refl _) (fun j u hj => by simpa using hj)

variable {T U : TypeId} {x y : Operand}
theorem v_quo64 {p q : UInt64} (hx : ev r x = u64 p) (hy : ev r y = u64 q) (h0 : 0 < q.toNat) : Val P (.binOp .quo T x y U) ty r w (u64 (p / q)) w := by
  have h := v_quo (P := P) (w := w) (ty := ty) (T := T) (U := U) hx hy (by omega)
  have e : IntKind.u64.wrap ((p.toNat : Int).tdiv q.toNat) = ((p / q).toNat : Int) := by
    rw [Int.tdiv_eq_ediv_of_nonneg (by omega), ← Int.natCast_ediv, wrap_u64_small, UInt64.toNat_div]
    exact Nat.lt_of_le_of_lt (Nat.div_le_self _ _) p.toNat_lt
  rw [e] at h
  exact h
end

section
variable {m : Mem} {wI : World}

theorem c_number {n : UInt64} (him : Im m wI) : Ret Try.prog 87 #[u64 n] wI fun v w' => Out m wI w' fun m' => SlM m' v 1 (num8 n).length (bs (num8 n)) := by
  have st := St.start him
  refine ret_of Try.call87 Try.func87 rfl Try.ntmps87 Try.results87 rfl ?_
  refine wc_seq ?_
  refine wc_region ?_
  refine wl_val (v_assign' (by conv => (lhs; whnf))) rfl ?_
  refine wl_nil ?_
  refine then_go ?_
  refine wc_seq ?_
  refine wc_region ?_
  refine wl_alloc TF.z126 st rfl ?_
  intro b3 w st
  refine wl_nil ?_
  refine then_go ?_
  refine wc_seq ?_
  refine wc_seq ?_
  refine wc_region ?_
  refine wl_val (v_move' (by conv => (lhs; whnf))) rfl ?_
  refine wl_nil ?_
  refine then_go ?_
  refine wc_block ?_
  refine wc_loop (S := Nat) (fun q r w' => ∃ i, q + i = 8 ∧ r 0 = u64 n ∧ r 3 = .pointer (some ⟨b3, 0, none⟩) ∧ r 5 = .int .i64 i ∧ St m m [] wI w' [K.blk b3 (bs ((num8 n).take i) ++ List.replicate (8 - i) (u8 0)).toArray 126]) id 8 ⟨0, rfl, rfl, rfl, rfl, st⟩ ?_
  rintro q r w2 ⟨i, hqi, h0, h3, h5, st⟩
  refine wc_o 0 h0 (wc_o 3 h3 (wc_o 5 h5 ?_))
  refine wc_seq ?_
  refine wc_region ?_
  refine wl_val (v_lss rfl rfl) rfl ?_
  refine wl_nil ?_
  refine then_go ?_
  refine wc_seq ?_
  refine wc_if rfl (fun h6 => ?_) (fun h6 => ?_)
  · refine wc_skip ?_
    refine then_go ?_
    refine wc_seq ?_
    refine wc_block ?_
    refine wc_seq ?_
    refine wc_region ?_
    refine wl_val (v_move' (by conv => (lhs; whnf))) rfl ?_
    refine wl_val (v_assign' (by conv => (lhs; whnf))) rfl ?_
    refine wl_nil ?_
    refine then_go ?_
    have hi : i < 8 := by omega
    have hni : i < (num8 n).length := by rw [length_num8]; exact hi
    have hb : UInt8.ofNat (shr64 n (56 - 8 * i)).toNat = (num8 n)[i] := by
      unfold shr64
      rw [UInt64.toNat_ofNat', Nat.mod_eq_of_lt (Nat.lt_of_le_of_lt (Nat.div_le_self _ _) n.toNat_lt)]
      simp [num8]
    refine wc_region ?_
    refine wl_val (v_move' (by conv => (lhs; whnf))) rfl ?_
    refine wl_val (v_move' (by conv => (lhs; whnf))) rfl ?_
    refine wl_val (v_move' (by conv => (lhs; whnf))) rfl ?_
    refine wl_val (v_mul' (c := ((8 * i : Nat) : Int)) rfl rfl (by omega) (by omega) (by omega)) rfl ?_
    refine wl_val (v_sub' (c := ((56 - 8 * i : Nat) : Int)) rfl rfl (by omega) (by omega) (by omega)) rfl ?_
    refine wl_val (v_shr64 (p := n) (56 - 8 * i) rfl rfl (by omega)) rfl ?_
    refine wl_val (v_conv64_8 Try.underlying24 Try.underlying5 rfl) rfl ?_
    refine wl_val (v_iaa i Try.underlying126 TF.t5 rfl rfl (by first | rfl | omega) (by first | omega | (dsimp only at *; omega))) rfl ?_
    refine wl_store1 (off := 0 + i * 1) 0 st rfl TF.t5 rfl (by conv => (lhs; whnf)) rfl (by simp [length_bs, length_num8]; omega) ?_
    intro w st
    refine wl_nil ?_
    refine block_go (then_go ?_)
    refine wc_region ?_
    refine wl_val (v_add' rfl rfl rfl (by first | omega | (dsimp only at *; omega)) (by first | omega | (dsimp only at *; omega))) rfl ?_
    refine wl_val (v_move' (by conv => (lhs; whnf))) rfl ?_
    refine wl_nil ?_
    refine then_go ?_
    refine ⟨q - 1, by simp; omega, i + 1, by omega, rfl, rfl, rfl, ?_⟩
    rw [show 8 - i = (8 - (i + 1)) + 1 by omega, List.replicate_succ] at st
    change St _ _ _ _ _ [K.blk b3 (((bs ((num8 n).take i) ++ u8 0 :: List.replicate (8 - (i + 1)) (u8 0)).toArray).setIfInBounds (0 + i * 1) (u8 _)) _] at st
    rw [set_app (by rw [length_bs, List.length_take, length_num8]; omega), hb] at st
    rw [List.take_succ_eq_append_getElem hni, bs, List.map_append]
    simpa [bs] using st
  · refine wc_exit (then_exit (then_exit (block_hit ?_)))
    refine then_go ?_
    refine wc_seq ?_
    have hi8 : i = 8 := by omega
    subst hi8
    rw [List.take_of_length_le (by rw [length_num8]; omega)] at st
    obtain ⟨m1, hg1, hm1, st⟩ := st.freeze (i := 0) rfl (by simp)
    have hs : SlM m1 (.slice (some ⟨b3, 0 + 0 * 1, none⟩) (8 - 0) (8 - 0)) 1 (num8 n).length (bs (num8 n)) := by
      have := SlM.ofBlock (o := 0) (cap := 8) (l := num8 n) (pre := []) (post := []) hm1 (by simp) rfl (by rw [length_num8]; omega)
      rw [length_num8] at this ⊢
      exact this
    refine wc_region ?_
    refine wl_val (v_sla 0 8 Try.underlying126 TF.t5 rfl rfl rfl (by omega) (by omega) (by omega)) rfl ?_
    refine wl_val (v_assign' (by conv => (lhs; whnf))) rfl ?_
    refine wl_nil ?_
    refine then_go ?_
    refine wc_ret ?_
    exact ret1 rfl ((st.keepOnly (l := []) (List.nil_sublist _)).out hs)

/-- The last bytes, of a number that is gone through from its end. -/
theorem num8_at {n : UInt64} {k : Nat} (hk : k < 8) : UInt8.ofNat (UInt64.ofNat (n.toNat / 256 ^ k) % 256).toNat = (num8 n)[7 - k]'(by rw [length_num8]; omega) := by
  have e : 2 ^ (56 - 8 * (7 - k)) = 256 ^ k := by
    rw [show 56 - 8 * (7 - k) = 8 * k by omega, Nat.pow_mul]
  simp only [num8, List.getElem_map, List.getElem_range]
  rw [e, UInt64.toNat_mod, UInt64.toNat_ofNat', Nat.mod_eq_of_lt (Nat.lt_of_le_of_lt (Nat.div_le_self _ _) n.toNat_lt)]
  rw [← UInt8.toNat_inj, UInt8.toNat_ofNat', UInt8.toNat_ofNat']
  simp

theorem div_step {n : UInt64} {k : Nat} : UInt64.ofNat (n.toNat / 256 ^ k) / 256 = UInt64.ofNat (n.toNat / 256 ^ (k + 1)) := by
  rw [← UInt64.toNat_inj, UInt64.toNat_div, UInt64.toNat_ofNat', UInt64.toNat_ofNat', Nat.mod_eq_of_lt (Nat.lt_of_le_of_lt (Nat.div_le_self _ _) n.toNat_lt), Nat.mod_eq_of_lt (Nat.lt_of_le_of_lt (Nat.div_le_self _ _) n.toNat_lt), Nat.pow_succ]
  exact Nat.div_div_eq_div_mul _ _ _

theorem c_rnumber {n : UInt64} (him : Im m wI) : Ret Try.prog 65 #[u64 n] wI fun v w' => Out m wI w' fun m' => SlM m' v 1 (num8 n).length (bs (num8 n)) := by
  have st := St.start him
  refine ret_of Try.call65 Try.func65 rfl Try.ntmps65 Try.results65 rfl ?_
  refine wc_seq ?_
  refine wc_region ?_
  refine wl_val (v_assign' (by conv => (lhs; whnf))) rfl ?_
  refine wl_nil ?_
  refine then_go ?_
  refine wc_seq ?_
  refine wc_region ?_
  refine wl_make (l := 8) (c := 8) Try.underlying41 TF.t5 TF.z5 rfl rfl rfl rfl (by omega) (by omega) (by omega) (by omega) st rfl ?_
  intro b5 w st
  have st : St m m [] wI w [K.blk b5 (List.replicate 8 (u8 0) ++ bs ((num8 n).drop 8)).toArray 5] := by
    have e : madeCells (Value.int .u8 0).cells (8 * 1) = (List.replicate 8 (u8 0)).toArray := by
      rw [show (Value.int .u8 0).cells = Array.replicate (0 + 1) (Value.int .u8 0) from rfl, madeCells_rep]
      rfl
    rw [List.drop_eq_nil_of_le (by rw [length_num8]; omega)]
    rw [e] at st
    simpa [bs] using st
  refine wl_val (v_assign' (by conv => (lhs; whnf))) rfl ?_
  refine wl_nil ?_
  refine then_go ?_
  refine wc_seq ?_
  refine wc_seq ?_
  refine wc_region ?_
  refine wl_val (v_assign' (by conv => (lhs; whnf))) rfl ?_
  refine wl_nil ?_
  refine then_go ?_
  refine wc_block ?_
  refine wc_loop (S := Nat) (fun q r w' => ∃ (k : Nat), q + k = 8 ∧ r 0 = u64 (UInt64.ofNat (n.toNat / 256 ^ k)) ∧ r 3 = .slice (some ⟨b5, 0, none⟩) 8 8 ∧ r 4 = .int .i64 (7 - (k : Int)) ∧ St m m [] wI w' [K.blk b5 (List.replicate (8 - k) (u8 0) ++ bs ((num8 n).drop (8 - k))).toArray 5]) id 8 ⟨0, rfl, by rw [Nat.pow_zero, Nat.div_one, UInt64.ofNat_toNat]; rfl, rfl, rfl, st⟩ ?_
  rintro q r w2 ⟨k, hqk, h0, h3, h4, st⟩
  refine wc_o 0 h0 (wc_o 3 h3 (wc_o 4 h4 ?_))
  refine wc_seq ?_
  refine wc_seq ?_
  refine wc_region ?_
  refine wl_val (v_move' (by conv => (lhs; whnf))) rfl ?_
  refine wl_val (v_geq rfl rfl) rfl ?_
  refine wl_nil ?_
  refine then_go ?_
  refine wc_if rfl (fun h7 => ?_) (fun h7 => ?_)
  · refine wc_skip ?_
    refine then_go ?_
    refine wc_seq ?_
    refine wc_block ?_
    refine wc_seq ?_
    have hk : k < 8 := by omega
    have hb := num8_at (n := n) hk
    have hq := div_step (n := n) (k := k)
    have hni : 7 - k < (num8 n).length := by rw [length_num8]; omega
    refine wc_region ?_
    refine wl_val (v_move' (by conv => (lhs; whnf))) rfl ?_
    refine wl_val (v_move' (by conv => (lhs; whnf))) rfl ?_
    refine wl_val (v_move' (by conv => (lhs; whnf))) rfl ?_
    refine wl_val (v_rem64 (q := 256) rfl rfl (by decide)) rfl ?_
    refine wl_val (v_conv64_8 Try.underlying24 Try.underlying5 rfl) rfl ?_
    refine wl_val (v_ias (7 - k) Try.underlying41 TF.t5 rfl rfl (by first | rfl | omega) (by first | omega | (dsimp only at *; omega))) rfl ?_
    refine wl_store1 (off := 0 + (7 - k) * 1) 0 st rfl TF.t5 rfl (by conv => (lhs; whnf)) rfl (by simp [length_bs, length_num8]; omega) ?_
    intro w st
    refine wl_nil ?_
    refine then_go ?_
    refine wc_region ?_
    refine wl_val (v_move' (by conv => (lhs; whnf))) rfl ?_
    refine wl_val (v_quo64 (q := 256) rfl rfl (by decide)) rfl ?_
    refine wl_val (v_assign' (by conv => (lhs; whnf))) rfl ?_
    refine wl_nil ?_
    refine block_go (then_go ?_)
    refine wc_region ?_
    refine wl_val (v_move' (by conv => (lhs; whnf))) rfl ?_
    refine wl_val (v_sub' (c := 7 - ((k + 1 : Nat) : Int)) rfl rfl (by omega) (by omega) (by omega)) rfl ?_
    refine wl_val (v_assign' (by conv => (lhs; whnf))) rfl ?_
    refine wl_nil ?_
    refine then_go ?_
    refine ⟨q - 1, by simp; omega, k + 1, by omega, by rw [← hq]; rfl, rfl, rfl, ?_⟩
    have e8 : 8 - k = (7 - k) + 1 := by omega
    rw [e8, List.replicate_succ'] at st
    change St _ _ _ _ _ [K.blk b5 (((List.replicate (7 - k) (u8 0) ++ [u8 0] ++ bs ((num8 n).drop (7 - k + 1))).toArray).setIfInBounds (0 + (7 - k) * 1) (u8 _)) _] at st
    rw [List.append_assoc, List.singleton_append, set_app (by simp), hb] at st
    rw [show 8 - (k + 1) = 7 - k by omega, List.drop_eq_getElem_cons hni]
    exact st
  · refine wc_exit (then_exit (then_exit (block_hit ?_)))
    refine then_go ?_
    refine wc_seq ?_
    refine wc_region ?_
    refine wl_val (v_move' (by conv => (lhs; whnf))) rfl ?_
    refine wl_val (v_assign' (by conv => (lhs; whnf))) rfl ?_
    refine wl_nil ?_
    refine then_go ?_
    refine wc_ret ?_
    have hk8 : k = 8 := by omega
    subst hk8
    obtain ⟨m1, hg1, hm1, st⟩ := st.freeze (i := 0) rfl (by simp)
    have hs : SlM m1 (.slice (some ⟨b5, 0, none⟩) 8 8) 1 (num8 n).length (bs (num8 n)) := by
      have := SlM.ofBlock (o := 0) (cap := 8) (l := num8 n) (pre := []) (post := []) hm1 (by simp) rfl (by rw [length_num8]; omega)
      rw [length_num8] at this ⊢
      exact this
    exact ret1 rfl ((st.keepOnly (l := []) (List.nil_sublist _)).out hs)

/-- A root. -/
structure Rt where
  epoch : UInt64
  prev : List UInt8
  tree : List UInt8
  next : List UInt8
deriving DecidableEq

def Rt.ok (t : Rt) : Prop := t.prev.length = 32 ∧ t.tree.length = 32 ∧ t.next.length = 32
def rtC (t : Rt) : List Value := u64 t.epoch :: (bs t.prev ++ (bs t.tree ++ bs t.next))
def rtV (t : Rt) : Value := .agg (rtC t).toArray
def rootB (t : Rt) : List UInt8 := 82 :: (num8 t.epoch ++ (t.prev ++ (t.tree ++ t.next)))

theorem length_rtC {t : Rt} (h : t.ok) : (rtC t).length = 97 := by
  obtain ⟨h1, h2, h3⟩ := h
  simp [rtC, length_bs, h1, h2, h3]
theorem one_rtC {t : Rt} : ∀ u ∈ rtC t, u.oneCell' = true := by
  intro u hu
  simp only [rtC, List.mem_cons, List.mem_append] at hu
  rcases hu with rfl | h | h | h
  · rfl
  · exact one_bs _ u h
  · exact one_bs _ u h
  · exact one_bs _ u h

theorem rootB_len {t : Rt} (h : t.ok) : (rootB t).length = 105 := by
  obtain ⟨h1, h2, h3⟩ := h
  simp [rootB, length_num8, h1, h2, h3]

/-- The pieces of a root that lies there. -/
theorem rt_pieces {m : Mem} {b : Nat} {t : Rt} {ty : TypeId} (h : t.ok) (hm : m b = some (.cells (rtC t).toArray ty (0, 0))) :
    SlM m (.slice (some ⟨b, 0 + 1 + 0 * 1, none⟩) (32 - 0) (32 - 0)) 1 t.prev.length (bs t.prev) ∧ SlM m (.slice (some ⟨b, 0 + 33 + 0 * 1, none⟩) (32 - 0) (32 - 0)) 1 t.tree.length (bs t.tree) ∧ SlM m (.slice (some ⟨b, 0 + 65 + 0 * 1, none⟩) (32 - 0) (32 - 0)) 1 t.next.length (bs t.next) := by
  obtain ⟨h1, h2, h3⟩ := h
  refine ⟨?_, ?_, ?_⟩
  · have := SlM.ofBlock (o := 1) (cap := 32) (l := t.prev) (pre := [u64 t.epoch]) (post := bs t.tree ++ bs t.next) hm (by simp [rtC]) rfl (by omega)
    rw [h1] at this ⊢
    exact this
  · have := SlM.ofBlock (o := 33) (cap := 32) (l := t.tree) (pre := u64 t.epoch :: bs t.prev) (post := bs t.next) hm (by simp [rtC]) (by simp [length_bs, h1]) (by omega)
    rw [h2] at this ⊢
    exact this
  · have := SlM.ofBlock (o := 65) (cap := 32) (l := t.next) (pre := u64 t.epoch :: (bs t.prev ++ bs t.tree)) (post := []) hm (by simp [rtC]) (by simp [length_bs, h1, h2]) (by omega)
    rw [h3] at this ⊢
    exact this

theorem c_rootb {t : Rt} (him : Im m wI) (h : t.ok) : Ret Try.prog 68 #[rtV t] wI fun v w' => Out m wI w' fun m' => SlM m' v 1 (rootB t).length (bs (rootB t)) := by
  have st := St.start him
  obtain ⟨q1, q2, q3⟩ := id h
  refine ret_of Try.call68 Try.func68 rfl Try.ntmps68 Try.results68 rfl ?_
  refine wc_seq ?_
  refine wc_region ?_
  refine wl_box (v := rtV t) rfl st rfl ?_
  intro b1 w st
  obtain ⟨m1, hg1, hm1, st⟩ := st.freeze (i := 0) rfl (by simp)
  change St _ _ _ _ _ [] at st
  refine wl_val (v_assign' (by conv => (lhs; whnf))) rfl ?_
  refine wl_nil ?_
  refine then_go ?_
  refine wc_seq ?_
  refine wc_draw TF.mixed ?_
  have st := st.pure (touch_drew _)
  refine fl_val 0 rfl (fun _ => (v_fa TF.f55_0 rfl)) rfl (by kernel_rfl) ?_
  refine fl_ld 1 rfl (v_load rfl (st.readm hm1 TF.t24 rfl)) (by kernel_rfl) ?_
  refine fl_val 3 rfl (fun _ => (v_fa TF.f55_1 rfl)) rfl (by kernel_rfl) ?_
  refine fl_val 4 rfl (fun _ => (v_sla 0 32 Try.underlying23 TF.t5 rfl rfl rfl (by omega) (by omega) (by omega))) rfl (by kernel_rfl) ?_
  refine fl_val 5 rfl (fun _ => (v_fa TF.f55_2 rfl)) rfl (by kernel_rfl) ?_
  refine fl_val 6 rfl (fun _ => (v_sla 0 32 Try.underlying23 TF.t5 rfl rfl rfl (by omega) (by omega) (by omega))) rfl (by kernel_rfl) ?_
  refine fl_val 7 rfl (fun _ => (v_fa TF.f55_3 rfl)) rfl (by kernel_rfl) ?_
  refine fl_val 8 rfl (fun _ => (v_sla 0 32 Try.underlying23 TF.t5 rfl rfl rfl (by omega) (by omega) (by omega))) rfl (by kernel_rfl) ?_
  refine fl_eff1 2 [8, 7, 6, 5, 4, 3, 0] [] (by kernel_rfl) ⟨obl_ld rfl rfl rfl (v_load rfl (st.readm hm1 TF.t24 rfl)), trivial⟩ rfl ?_
  refine wl_call rfl (c_number st.im) rfl ?_
  rintro v5 w ⟨t5, m2, hg2, hi2, hs⟩
  have st := st.grown hg2 t5 hi2
  have hm1 := hg2.le _ _ hm1
  obtain ⟨p1, p2, p3⟩ := rt_pieces h hm1
  refine wl_nil ⟨rfl, ?_⟩
  refine fl_eff1 9 [7, 5, 3, 0] [] (by kernel_rfl) trivial rfl ?_
  refine wl_pcsN [(num8 t.epoch, v5), (t.prev, _), (t.tree, _), (t.next, _)] st rfl (by decide) (by decide) rfl (by simp only [List.mem_cons, List.not_mem_nil, or_false]; rintro z (rfl | rfl | rfl | rfl) <;> first | exact hs | exact p1 | exact p2 | exact p3) rfl ?_
  intro m3 v12 w hle3 st hp3
  refine wl_nil ⟨rfl, ?_⟩
  refine fl_eff1 10 [7, 5, 3, 0] [] (by kernel_rfl) trivial rfl ?_
  have hj : ∀ a b c d, joinB [(num8 t.epoch, a), (t.prev, b), (t.tree, c), (t.next, d)] = num8 t.epoch ++ (t.prev ++ (t.tree ++ t.next)) := fun a b c d => by simp [joinB]
  refine wl_call rfl (c_begin (c := 82) st.im hp3 (by rw [hj]; simp [length_num8, q1, q2, q3]) (by simp)) rfl ?_
  rintro v13 w ⟨t13, m4, hg4, hi4, hs4⟩
  have st := st.grown hg4 t13 hi4
  rw [hj] at hs4
  refine wl_nil ⟨rfl, ?_⟩
  refine fl_eff1 11 [] [] (by kernel_rfl) trivial rfl ?_
  refine wl_val (v_assign' (by conv => (lhs; whnf))) rfl ?_
  refine wl_nil ⟨rfl, ?_⟩
  refine fl_nil (by kernel_rfl) trivial ?_
  refine then_go ?_
  refine wc_ret ?_
  exact ret1 rfl (st.out hs4)

theorem c_rrootb {t : Rt} (him : Im m wI) (h : t.ok) : Ret Try.prog 42 #[rtV t] wI fun v w' => Out m wI w' fun m' => SlM m' v 1 (rootB t).length (bs (rootB t)) := by
  have st := St.start him
  obtain ⟨q1, q2, q3⟩ := id h
  refine ret_of Try.call42 Try.func42 rfl Try.ntmps42 Try.results42 rfl ?_
  refine wc_seq ?_
  refine wc_region ?_
  refine wl_box (v := rtV t) rfl st rfl ?_
  intro b1 w st
  obtain ⟨m1, hg1, hm1, st⟩ := st.freeze (i := 0) rfl (by simp)
  change St _ _ _ _ _ [] at st
  refine wl_val (v_assign' (by conv => (lhs; whnf))) rfl ?_
  refine wl_nil ?_
  refine then_go ?_
  refine wc_seq ?_
  refine wc_draw TF.mixed ?_
  have st := st.pure (touch_drew _)
  refine fl_val 0 rfl (fun _ => (v_fa TF.f55_0 rfl)) rfl (by kernel_rfl) ?_
  refine fl_ld 1 rfl (v_load rfl (st.readm hm1 TF.t24 rfl)) (by kernel_rfl) ?_
  refine fl_val 3 rfl (fun _ => (v_fa TF.f55_1 rfl)) rfl (by kernel_rfl) ?_
  refine fl_val 4 rfl (fun _ => (v_sla 0 32 Try.underlying23 TF.t5 rfl rfl rfl (by omega) (by omega) (by omega))) rfl (by kernel_rfl) ?_
  refine fl_val 5 rfl (fun _ => (v_fa TF.f55_2 rfl)) rfl (by kernel_rfl) ?_
  refine fl_val 6 rfl (fun _ => (v_sla 0 32 Try.underlying23 TF.t5 rfl rfl rfl (by omega) (by omega) (by omega))) rfl (by kernel_rfl) ?_
  refine fl_val 7 rfl (fun _ => (v_fa TF.f55_3 rfl)) rfl (by kernel_rfl) ?_
  refine fl_val 8 rfl (fun _ => (v_sla 0 32 Try.underlying23 TF.t5 rfl rfl rfl (by omega) (by omega) (by omega))) rfl (by kernel_rfl) ?_
  refine fl_eff1 2 [8, 7, 6, 5, 4, 3, 0] [] (by kernel_rfl) ⟨obl_ld rfl rfl rfl (v_load rfl (st.readm hm1 TF.t24 rfl)), trivial⟩ rfl ?_
  refine wl_call rfl (c_rnumber st.im) rfl ?_
  rintro v5 w ⟨t5, m2, hg2, hi2, hs⟩
  have st := st.grown hg2 t5 hi2
  have hm1 := hg2.le _ _ hm1
  obtain ⟨p1, p2, p3⟩ := rt_pieces h hm1
  refine wl_nil ⟨rfl, ?_⟩
  refine fl_eff1 9 [7, 5, 3, 0] [] (by kernel_rfl) trivial rfl ?_
  refine wl_pcsN [(num8 t.epoch, v5), (t.prev, _), (t.tree, _), (t.next, _)] st rfl (by decide) (by decide) rfl (by simp only [List.mem_cons, List.not_mem_nil, or_false]; rintro z (rfl | rfl | rfl | rfl) <;> first | exact hs | exact p1 | exact p2 | exact p3) rfl ?_
  intro m3 v12 w hle3 st hp3
  refine wl_nil ⟨rfl, ?_⟩
  refine fl_eff1 10 [7, 5, 3, 0] [] (by kernel_rfl) trivial rfl ?_
  have hj : ∀ a b c d, joinB [(num8 t.epoch, a), (t.prev, b), (t.tree, c), (t.next, d)] = num8 t.epoch ++ (t.prev ++ (t.tree ++ t.next)) := fun a b c d => by simp [joinB]
  refine wl_call rfl (c_sign (c := 82) st.im hp3 (by rw [hj]; simp [length_num8, q1, q2, q3]) (by simp)) rfl ?_
  rintro v13 w ⟨t13, m4, hg4, hi4, hs4⟩
  have st := st.grown hg4 t13 hi4
  rw [hj] at hs4
  refine wl_nil ⟨rfl, ?_⟩
  refine fl_eff1 11 [] [] (by kernel_rfl) trivial rfl ?_
  refine wl_val (v_assign' (by conv => (lhs; whnf))) rfl ?_
  refine wl_nil ⟨rfl, ?_⟩
  refine fl_nil (by kernel_rfl) trivial ?_
  refine then_go ?_
  refine wc_ret ?_
  exact ret1 rfl (st.out hs4)

theorem c_r3root {t : Rt} (him : Im m wI) (h : t.ok) : Ret Try.prog 72 #[rtV t] wI fun v w' => Tch wI w' [] [] ∧ v = arr (sum (rootB t)) := by
  have st := St.start him
  refine ret_of Try.call72 Try.func72 rfl Try.ntmps72 Try.results72 rfl ?_
  refine wc_seq ?_
  refine wc_region ?_
  refine wl_box (v := rtV t) rfl st rfl ?_
  intro b1 w st
  refine wl_alloc TF.z23 st rfl ?_
  intro b2 w st
  refine wl_nil ?_
  refine then_go ?_
  refine wc_seq ?_
  refine wc_region ?_
  refine wl_val (v_load rfl (st.reads (v := rtV t) 1 rfl TF.t55 (getV_all (by rw [rtV]; simp [Value.cells, length_rtC h])))) rfl ?_
  refine wl_call rfl (c_rrootb st.im h) rfl ?_
  rintro v4 w ⟨t4, m2, hg2, hi2, hs⟩
  have st := st.grown hg2 t4 hi2
  refine wl_call rfl (c_ref3of st.im hs (by rw [rootB_len h]; decide)) rfl ?_
  rintro v5 w ⟨t5, rfl⟩
  have st := st.pure t5
  refine wl_storeW (cs := (bs (sum (rootB t))).toArray) 0 st rfl TF.t23 rfl rfl (by simp [length_bs, length_sum]) rfl (fun u hu => one_bs _ u (by simpa using hu)) ?_
  intro w st
  refine wl_nil ?_
  refine then_go ?_
  refine wc_ret ?_
  exact ret1c rfl (st.reads 0 rfl TF.t23 (getV_all (by simp [length_bs, length_sum]))) ⟨(st.keepOnly (l := []) (List.nil_sublist _)).touch, rfl⟩
end
end Go.Proofs.Ytjjpakjgppmmdaa

/-
  Bits of a digest: the program's and the reference's.
-/
namespace Go.Proofs.Ytjjpakjgppmmdaa
open Go Go.RowKit K

abbrev By := List UInt8

namespace PT
def bitN (x j : Nat) : Bool := x.testBit j
/-- A digest's bit, the highest one of its first byte first. -/
def bit (d : By) (i : Nat) : Bool := (d.getD (i / 8) 0).toNat.testBit (7 - i % 8)
def bitI (d : By) (i : Int) : Bool := if 0 ≤ i ∧ i < 256 then bit d i.toNat else false
end PT
open PT

section
variable {P : Program} {r : Fr} {w : World} {ty : TypeId} {T U : TypeId} {x y : Operand}

theorem v_shr128 {k : IntKind} (j : Nat) (hx : ev r x = .int .u8 128) (hy : ev r y = .int k j) (hj : j < 8) : Val P (.binOp .shr T x y U) ty r w (.int .u8 (2 ^ (7 - j) : Nat)) w := by
  have h := v_shr (P := P) (w := w) (ty := ty) (T := T) (U := U) hx hy (by omega)
  have e : (128 : Int).fdiv (2 ^ (min ((j : Int).toNat) IntKind.u8.bits)) = ((2 ^ (7 - j) : Nat) : Int) := by
    rw [Int.toNat_natCast]
    match j, hj with
    | 0, _ => rfl
    | 1, _ => rfl
    | 2, _ => rfl
    | 3, _ => rfl
    | 4, _ => rfl
    | 5, _ => rfl
    | 6, _ => rfl
    | 7, _ => rfl
  rw [e] at h
  exact h

theorem v_and8 {a : UInt8} (n : Nat) (hn : n < 256) (hx : ev r x = u8 a) (hy : ev r y = .int .u8 n) : Val P (.binOp .and T x y U) ty r w (.int .u8 (a.toNat &&& n : Nat)) w := by
  have h := v_and (P := P) (w := w) (ty := ty) (T := T) (U := U) hx hy
  have ha := a.toNat_lt
  have e : IntKind.u8.wrap ((BitVec.ofInt IntKind.u8.bits (a.toNat : Int) &&& BitVec.ofInt IntKind.u8.bits (n : Int)).toNat) = ((a.toNat &&& n : Nat) : Int) := by
    rw [show IntKind.u8.bits = 8 from rfl, BitVec.ofInt_natCast, BitVec.ofInt_natCast, BitVec.toNat_and, BitVec.toNat_ofNat, BitVec.toNat_ofNat, Nat.mod_eq_of_lt (by omega), Nat.mod_eq_of_lt (by omega), wrap_u8, UInt8.toNat_ofNat', Nat.mod_eq_of_lt]
    exact Nat.lt_of_le_of_lt Nat.and_le_right hn
  rw [e] at h
  exact h

theorem and_bit (a j : Nat) : decide (¬ ((a &&& 2 ^ j : Nat) : Int) = 0) = a.testBit j := by
  cases h : a.testBit j with
  | false =>
    have e : a &&& 2 ^ j = 0 := by
      apply Nat.eq_of_testBit_eq
      intro i
      rw [Nat.testBit_and, Nat.testBit_two_pow, Nat.zero_testBit]
      by_cases hij : j = i
      · subst hij; simp [h]
      · simp [hij]
    simp [e]
  | true =>
    have e : a &&& 2 ^ j ≠ 0 := fun e => by
      have h2 : (a &&& 2 ^ j).testBit j = true := by rw [Nat.testBit_and, Nat.testBit_two_pow]; simp [h]
      rw [e, Nat.zero_testBit] at h2
      cases h2
    simp only [decide_eq_true_eq]
    omega

theorem getV_bsd {l : By} {o j : Nat} (ho : o = j) (hj : j < l.length) : getV false 1 (bs l).toArray o = some (u8 (l.getD j 0)) := by
  subst ho
  unfold getV
  simp [bs, List.getD, hj]
end

section
variable {m : Mem} {wI : World}

theorem c_bit {d : By} {i : Int} (him : Im m wI) (hd : d.length = 32) : Ret Try.prog 83 #[arr d, .int .i64 i] wI fun v w' => Tch wI w' [] [] ∧ v = .bool (bitI d i) := by
  have st := St.start him
  refine ret_of Try.call83 Try.func83 rfl Try.ntmps83 Try.results83 rfl ?_
  refine wc_seq ?_
  refine wc_region ?_
  refine wl_box (v := arr d) rfl st rfl ?_
  intro b2 w st
  refine wl_val (v_assign' (by conv => (lhs; whnf))) rfl ?_
  refine wl_nil ?_
  refine then_go ?_
  refine wc_seq ?_
  by_cases h0 : 0 ≤ i
  · obtain ⟨k, rfl⟩ := Int.eq_ofNat_of_zero_le h0
    by_cases h1 : k < 256
    · refine wc_draw TF.mixed ?_
      have st := st.pure (touch_drew _)
      refine fl_val 0 rfl (fun _ => (v_move' (by conv => (lhs; whnf)))) rfl (by kernel_rfl) ?_
      refine fl_val 1 rfl (fun _ => (v_geq rfl rfl)) rfl (by kernel_rfl) ?_
      rw [show decide ((0 : Int) ≤ (k : Int)) = true from decide_eq_true h0]
      refine fl_val 2 rfl (fun _ => (v_move' (by conv => (lhs; whnf)))) rfl (by kernel_rfl) ?_
      refine fl_on 3 rfl rfl rfl rfl (fun _ => (v_move' (by conv => (lhs; whnf)))) rfl (by kernel_rfl) ?_
      refine fl_on 4 rfl rfl rfl rfl (fun _ => (v_lss rfl rfl)) rfl (by kernel_rfl) ?_
      rw [show decide ((k : Int) < 256) = true from decide_eq_true (by omega)]
      refine fl_val 5 rfl (fun _ => (v_pick rfl)) rfl (by kernel_rfl) ?_
      refine fl_val 6 rfl (fun _ => (v_move' (by conv => (lhs; whnf)))) rfl (by kernel_rfl) ?_
      refine fl_on 7 rfl rfl rfl rfl (fun _ => (v_move' (by conv => (lhs; whnf)))) rfl (by kernel_rfl) ?_
      refine fl_on 8 rfl rfl rfl rfl (fun _ => (v_quo' (c := ((k / 8 : Nat) : Int)) rfl rfl (by omega) (by omega) (by omega) (by omega))) rfl (by kernel_rfl) ?_
      refine fl_on 9 rfl rfl rfl rfl (fun _ => (v_iaa (k / 8) Try.underlying23 TF.t5 rfl rfl (by first | rfl | omega) (by first | omega | (dsimp only at *; omega)))) rfl (by kernel_rfl) ?_
      refine fl_ond 10 rfl rfl rfl rfl (v_load rfl (st.reads (v := u8 (d.getD (k / 8) 0)) 0 rfl TF.t5 (getV_bsd (j := k / 8) (by omega) (by omega)))) rfl (by kernel_rfl) ?_
      refine fl_on 11 rfl rfl rfl rfl (fun _ => (v_move' (by conv => (lhs; whnf)))) rfl (by kernel_rfl) ?_
      refine fl_on 12 rfl rfl rfl rfl (fun _ => (v_rem' (c := ((k % 8 : Nat) : Int)) rfl rfl (by omega) (by omega) (by omega))) rfl (by kernel_rfl) ?_
      refine fl_on 13 rfl rfl rfl rfl (fun _ => (v_shr128 (k % 8) rfl rfl (by omega))) rfl (by kernel_rfl) ?_
      refine fl_on 14 rfl rfl rfl rfl (fun _ => (v_and8 (2 ^ (7 - k % 8)) (Nat.lt_of_le_of_lt (Nat.pow_le_pow_right (by decide) (Nat.sub_le _ _)) (by decide)) rfl rfl)) rfl (by kernel_rfl) ?_
      refine fl_on 15 rfl rfl rfl rfl (fun _ => (v_neq rfl rfl)) rfl (by kernel_rfl) ?_
      rw [and_bit]
      refine fl_val 16 rfl (fun _ => (v_pick rfl)) rfl (by kernel_rfl) ?_
      refine fl_eff1 17 [] [] (by kernel_rfl) ⟨obl_on rfl rfl rfl rfl rfl (v_load rfl (st.reads (v := u8 (d.getD (k / 8) 0)) 0 rfl TF.t5 (getV_bsd (j := k / 8) (by omega) (by omega)))), trivial⟩ rfl ?_
      refine wl_val (v_assign' (by conv => (lhs; whnf))) rfl ?_
      refine wl_nil ⟨rfl, ?_⟩
      refine fl_nil (by kernel_rfl) trivial ?_
      refine then_go ?_
      refine wc_ret ?_
      exact ret1 rfl ⟨(st.keepOnly (l := []) (List.nil_sublist _)).touch, by rw [bitI, if_pos ⟨h0, by omega⟩]; rfl⟩
    · refine wc_draw TF.mixed ?_
      have st := st.pure (touch_drew _)
      refine fl_val 0 rfl (fun _ => (v_move' (by conv => (lhs; whnf)))) rfl (by kernel_rfl) ?_
      refine fl_val 1 rfl (fun _ => (v_geq rfl rfl)) rfl (by kernel_rfl) ?_
      rw [show decide ((0 : Int) ≤ (k : Int)) = true from decide_eq_true h0]
      refine fl_val 2 rfl (fun _ => (v_move' (by conv => (lhs; whnf)))) rfl (by kernel_rfl) ?_
      refine fl_on 3 rfl rfl rfl rfl (fun _ => (v_move' (by conv => (lhs; whnf)))) rfl (by kernel_rfl) ?_
      refine fl_on 4 rfl rfl rfl rfl (fun _ => (v_lss rfl rfl)) rfl (by kernel_rfl) ?_
      rw [show decide ((k : Int) < 256) = false from decide_eq_false (by omega)]
      refine fl_val 5 rfl (fun _ => (v_pick rfl)) rfl (by kernel_rfl) ?_
      refine fl_val 6 rfl (fun _ => (v_move' (by conv => (lhs; whnf)))) rfl (by kernel_rfl) ?_
      refine fl_off 7 rfl rfl rfl rfl rfl rfl (by kernel_rfl) ?_
      refine fl_off 8 rfl rfl rfl rfl rfl rfl (by kernel_rfl) ?_
      refine fl_off 9 rfl rfl rfl rfl rfl rfl (by kernel_rfl) ?_
      refine fl_offd 10 rfl rfl rfl rfl rfl rfl (by kernel_rfl) ?_
      refine fl_off 11 rfl rfl rfl rfl rfl rfl (by kernel_rfl) ?_
      refine fl_off 12 rfl rfl rfl rfl rfl rfl (by kernel_rfl) ?_
      refine fl_off 13 rfl rfl rfl rfl rfl rfl (by kernel_rfl) ?_
      refine fl_off 14 rfl rfl rfl rfl rfl rfl (by kernel_rfl) ?_
      refine fl_off 15 rfl rfl rfl rfl rfl rfl (by kernel_rfl) ?_
      refine fl_val 16 rfl (fun _ => (v_pick rfl)) rfl (by kernel_rfl) ?_
      refine fl_eff1 17 [] [] (by kernel_rfl) ⟨obl_off rfl rfl rfl rfl rfl rfl, trivial⟩ rfl ?_
      refine wl_val (v_assign' (by conv => (lhs; whnf))) rfl ?_
      refine wl_nil ⟨rfl, ?_⟩
      refine fl_nil (by kernel_rfl) trivial ?_
      refine then_go ?_
      refine wc_ret ?_
      exact ret1 rfl ⟨(st.keepOnly (l := []) (List.nil_sublist _)).touch, by rw [bitI, if_neg (by omega)]; rfl⟩
  · refine wc_draw TF.mixed ?_
    have st := st.pure (touch_drew _)
    refine fl_val 0 rfl (fun _ => (v_move' (by conv => (lhs; whnf)))) rfl (by kernel_rfl) ?_
    refine fl_val 1 rfl (fun _ => (v_geq rfl rfl)) rfl (by kernel_rfl) ?_
    rw [show decide ((0 : Int) ≤ i) = false from decide_eq_false h0]
    refine fl_val 2 rfl (fun _ => (v_move' (by conv => (lhs; whnf)))) rfl (by kernel_rfl) ?_
    refine fl_off 3 rfl rfl rfl rfl rfl rfl (by kernel_rfl) ?_
    refine fl_off 4 rfl rfl rfl rfl rfl rfl (by kernel_rfl) ?_
    refine fl_val 5 rfl (fun _ => (v_pick rfl)) rfl (by kernel_rfl) ?_
    refine fl_val 6 rfl (fun _ => (v_move' (by conv => (lhs; whnf)))) rfl (by kernel_rfl) ?_
    refine fl_off 7 rfl rfl rfl rfl rfl rfl (by kernel_rfl) ?_
    refine fl_off 8 rfl rfl rfl rfl rfl rfl (by kernel_rfl) ?_
    refine fl_off 9 rfl rfl rfl rfl rfl rfl (by kernel_rfl) ?_
    refine fl_offd 10 rfl rfl rfl rfl rfl rfl (by kernel_rfl) ?_
    refine fl_off 11 rfl rfl rfl rfl rfl rfl (by kernel_rfl) ?_
    refine fl_off 12 rfl rfl rfl rfl rfl rfl (by kernel_rfl) ?_
    refine fl_off 13 rfl rfl rfl rfl rfl rfl (by kernel_rfl) ?_
    refine fl_off 14 rfl rfl rfl rfl rfl rfl (by kernel_rfl) ?_
    refine fl_off 15 rfl rfl rfl rfl rfl rfl (by kernel_rfl) ?_
    refine fl_val 16 rfl (fun _ => (v_pick rfl)) rfl (by kernel_rfl) ?_
    refine fl_eff1 17 [] [] (by kernel_rfl) ⟨obl_off rfl rfl rfl rfl rfl rfl, trivial⟩ rfl ?_
    refine wl_val (v_assign' (by conv => (lhs; whnf))) rfl ?_
    refine wl_nil ⟨rfl, ?_⟩
    refine fl_nil (by kernel_rfl) trivial ?_
    refine then_go ?_
    refine wc_ret ?_
    exact ret1 rfl ⟨(st.keepOnly (l := []) (List.nil_sublist _)).touch, by rw [bitI, if_neg (by omega)]; rfl⟩

theorem div_bit (x s : Nat) : decide (((x / 2 ^ s % 2 : Nat) : Int) = 1) = x.testBit s := by
  rw [Nat.testBit_eq_decide_div_mod_eq]
  exact decide_eq_decide.2 (by omega)

theorem c_rbit {d : By} {i : Int} (him : Im m wI) (hd : d.length = 32) : Ret Try.prog 105 #[arr d, .int .i64 i] wI fun v w' => Tch wI w' [] [] ∧ v = .bool (bitI d i) := by
  have st := St.start him
  refine ret_of Try.call105 Try.func105 rfl Try.ntmps105 Try.results105 rfl ?_
  refine wc_seq ?_
  refine wc_region ?_
  refine wl_box (v := arr d) rfl st rfl ?_
  intro b2 w st
  refine wl_val (v_assign' (by conv => (lhs; whnf))) rfl ?_
  refine wl_nil ?_
  refine then_go ?_
  refine wc_seq ?_
  refine wc_seq ?_
  refine wc_region ?_
  refine wl_val (v_move' (by conv => (lhs; whnf))) rfl ?_
  refine wl_val (v_lss rfl rfl) rfl ?_
  refine wl_val (v_move' (by conv => (lhs; whnf))) rfl ?_
  by_cases hg2 : i < 0
  · rw [show decide (i < 0) = true from decide_eq_true hg2]
    refine wl_off rfl rfl rfl rfl ?_
    refine wl_off rfl rfl rfl rfl ?_
    refine wl_val (v_pick rfl) rfl ?_
    refine wl_nil ?_
    refine then_go ?_
    refine wc_true rfl ?_
    refine wc_seq ?_
    refine wc_region ?_
    refine wl_val (v_assign' (by conv => (lhs; whnf))) rfl ?_
    refine wl_nil ?_
    refine then_go ?_
    refine wc_ret (then_ret ?_)
    exact ret1 rfl ⟨(st.keepOnly (l := []) (List.nil_sublist _)).touch, by rw [bitI, if_neg (by omega)]; rfl⟩
  · rw [show decide (i < 0) = false from decide_eq_false hg2]
    refine wl_on rfl rfl ?_
    refine wl_val (v_move' (by conv => (lhs; whnf))) rfl ?_
    refine wl_on rfl rfl ?_
    refine wl_val (v_gtr rfl rfl) rfl ?_
    refine wl_val (v_pick rfl) rfl ?_
    refine wl_nil ?_
    refine then_go ?_
    refine wc_if rfl (fun h12 => ?_) (fun h12 => ?_)
    · refine wc_seq ?_
      refine wc_region ?_
      refine wl_val (v_assign' (by conv => (lhs; whnf))) rfl ?_
      refine wl_nil ?_
      refine then_go ?_
      refine wc_ret (then_ret ?_)
      exact ret1 rfl ⟨(st.keepOnly (l := []) (List.nil_sublist _)).touch, by rw [bitI, if_neg (by omega)]; rfl⟩
    · refine wc_skip ?_
      refine then_go ?_
      refine wc_seq ?_
      obtain ⟨k, rfl⟩ := Int.eq_ofNat_of_zero_le (show 0 ≤ i by omega)
      have hk : k < 256 := by omega
      obtain ⟨x, hx⟩ : ∃ x, x = (d.getD (k / 8) 0).toNat := ⟨_, rfl⟩
      have hx256 : x < 256 := by rw [hx]; exact (d.getD (k / 8) 0).toNat_lt
      refine wc_region ?_
      refine wl_val (v_move' (by conv => (lhs; whnf))) rfl ?_
      refine wl_val (v_quo' (c := ((k / 8 : Nat) : Int)) rfl rfl (by omega) (by omega) (by omega) (by omega)) rfl ?_
      refine wl_val (v_iaa (k / 8) Try.underlying23 TF.t5 rfl rfl (by first | rfl | omega) (by first | omega | (dsimp only at *; omega))) rfl ?_
      refine wl_val (v_load rfl (st.reads (v := u8 (d.getD (k / 8) 0)) 0 rfl TF.t5 (getV_bsd (j := k / 8) (by omega) (by omega)))) rfl ?_
      refine wl_val (v_conv Try.underlying5 Try.underlying3 rfl) rfl ?_
      rw [← hx, wrap_i64 (by omega) (by omega)]
      refine wl_val (v_assign' (by conv => (lhs; whnf))) rfl ?_
      refine wl_nil ?_
      refine then_go ?_
      refine wc_seq ?_
      refine wc_seq ?_
      refine wc_region ?_
      refine wl_val (v_assign' (by conv => (lhs; whnf))) rfl ?_
      refine wl_nil ?_
      refine then_go ?_
      refine wc_block ?_
      refine wc_loop (S := Nat) (fun q r w' => ∃ j, q + j = 7 - k % 8 ∧ r 1 = .int .i64 k ∧ r 5 = .int .i64 (x / 2 ^ j : Nat) ∧ r 6 = .int .i64 (7 - j : Nat) ∧ St m m [] wI w' [K.blk b2 (arr d).cells 23]) id (7 - k % 8) ⟨0, rfl, rfl, by rw [Nat.pow_zero, Nat.div_one]; rfl, rfl, st⟩ ?_
      rintro q r w2 ⟨j, hqj, h1, h5, h6, st⟩
      refine wc_o 1 h1 (wc_o 5 h5 (wc_o 6 h6 ?_))
      refine wc_seq ?_
      refine wc_seq ?_
      refine wc_region ?_
      refine wl_val (v_move' (by conv => (lhs; whnf))) rfl ?_
      refine wl_val (v_move' (by conv => (lhs; whnf))) rfl ?_
      refine wl_val (v_rem' (c := ((k % 8 : Nat) : Int)) rfl rfl (by omega) (by omega) (by omega)) rfl ?_
      refine wl_val (v_gtr rfl rfl) rfl ?_
      refine wl_nil ?_
      refine then_go ?_
      refine wc_if rfl (fun h21 => ?_) (fun h21 => ?_)
      · refine wc_skip ?_
        refine then_go ?_
        refine wc_seq ?_
        refine wc_block ?_
        have hxj : x / 2 ^ j ≤ x := Nat.div_le_self _ _
        refine wc_region ?_
        refine wl_val (v_move' (by conv => (lhs; whnf))) rfl ?_
        refine wl_val (v_quo' (c := ((x / 2 ^ (j + 1) : Nat) : Int)) rfl rfl (Int.natCast_nonneg _) (by omega) (by rw [Nat.pow_succ, ← Nat.div_div_eq_div_mul]; rfl) (Int.le_trans (Int.ofNat_le.2 hxj) (by omega))) rfl ?_
        refine wl_val (v_assign' (by conv => (lhs; whnf))) rfl ?_
        refine wl_nil ?_
        refine block_go (then_go ?_)
        refine wc_region ?_
        refine wl_val (v_move' (by conv => (lhs; whnf))) rfl ?_
        refine wl_val (v_sub' (c := ((7 - (j + 1) : Nat) : Int)) rfl rfl (by omega) (by omega) (by omega)) rfl ?_
        refine wl_val (v_assign' (by conv => (lhs; whnf))) rfl ?_
        refine wl_nil ?_
        refine then_go ?_
        exact ⟨q - 1, by simp; omega, j + 1, by omega, rfl, rfl, rfl, st⟩
      · refine wc_exit (then_exit (then_exit (block_hit ?_)))
        refine then_go ?_
        refine wc_seq ?_
        have hj : j = 7 - k % 8 := by omega
        subst hj
        have hxj : x / 2 ^ (7 - k % 8) ≤ x := Nat.div_le_self _ _
        refine wc_region ?_
        refine wl_val (v_move' (by conv => (lhs; whnf))) rfl ?_
        refine wl_val (v_rem' (c := ((x / 2 ^ (7 - k % 8) % 2 : Nat) : Int)) rfl rfl (Int.natCast_nonneg _) (by omega) rfl) rfl ?_
        refine wl_val (v_eql rfl rfl) rfl ?_
        rw [div_bit]
        refine wl_val (v_assign' (by conv => (lhs; whnf))) rfl ?_
        refine wl_nil ?_
        refine then_go ?_
        refine wc_ret ?_
        exact ret1 rfl ⟨(st.keepOnly (l := []) (List.nil_sublist _)).touch, by rw [bitI, if_pos (by omega)]; unfold bit; rw [hx]; rfl⟩
end
end Go.Proofs.Ytjjpakjgppmmdaa

/-
  A range over a function: bodies of rounds, and the statement.
-/
namespace Go.Proofs.Ytjjpakjgppmmdaa
open Go Go.RowKit
namespace K

/-- The widest fence, within a round or not. -/
abbrev FR (ρ : Option Nat) : Fence := { Fence.wide with round := ρ }

section
variable {P : Program} {ops : Array Oper} {Q : Exit → Act → World → Prop}

theorem callsIn_of {ρ : Option Nat} {n : Nat} {f : FuncId} {args : Array Value} {w : World} {R : Ending → World → Prop} (h : Calls P f args w R) : CallsIn (FR ρ) n P f args w R :=
  callsIn_wide (n := n).2 h

theorem rowsIn_of {ρ : Option Nat} {n : Nat} {row : String} {args : Array Value} {w : World} {R : Value → World → Prop} (h : Rows P row args w R) : RowsIn (FR ρ) n P row args w R :=
  fun c cs _ => let ⟨v, w', r, s⟩ := h c cs; ⟨v, w', r, stepsIn_wide.2 s⟩

theorem upon_in {ρ : Option Nat} {n : Nat} {o : Oper} {a : Act} {next : Act → World → Prop} : ∀ {x : Result Next}, o.upon P a next Q x → o.uponIn (FR ρ) n P a next Q x := by
  intro x h
  cases x with
  | ok v w' =>
    cases v with
    | value v => exact h
    | skip => exact h
    | defer d => exact h
    | enter f args => exact ⟨by simp [Fence.wide], callsIn_of h⟩
    | row row args => exact ⟨by simp [Fence.wide], rowsIn_of h⟩
    | _ => exact h.elim
  | halt e w' =>
    cases e <;> first | exact h | exact h.elim

def noDefer (ops : Array Oper) : Bool := ops.all fun o => match o.op with | .defer _ => false | _ => true

theorem noDefer_at {i : Nat} {o : Oper} (h : noDefer ops = true) (ho : ops[i]? = some o) : ∀ c, o.op ≠ .defer c := by
  intro c hc
  obtain ⟨hi, rfl⟩ := Array.getElem?_eq_some_iff.1 ho
  have := Array.all_eq_true.1 h i hi
  rw [hc] at this
  cases this

/-- What holds of a region's operations holds of them within a round. -/
theorem ops_in {ρ : Option Nat} {n : Nat} (hnd : noDefer ops = true) (hout : ¬ LetsOut Q) : ∀ (l : List Nat) (a : Act) (w : World), wpOps P ops Q l a w → wpOpsIn (FR ρ) n P ops Q l a w
  | [], _, _, h => h
  | i :: l, a, w, h => by
    simp only [wpOps, wpOpsIn] at h ⊢
    cases ho : ops[i]? with
    | none =>
      rw [ho] at h
      exact ops_in hnd hout l a w h
    | some o =>
      rw [ho] at h
      simp only at h ⊢
      split
      · rename_i hw
        rw [if_pos hw] at h
        rcases h with h | h
        · refine ⟨fun _ _ => trivial, ?_⟩
          rw [Oper.semAt_plain (FR ρ) a.eval o (noDefer_at hnd ho)]
          have h2 : o.upon P a (wpOps P ops Q l) Q ((execOp a.eval o).run P w) := h
          have h3 : o.upon P a (wpOpsIn (FR ρ) n P ops Q l) Q ((execOp a.eval o).run P w) := Oper.wp_mono (Q := Q) (ops_in hnd hout l) h2
          exact upon_in h3
        · exact absurd h.2 hout
      · rename_i hw
        rw [if_neg hw] at h
        exact ⟨fun _ _ => trivial, ops_in hnd hout l _ w h⟩
end

/-- A piece of code, within a round or not. -/
def WI (ρ : Option Nat) (P : Program) (n : Nat) (Q : Po) (c : Code) (r : Fr) (w : World) : Prop := ∀ k ds a, Has n ds a r → c.wpIn (FR ρ) k P (lift n ds Q) a w

section
variable {ρ : Option Nat} {P : Program} {n : Nat} {Q : Po} {r : Fr} {w : World}

theorem wi_of_wc {c : Code} (h : WC P n Q c r w) : WI none P n Q c r w := fun _ ds a ha => wpIn_wide.2 (h ds a ha)

theorem WI.mono {Q' : Po} {c : Code} (h : WI ρ P n Q c r w) (hq : ∀ e r w, Q e r w → Q' e r w) : WI ρ P n Q' c r w :=
  fun k ds a ha => wpIn_mono (h k ds a ha) fun _ _ _ ⟨r', h1, h2⟩ => ⟨r', h1, hq _ _ _ h2⟩

theorem wi_seq {x y : Code} (h : WI ρ P n (thenQ (fun r w => WI ρ P n Q y r w) Q) x r w) : WI ρ P n Q (x.seq y) r w := by
  intro k ds a ha
  refine wpIn_seq (wpIn_mono (h k ds a ha) ?_)
  rintro e a' w' ⟨r', h1, h2⟩
  cases e with
  | normal => exact h2 k ds a' h1
  | _ => exact ⟨r', h1, h2⟩

theorem wi_skip (h : Q .normal r w) : WI ρ P n Q .skip r w := fun _ _ _ ha => wpIn_skip ⟨r, ha, h⟩
theorem wi_ret (h : Q .ret r w) : WI ρ P n Q .ret r w := fun _ _ _ ha => wpIn_ret ⟨r, ha, h⟩
theorem wi_exit {i : Nat} (h : Q (.exit i) r w) : WI ρ P n Q (.exit i) r w := fun _ _ _ ha => wpIn_exit ⟨r, ha, h⟩
theorem wi_label {i : Nat} (h : Q .normal r w) : WI ρ P n Q (.label i) r w := fun _ _ _ ha => wpIn_label ⟨r, ha, h⟩

theorem wi_block {i : Nat} {c : Code} (h : WI ρ P n (inBlockQ i Q) c r w) : WI ρ P n Q (.block i c) r w := by
  intro k ds a ha
  refine wpIn_block (wpIn_mono (h k ds a ha) ?_)
  rintro e a' w' ⟨r', h1, h2⟩
  cases e with
  | exit j =>
    simp only [inBlockQ] at h2
    simp only [Exit.inBlock]
    split <;> rename_i hj
    · rw [if_pos hj] at h2; exact ⟨r', h1, h2⟩
    · rw [if_neg hj] at h2; exact ⟨r', h1, h2⟩
  | _ => exact ⟨r', h1, h2⟩

theorem wi_cond {c : Operand} {x y : Code} {t : Bool} (hc : ev r c = .bool t) (ht : t = true → WI ρ P n Q x r w) (hf : t = false → WI ρ P n Q y r w) : WI ρ P n Q (.cond c x y) r w :=
  fun k ds a ha => wpIn_cond_split (by rw [ha.eval]; exact hc) (fun h => ht h k ds a ha) (fun h => hf h k ds a ha)
theorem wi_true {c : Operand} {x y : Code} (hc : ev r c = .bool true) (h : WI ρ P n Q x r w) : WI ρ P n Q (.cond c x y) r w := wi_cond hc (fun _ => h) (fun h => by cases h)
theorem wi_false {c : Operand} {x y : Code} (hc : ev r c = .bool false) (h : WI ρ P n Q y r w) : WI ρ P n Q (.cond c x y) r w := wi_cond hc (fun h => by cases h) (fun _ => h)
theorem wi_if {c : Operand} {x y : Code} {p : Prop} {inst : Decidable p} (hc : ev r c = .bool (@decide p inst)) (ht : p → WI ρ P n Q x r w) (hf : ¬ p → WI ρ P n Q y r w) : WI ρ P n Q (.cond c x y) r w :=
  wi_cond hc (fun h => ht (of_decide_eq_true h)) (fun h => hf (of_decide_eq_false h))

theorem no_out {ds : List Deferred} (hQ : ∀ r w, Q .outgrown r w → False) : ¬ LetsOut (lift n ds Q) := by
  rintro ⟨_, w, r, _, h⟩
  exact hQ r w h

theorem wi_region {id : Nat} {l : List Oper} (hnd : noDefer l.toArray = true) (hQ : ∀ r w, Q .outgrown r w → False) (h : WL P n l.toArray Q l r w) : WI ρ P n Q (.region id l.toArray false) r w := by
  intro k ds a ha
  refine wpIn_region (ops_in hnd (no_out hQ) _ a w ?_)
  have h1 := h ds a ha
  rw [List.range_eq_range', ← Array.length_toList, wpOps_eq_wpList l.toArray.toList 0 (by simp)]
  simpa using h1

theorem wi_draw {id : Nat} {l : List Oper} (hm : P.follows .mixedOrders = true) (hnd : noDefer l.toArray = true) (hQ : ∀ r w, Q .outgrown r w → False) (h : FL P n l.toArray Q [] [] [] r w.drew) : WI ρ P n Q (.region id l.toArray true) r w := by
  intro k ds a ha
  refine wpIn_region_draw fun t => ops_in hnd (no_out hQ) _ a _ ?_
  simp only [Region.schedule, hm, Bool.true_or, if_true]
  refine wpAny_sound l.toArray.size t _ a _ ?_
  refine h (by simp) ds [] _ _ a ⟨by simp, by simp, by simp, fun i hi => ?_, ?_, ha.size, ha.defers, fun t _ => ha.val t⟩
  · rw [getD_replicate_false _ _ hi]; rfl
  · unfold unl
    exact Nat.le_trans (List.countP_le_length) (by simp)

theorem wi_cut {x y : Code} (M : Fr → World → Prop) (h1 : WI ρ P n (thenQ M Q) x r w) (h2 : ∀ r w, M r w → WI ρ P n Q y r w) : WI ρ P n Q (x.seq y) r w :=
  wi_seq (h1.mono fun e r w h => by cases e <;> first | exact h2 _ _ h | exact h)

theorem wi_mid {c : Code} {K : Fr → World → Prop} (M : Fr → World → Prop) (h1 : WI ρ P n (thenQ M Q) c r w) (h2 : ∀ r w, M r w → K r w) : WI ρ P n (thenQ K Q) c r w :=
  h1.mono fun e r w h => by cases e <;> first | exact h2 _ _ h | exact h

theorem wi_o {c : Code} {v : Value} (t : Nat) (h : r t = v) (k : WI ρ P n Q c (upd t v r) w) : WI ρ P n Q c r w := by
  rw [upd_eq h] at k
  exact k

/-- A loop, by what holds at each round's head. -/
theorem wi_loop {c : Code} {S : Type} (I : S → Fr → World → Prop) (mu : S → Nat) (s : S) (h0 : I s r w)
    (round : ∀ s r w, I s r w → WI ρ P n (thenQ (fun r' w' => ∃ s', mu s' < mu s ∧ I s' r' w') Q) c r w) : WI ρ P n Q (.loop c) r w := by
  intro k ds a ha b kk cs hro hb hr
  have key : ∀ j s a r w, mu s = j → Has n ds a r → I s r w →
      ∃ e a' w', lift n ds Q e a' w' ∧ ArrivesIn (Machine.fenced P (FR ρ)) P (lone (b.atR a (.code c :: .inLoop c :: kk)) cs w) b kk cs e a' w' := by
    intro j
    induction j using Nat.strongRecOn with
    | _ j ih =>
      intro s a r w hn hh hI
      obtain ⟨e, a₁, w₁, ⟨r₁, hr1, hq⟩, harr⟩ := round s r w hI k ds a hh b (.inLoop c :: kk) cs hro hb hr
      cases e with
      | normal =>
        obtain ⟨s', hlt, hI₁⟩ := hq
        obtain ⟨e₂, a₂, w₂, hq₂, harr₂⟩ := ih (mu s') (hn ▸ hlt) s' a₁ r₁ w₁ rfl hr1 hI₁
        exact ⟨e₂, a₂, w₂, hq₂, .of_steps (StepsIn.trans harr (.one (fenced_calm hb hr rfl) stepR_inLoop)) harr₂⟩
      | exit id => exact ⟨_, a₁, w₁, ⟨r₁, hr1, hq⟩, .pass (x := .inLoop c) rfl (fun _ _ => .inl (by simp)) harr⟩
      | goto l => exact ⟨_, a₁, w₁, ⟨r₁, hr1, hq⟩, .pass (x := .inLoop c) rfl (fun _ _ => .inl (by simp)) harr⟩
      | ret => exact ⟨_, a₁, w₁, ⟨r₁, hr1, hq⟩, .pass (x := .inLoop c) rfl (fun _ _ => .inl (by simp)) harr⟩
      | panic ch => exact ⟨_, a₁, w₁, ⟨r₁, hr1, hq⟩, .pass (x := .inLoop c) rfl (fun _ _ => .inl (by simp)) harr⟩
      | outgrown => exact ⟨_, a₁, w₁, ⟨r₁, hr1, hq⟩, .pass (x := .inLoop c) rfl (fun _ _ => .inl (by simp)) harr⟩
  obtain ⟨e, a', w', hq, harr⟩ := key _ s a r w rfl ha h0
  exact ⟨e, a', w', hq, .of_steps (.one (fenced_calm hb hr rfl) stepR_loop) harr⟩
end

/-- A scope in which nothing jumps to a label. -/
theorem wc_scope {P : Program} {n : Nat} {Q : Po} {r : Fr} {w : World} {c : Code} (hQ : ∀ l r w, Q (.goto l) r w → False) (h : WC P n Q c r w) : WC P n Q (.scope c) r w := by
  intro ds a ha
  refine wp_scope_straight (Code.wp_mono ?_ (h ds a ha))
  rintro e a' w' ⟨r', h1, h2⟩
  cases e with
  | goto l => exact (hQ l r' w' h2).elim
  | _ => exact ⟨r', h1, h2⟩

end K
end Go.Proofs.Ytjjpakjgppmmdaa

/-
  Functions that hold a range over a function.
-/
namespace Go.Proofs.Ytjjpakjgppmmdaa
open Go Go.RowKit
namespace K

/-- An object of memory that is no cells: one's own. -/
def objE (b : Nat) (o : Obj) : Ent where
  foot := [b]
  holds := fun w => w.heap[b]? = some o
  keep := fun h hw => by rw [h b (by simp)]; exact hw
  live := fun h k hk => by simp at hk; subst hk; exact lt_of_get h

theorem touch_putObj (w : World) (l : Nat) (o : Obj) : Tch w (w.putObj l o) [l] [l] :=
  ⟨rfl, rfl, rfl, by simp, fun k _ hk => World.putObj_heap_other (by simpa using hk), fun _ h => .inl h⟩

section
variable {m0 m : Mem} {F : List Nat} {w0 w : World} {Es : List Ent}

theorem St.putObj (st : St m0 m F w0 w Es) (i : Nat) {b : Nat} {o : Obj} (o' : Obj) (hi : Es[i]? = some (objE b o)) : St m0 m F w0 (w.putObj b o') (Es.set i (objE b o')) :=
  st.step i hi (touch_putObj w b o') (World.putObj_heap_same (lt_of_get (st.at hi)))

theorem St.newObj (st : St m0 m F w0 w Es) (o : Obj) : St m0 m F w0 (w.alloc o) (objE w.heap.size o :: Es) :=
  st.new (E := objE w.heap.size o) (touch_alloc w o) (World.alloc_heap_new w o)
end

abbrev PoX := List Deferred → Po

/-- A piece of code; what is asked behind it may speak of the deferred calls. -/
def WX (ds : List Deferred) (P : Program) (n : Nat) (Q : PoX) (c : Code) (r : Fr) (w : World) : Prop :=
  ∀ k a, Has n ds a r → c.wpIn (FR none) k P (fun e a w => ∃ ds' r', Has n ds' a r' ∧ Q ds' e r' w) a w

def thenX (K : List Deferred → Fr → World → Prop) (Q : PoX) : PoX
  | ds, .normal, r, w => K ds r w
  | ds, e, r, w => Q ds e r w

def inBlockX (id : Nat) (Q : PoX) : PoX
  | ds, .exit id', r, w => if id' = id then Q ds .normal r w else Q ds (.exit id') r w
  | ds, e, r, w => Q ds e r w

section
variable {P : Program} {n : Nat} {Q : PoX} {r : Fr} {w : World} {ds : List Deferred}

theorem wx_of_wc {c : Code} (h : WC P n (Q ds) c r w) : WX ds P n Q c r w :=
  fun k a ha => wpIn_mono (wi_of_wc h k ds a ha) fun _ _ _ ⟨r', h1, h2⟩ => ⟨ds, r', h1, h2⟩

theorem blockx_hit {i : Nat} (h : Q ds .normal r w) : inBlockX i Q ds (.exit i) r w := by
  simp only [inBlockX, if_pos]
  exact h

theorem wx_seq {x y : Code} (h : WX ds P n (thenX (fun ds r w => WX ds P n Q y r w) Q) x r w) : WX ds P n Q (x.seq y) r w := by
  intro k a ha
  refine wpIn_seq (wpIn_mono (h k a ha) ?_)
  rintro e a' w' ⟨ds', r', h1, h2⟩
  cases e with
  | normal => exact h2 k a' h1
  | _ => exact ⟨ds', r', h1, h2⟩

/-- A piece without a range, and what follows. -/
theorem wx_seqc {x y : Code} (h : WC P n (thenQ (fun r w => WX ds P n Q y r w) (Q ds)) x r w) : WX ds P n Q (x.seq y) r w := by
  refine wx_seq (wx_of_wc (h.mono ?_))
  intro e r w h
  cases e <;> exact h

theorem wx_block {i : Nat} {c : Code} (h : WX ds P n (inBlockX i Q) c r w) : WX ds P n Q (.block i c) r w := by
  intro k a ha
  refine wpIn_block (wpIn_mono (h k a ha) ?_)
  rintro e a' w' ⟨ds', r', h1, h2⟩
  cases e with
  | exit j =>
    simp only [inBlockX] at h2
    simp only [Exit.inBlock]
    split <;> rename_i hj
    · rw [if_pos hj] at h2; exact ⟨ds', r', h1, h2⟩
    · rw [if_neg hj] at h2; exact ⟨ds', r', h1, h2⟩
  | _ => exact ⟨ds', r', h1, h2⟩

theorem wx_cut {x y : Code} (M : List Deferred → Fr → World → Prop) (h1 : WX ds P n (thenX M Q) x r w) (h2 : ∀ ds r w, M ds r w → WX ds P n Q y r w) : WX ds P n Q (x.seq y) r w := by
  refine wx_seq ?_
  intro k a ha
  refine wpIn_mono (h1 k a ha) ?_
  rintro e a' w' ⟨ds', r', h3, h4⟩
  refine ⟨ds', r', h3, ?_⟩
  cases e <;> first | exact h2 _ _ _ h4 | exact h4

theorem wx_exit {i : Nat} (h : Q ds (.exit i) r w) : WX ds P n Q (.exit i) r w := fun _ _ ha => wpIn_exit ⟨ds, r, ha, h⟩
theorem wx_ret (h : Q ds .ret r w) : WX ds P n Q .ret r w := fun _ _ ha => wpIn_ret ⟨ds, r, ha, h⟩

/-- What a function's end asks: the marks are closed, one by one; then the results are read. -/
def closed : List Deferred → World → (World → Prop) → Prop
  | [], w, K => K w
  | d :: ds, w, K => ∃ D, d.target = .collected D ∧ w.heap[D]? = some (.deferred (some [])) ∧ closed ds (w.putObj D (.deferred none)) K

def bodyX (P : Program) (rvs : List ResultVar) (R : Value → World → Prop) : PoX
  | ds, .normal, r, w | ds, .ret, r, w => closed ds w fun w' => ∃ vs, ResL P r w' rvs vs ∧ R (pack vs) w'
  | _, _, _, _ => False

theorem results_of {fn : Func} {a : Act} {rvs : List ResultVar} {vs : List Value} (ha : Has n ds a r) (hres : fn.results = rvs.toArray) (hv : ResL P r w rvs vs) : (results fn a.tmps).run P w = .ok (pack vs) w := by
  have hm := mapM_res ha rvs vs hv
  have he : results fn a.tmps = (do let vs ← rvs.toArray.mapM (resS a.tmps); pure (if h : vs.size = 1 then vs[0] else .tuple vs)) := by
    unfold results
    rw [hres]
    rfl
  rw [he]
  simp only [List.mapM_toArray, Sem.run_bind, Sem.run_map, hm, Result.andThen_ok, Sem.run_pure]
  match vs with
  | [] => simp [pack]
  | [v] => simp [pack]
  | v :: u :: vs => simp [pack]

theorem leaves_of {fn : Func} {a : Act} {rvs : List ResultVar} {R : Value → World → Prop} {k : Nat} {d0 : List Deferred} (ha : Has n d0 a r) (hres : fn.results = rvs.toArray) :
    ∀ (ds : List Deferred) (w : World), closed ds w (fun w' => ∃ vs, ResL P r w' rvs vs ∧ R (pack vs) w') → LeavesInM (FR none) k P fn a.tmps (fun e w' => ∃ v, e = .returned v ∧ R v w') ds .returning w
  | [], w, ⟨vs, hv, hR⟩ => ⟨_, results_of ha hres hv, _, rfl, hR⟩
  | d :: ds, w, ⟨D, hD, hh, hc⟩ => ⟨by simp, .inl ⟨D, _, hD, run_takeDeferred hh, leaves_of ha hres ds _ hc⟩⟩

theorem ret_ofX {f : FuncId} {fn : Func} {c : Code} {args : List Value} {R : Value → World → Prop} {rvs : List ResultVar}
    (hgo : ∀ args w, (callFunc f args).run P w = .ok (.enter f args) w) (hf : P.funcs[f]? = some fn) (hb : fn.body = some c) (hn : fn.ntmps = n) (hres : fn.results = rvs.toArray)
    (hsz : Nat.ble args.length n = true) (h : WX [] P n (bodyX P rvs R) c (frOf 0 args) w) : Ret P f args.toArray w R := by
  refine ⟨hgo, callsIn_wide (n := 9).1 (callsIn_of_wp_marks hf hb trivial ?_)⟩
  have hle : args.length ≤ n := Nat.le_of_ble_eq_true hsz
  have hhas : Has n [] ⟨args.toArray ++ Array.replicate (fn.ntmps - args.toArray.size) undef, []⟩ (frOf 0 args) := by
    refine ⟨by simp [hn]; omega, fun t => ?_, rfl⟩
    rw [frOf_get]
    simp only [Nat.zero_le, if_true, Nat.sub_zero, Array.getD_eq_getD_getElem?, Array.getElem?_append, List.size_toArray, List.getElem?_toArray]
    split
    · rfl
    · rename_i hlt
      rw [List.getElem?_eq_none (by omega)]
      simp only [Array.getElem?_replicate]
      split <;> rfl
  refine wpIn_mono (h 9 _ hhas) ?_
  rintro e a w' ⟨ds', r', ha, hq⟩
  cases e with
  | normal =>
    show LeavesInM _ _ _ _ _ _ a.defers _ _
    rw [ha.defers]
    exact leaves_of ha hres ds' w' hq
  | ret =>
    show LeavesInM _ _ _ _ _ _ a.defers _ _
    rw [ha.defers]
    exact leaves_of ha hres ds' w' hq
  | _ => exact hq.elim
end

/-- A loop's record. -/
def mkRec (fn : FuncId) (tmps : Array Value) (ps : Array Tmp) (assign body : Code) (D : Nat) (s : LoopState) (pe : Option Code) : Loop :=
  { state := s, pending := pe, fn, tmps, params := ps, assign, body, defers := D }

def mark (D : Nat) : Deferred := { target := .collected D, args := #[] }

section
variable {P : Program} {n : Nat} {Q : PoX} {r : Fr} {w w0 : World} {ds : List Deferred} {m0 m : Mem} {F : List Nat} {Es : List Ent}

/-- The statement: its record and the block for its rounds' deferred calls are laid; the function is called with yield. -/
theorem wx_range {g : Operand} {ps : Array Tmp} {assign body : Code} {gf : FuncId} {lb : List Value} (hg : ev r g = .func (.func gf) #[] lb.toArray) (eg : ∀ args w, (callFunc gf args).run P w = .ok (.enter gf args) w) (st : St m0 m F w0 w Es)
    (h : ∀ (l D : Nat) (fn : FuncId) (tmps : Array Value) (rec : LoopState → Option Code → Loop) (w1 : World), rec = mkRec fn tmps ps assign body D → tmps.size = n → (∀ t, tmps.getD t undef = r t) → St m0 m F w0 w1 (objE l (.loop (rec .ready none)) :: objE D (.deferred (some [])) :: Es) →
      Calls P gf (.func (.yield l) #[] #[] :: lb).toArray w1 fun e w2 => ∃ v, e = .returned v ∧ ∃ s pe, s ≠ .busy ∧ w2.heap[l]? = some (.loop (rec s pe)) ∧
        (match pe with
         | none => Q (mark D :: ds) .normal r (w2.putObj l (.loop (rec .exhausted pe)))
         | some c => WX (mark D :: ds) P n Q c r (w2.putObj l (.loop (rec .exhausted pe))))) : WX ds P n Q (.rangeFunc g ps assign body) r w := by
  intro k a ha
  refine wpIn_rangeFunc fun fn _ => ?_
  have st1 := st.newObj (.deferred (some []))
  have st2 := st1.newObj (.loop (mkRec fn a.tmps ps assign body w.heap.size .ready none))
  have hsz : (w.alloc (.deferred (some []))).heap.size = w.heap.size + 1 := by simp
  rw [hsz] at st2
  have hev : a.eval g = .func (.func gf) #[] lb.toArray := by rw [ha.eval]; exact hg
  have hc := h (w.heap.size + 1) w.heap.size fn a.tmps _ _ rfl ha.size ha.val st2
  have hen := run_enterLoop_outer (P := P) (w := w) fn a.tmps ps assign body
  change _ = Result.ok _ ((w.alloc (.deferred (some []))).alloc (.loop (mkRec fn a.tmps ps assign body w.heap.size .ready none))) at hen
  generalize (w.alloc (.deferred (some []))).alloc (.loop (mkRec fn a.tmps ps assign body w.heap.size .ready none)) = W1 at hen hc
  refine ⟨w.heap.size + 1, [mark w.heap.size], W1, { target := .fn (.func gf) lb.toArray, args := #[.func (.yield (w.heap.size + 1)) #[] #[]] }, W1, gf, (.func (.yield (w.heap.size + 1)) #[] #[] :: lb).toArray, W1, hen, ?_, fun _ _ => trivial, ?_, by simp [Fence.wide], ?_⟩
  · simp only [resolve, hev]
    simp [go_sem]
  · simp [invoke, go_sem, eg]
  · refine callsIn_of (Calls.mono hc ?_)
    rintro e w2 ⟨v, rfl, s, pe, hs, hl, hq⟩
    refine ⟨pe, _, run_endLoop hl hs, ?_⟩
    have hh : Has n (mark w.heap.size :: ds) { a with defers := [mark w.heap.size] ++ a.defers } r := ⟨ha.size, ha.val, by rw [ha.defers]; rfl⟩
    cases pe with
    | none => exact ⟨_, r, hh, hq⟩
    | some c => exact hq k _ hh
end


/-- The frame of a round: the loop's, with what yield was handed. -/
def setPs : List (Nat × Value) → Fr → Fr
  | [], r => r
  | x :: l, r => setPs l (upd x.1 x.2 r)

theorem has_ps {n : Nat} : ∀ (l : List (Nat × Value)) (tmps : Array Value) (r : Fr), tmps.size = n → (∀ t, tmps.getD t undef = r t) → (l.all fun x => Nat.blt x.1 n) = true →
    Has n [] { tmps := l.foldl (fun ts (x : Nat × Value) => ts.setIfInBounds x.1 x.2) tmps, defers := [] } (setPs l r)
  | [], tmps, r, hs, hv, _ => ⟨hs, hv, rfl⟩
  | x :: l, tmps, r, hs, hv, hb => by
    simp only [List.all_cons, Bool.and_eq_true] at hb
    have h1 : Has n [] { tmps := tmps, defers := [] } r := ⟨hs, hv, rfl⟩
    have h2 := h1.put hb.1 x.2
    exact has_ps l _ _ h2.size h2.val hb.2

section
variable {P : Program} {n : Nat} {r : Fr} {w : World}

/-- How a round may end. -/
def roundQ (rec : LoopState → Option Code → Loop) (l : Nat) (R : Value → World → Prop) : Po
  | .normal, _, w => w.heap[l]? = some (.loop (rec .busy none)) ∧ R (.bool true) (w.putObj l (.loop (rec .ready none)))
  | .ret, _, w => w.heap[l]? = some (.loop (rec .busy none)) ∧ R (.bool false) (w.putObj l (.loop (rec .done (some .ret))))
  | .exit i, _, w => w.heap[l]? = some (.loop (rec .busy none)) ∧ R (.bool false) (w.putObj l (.loop (rec .done (some (.exit i)))))
  | _, _, _ => False

def noQ : Po := fun _ _ _ => False

/-- A call of yield answers so. -/
def YieldR (P : Program) (l : Nat) (vs : List Value) (w : World) (R : Value → World → Prop) : Prop :=
  ∃ fn tmps assign body, (Instr.yield l vs.toArray).run P w = .ok (.round l fn tmps assign body) w ∧ ∀ k, RoundIn (FR none) k P l fn tmps assign body w fun e w' => ∃ v, e = .returned v ∧ R v w'

theorem yield_round {rec : LoopState → Option Code → Loop} {fn : FuncId} {tmps : Array Value} {ps : List Nat} {assign body : Code} {D l : Nat} {vs : List Value} {R : Value → World → Prop}
    (hrec : rec = mkRec fn tmps ps.toArray assign body D) (hl : w.heap[l]? = some (.loop (rec .ready none))) (hs : vs.length = ps.length) (hsz : tmps.size = n) (hv : ∀ t, tmps.getD t undef = r t) (hps : (ps.all fun x => Nat.blt x n) = true)
    (h : WI (some l) P n (thenQ (fun r1 w1 => w1.heap[l]? = some (.loop (rec .ready none)) ∧ WI (some l) P n (roundQ rec l R) body r1 (w1.putObj l (.loop (rec .busy none)))) noQ) assign (setPs (ps.zip vs) r) w) : YieldR P l vs w R := by
  subst hrec
  refine ⟨fn, _, assign, body, run_yield hl (by simp [mkRec, hs]), fun k => roundIn_of_wpIn (F := FR none) trivial ?_⟩
  have hzip : (mkRec fn tmps ps.toArray assign body D .ready none).params.zip vs.toArray = (ps.zip vs).toArray := by
    apply Array.toList_inj.mp
    simp [mkRec]
  have hall : ((ps.zip vs).all fun x => Nat.blt x.1 n) = true := by
    rw [List.all_eq_true]
    intro x hx
    exact List.all_eq_true.1 hps x.1 (List.of_mem_zip hx).1
  have hh := has_ps (n := n) (ps.zip vs) tmps r hsz hv hall
  have hacts : ((mkRec fn tmps ps.toArray assign body D .ready none).params.zip vs.toArray).foldl (fun ts (x : Nat × Value) => ts.setIfInBounds x.1 x.2) (mkRec fn tmps ps.toArray assign body D .ready none).tmps = (ps.zip vs).foldl (fun ts (x : Nat × Value) => ts.setIfInBounds x.1 x.2) tmps := by
    rw [hzip]
    simp [mkRec]
  refine wpIn_mono (a := { tmps := _, defers := [] }) ?_ ?_ (Q := lift n [] (thenQ (fun r1 w1 => w1.heap[l]? = some (.loop (mkRec fn tmps ps.toArray assign body D .ready none)) ∧ WI (some l) P n (roundQ (mkRec fn tmps ps.toArray assign body D) l R) body r1 (w1.putObj l (.loop (mkRec fn tmps ps.toArray assign body D .busy none)))) noQ))
  · have := h k [] _ hh
    rw [← hacts] at this
    exact this
  · rintro e a1 w1 ⟨r1, h1, h2⟩
    cases e with
    | normal =>
      obtain ⟨hl1, hb⟩ := h2
      refine ⟨_, run_beginRound hl1 rfl, wpIn_mono (hb k [] a1 h1) ?_⟩
      rintro e a2 w2 ⟨r2, _, h4⟩
      cases e with
      | normal => exact ⟨_, _, run_endRound none h4.1, _, rfl, h4.2⟩
      | ret => exact ⟨_, _, run_endRound (some .ret) h4.1, _, rfl, h4.2⟩
      | exit j => exact ⟨_, _, run_endRound (some (.exit j)) h4.1, _, rfl, h4.2⟩
      | _ => exact h4.elim
    | _ => exact h2.elim

theorem retX1 {rvs : List ResultVar} {R : Value → World → Prop} {D : Nat} (h : w.heap[D]? = some (.deferred (some []))) (k : bodyQ P rvs R .ret r (w.putObj D (.deferred none))) : bodyX P rvs R [mark D] .ret r w := ⟨D, rfl, h, k⟩
theorem endX1 {rvs : List ResultVar} {R : Value → World → Prop} {D : Nat} (h : w.heap[D]? = some (.deferred (some []))) (k : bodyQ P rvs R .normal r (w.putObj D (.deferred none))) : bodyX P rvs R [mark D] .normal r w := ⟨D, rfl, h, k⟩

/-- A list of operations, under the fence: here yield may be called. -/
def WLI (P : Program) (n : Nat) (ops : Array Oper) (Q : Po) (l : List Oper) (r : Fr) (w : World) : Prop := ∀ k ds a, Has n ds a r → wpListIn (FR none) k P ops (lift n ds Q) l a w
end

section
variable {P : Program} {n : Nat} {ops : Array Oper} {Q : Po} {r : Fr} {w : World} {rest : List Oper} {d : Nat} {ty : TypeId} {pos : String} {after : Array Edge}

theorem wc_regionI {id : Nat} {l : List Oper} (h : WLI P n l.toArray Q l r w) : WC P n Q (.region id l.toArray false) r w := by
  intro ds a ha
  refine wpIn_wide (n := 9).1 (wpIn_region ?_)
  have h1 := h 9 ds a ha
  rw [List.range_eq_range', ← Array.length_toList, wpOpsIn_eq_wpListIn l.toArray.toList 0 (by simp)]
  have h2 : wpListIn (FR none) 9 P l.toArray (lift n ds Q) l.toArray.toList a w := by simpa using h1
  exact h2

theorem wli_nil (h : Q .normal r w) : WLI P n ops Q [] r w := fun _ _ _ ha => ⟨r, ha, h⟩

theorem wli_val {op : Op} {v : Value} {w' : World} (h : Val P op ty r w v w') (hd : Nat.blt d n = true) (k : WLI P n ops Q rest (upd d v r) w') :
    WLI P n ops Q (⟨some d, op, ty, pos, after, none⟩ :: rest) r w := by
  intro kk ds a ha
  refine wpListIn_plain rfl fun K hK => ⟨fun _ _ => trivial, ?_⟩
  have he : (execOp a.eval ⟨some d, op, ty, pos, after, none⟩).run P w = .ok (.value v) w' := by rw [ha.eval]; exact h _ _ _ _
  have hsem : (⟨some d, op, ty, pos, after, none⟩ : Oper).semAt (FR none).round a.eval = execOp a.eval (⟨some d, op, ty, pos, after, none⟩ : Oper) := by simp [Oper.semAt]
  rw [hsem, he, Oper.uponIn_value]
  exact hK _ _ (k kk ds _ (ha.put hd v))

theorem wli_call {f : FuncId} {ags : Array Operand} {tys : Array TypeId} {args : List Value} {R : Value → World → Prop} (ha : ags.toList.map (ev r) = args)
    (hc : Ret P f args.toArray w R) (hd : Nat.blt d n = true) (k : ∀ v w', R v w' → WLI P n ops Q rest (upd d v r) w') :
    WLI P n ops Q (⟨some d, .call ⟨.value (.func f), ags, tys⟩, ty, pos, after, none⟩ :: rest) r w := by
  intro kk ds a h
  refine wpListIn_plain rfl fun K hK => ⟨fun _ _ => trivial, ?_⟩
  have hargs : ags.map (ev r) = args.toArray := by
    apply Array.toList_inj.mp
    rw [Array.toList_map, ha]
  have he : (execOp a.eval ⟨some d, .call ⟨.value (.func f), ags, tys⟩, ty, pos, after, none⟩).run P w = .ok (.enter f args.toArray) w := by
    rw [h.eval]
    simp [execOp, resolve, ev, Deferred.ofValue, invoke, hargs, hc.1]
  have hsem : (⟨some d, .call ⟨.value (.func f), ags, tys⟩, ty, pos, after, none⟩ : Oper).semAt (FR none).round a.eval = execOp a.eval (⟨some d, .call ⟨.value (.func f), ags, tys⟩, ty, pos, after, none⟩ : Oper) := by simp [Oper.semAt]
  rw [hsem, he, Oper.uponIn_enter]
  refine ⟨by simp [Fence.wide], callsIn_of (Calls.mono hc.2 ?_)⟩
  rintro e w' ⟨v, rfl, hR⟩
  exact hK _ _ (k v w' hR kk ds _ (h.put hd v))

/-- A call of yield. -/
theorem wli_yield {x : Operand} {l : Nat} {ags : Array Operand} {tys : Array TypeId} {args : List Value} {R : Value → World → Prop} (hx : ev r x = .func (.yield l) #[] #[]) (ha : ags.toList.map (ev r) = args)
    (hc : YieldR P l args w R) (hd : Nat.blt d n = true) (k : ∀ v w', R v w' → WLI P n ops Q rest (upd d v r) w') :
    WLI P n ops Q (⟨some d, .call ⟨.value x, ags, tys⟩, ty, pos, after, none⟩ :: rest) r w := by
  intro kk ds a h
  refine wpListIn_plain rfl fun K hK => ⟨fun _ _ => trivial, ?_⟩
  obtain ⟨fn, tmps, assign, body, hy, hround⟩ := hc
  have hargs : ags.map (ev r) = args.toArray := by
    apply Array.toList_inj.mp
    rw [Array.toList_map, ha]
  have he : (execOp a.eval ⟨some d, .call ⟨.value x, ags, tys⟩, ty, pos, after, none⟩).run P w = .ok (.round l fn tmps assign body) w := by
    rw [h.eval]
    simp [execOp, resolve, hx, Deferred.ofValue, invoke, hargs, hy]
  have hsem : (⟨some d, .call ⟨.value x, ags, tys⟩, ty, pos, after, none⟩ : Oper).semAt (FR none).round a.eval = execOp a.eval (⟨some d, .call ⟨.value x, ags, tys⟩, ty, pos, after, none⟩ : Oper) := by simp [Oper.semAt]
  rw [hsem, he, Oper.uponIn_round]
  refine ⟨by simp [Fence.wide], (hround _).mono ?_⟩
  rintro e w' ⟨v, rfl, hR⟩
  exact hK _ _ (k v w' hR kk ds _ (h.put hd v))
end

end K
end Go.Proofs.Ytjjpakjgppmmdaa

/-
  The iterator over a digest's bits.
-/
namespace Go.Proofs.Ytjjpakjgppmmdaa
open Go Go.RowKit K PT

section
variable {m : Mem} {wI : World}

theorem and_bit2 (a j : Nat) : (decide (¬ ((a &&& 2 ^ j : Nat) : Int) = 0)) = a.testBit j := and_bit a j

/-- The iterator: each bit is handed on, till it is told to stop. -/
theorem c_bits1 {d : By} {l b1 : Nat} (hd : d.length = 32) (J Jx : Nat → World → Prop) (hrd : ∀ i w, J i w → Reads Try.prog w 23 ⟨b1, 0, none⟩ (arr d))
    (hy : ∀ i w, i < 256 → J i w → YieldR Try.prog l [.int .i64 i, .bool (bit d i)] w fun v w' => (v = .bool true ∧ J (i + 1) w') ∨ (v = .bool false ∧ Jx i w')) (h0 : J 0 wI) :
    Ret Try.prog 111 #[.func (.yield l) #[] #[], .pointer (some ⟨b1, 0, none⟩)] wI fun _ w' => J 256 w' ∨ ∃ i, i < 256 ∧ Jx i w' := by
  refine ret_of Try.call111 Try.func111 rfl Try.ntmps111 Try.results111 rfl ?_
  refine wc_scope (fun _ _ _ h => h) ?_
  refine wc_seq ?_
  refine wc_label ?_
  refine then_go ?_
  refine wc_seq ?_
  refine wc_region ?_
  refine wl_val (v_load rfl (hrd 0 _ h0)) rfl ?_
  refine wl_val (v_move' (by conv => (lhs; whnf))) rfl ?_
  refine wl_nil ?_
  refine then_go ?_
  refine wc_block ?_
  refine wc_loop (S := Nat) (fun q r w' => ∃ k, q + k = 32 ∧ r 0 = .func (.yield l) #[] #[] ∧ r 6 = arr d ∧ r 7 = .int .i64 k ∧ J (8 * k) w') id 32 ⟨0, rfl, rfl, rfl, rfl, h0⟩ ?_
  rintro q r w ⟨k, hqk, h0, h6, h7, hJ⟩
  refine wc_o 0 h0 (wc_o 6 h6 (wc_o 7 h7 ?_))
  refine wc_seq ?_
  refine wc_region ?_
  refine wl_val (v_lss rfl rfl) rfl ?_
  refine wl_nil ?_
  refine then_go ?_
  refine wc_seq ?_
  refine wc_if rfl (fun h8 => ?_) (fun h8 => ?_)
  · refine wc_skip ?_
    refine then_go ?_
    refine wc_seq ?_
    refine wc_block ?_
    refine wc_seq ?_
    have hk : k < 32 := by omega
    refine wc_region ?_
    refine wl_val (v_move' (by conv => (lhs; whnf))) rfl ?_
    refine wl_val (v_index_a (v := u8 (d.getD k 0)) Try.underlying23 TF.t5 rfl rfl (by omega) (by omega) (getV_bsd (j := k) (by simp) (by omega))) rfl ?_
    refine wl_val (v_assign' (by conv => (lhs; whnf))) rfl ?_
    refine wl_val (v_assign' (by conv => (lhs; whnf))) rfl ?_
    refine wl_nil ?_
    refine then_go ?_
    refine wc_seq ?_
    refine wc_region ?_
    refine wl_val (v_assign' (by conv => (lhs; whnf))) rfl ?_
    refine wl_nil ?_
    refine then_go ?_
    refine wc_block ?_
    refine wc_loop (S := Nat) (fun q r w' => ∃ j, q + j = 8 ∧ r 0 = .func (.yield l) #[] #[] ∧ r 3 = .int .i64 k ∧ r 4 = u8 (d.getD k 0) ∧ r 5 = .int .i64 j ∧ r 6 = arr d ∧ r 7 = .int .i64 k ∧ J (8 * k + j) w') id 8 ⟨0, rfl, rfl, rfl, rfl, rfl, rfl, rfl, hJ⟩ ?_
    rintro q2 r w3 ⟨j, hqj, h0, h3, h4, h5, h6, h7, hJ⟩
    refine wc_o 0 h0 (wc_o 3 h3 (wc_o 4 h4 (wc_o 5 h5 (wc_o 6 h6 (wc_o 7 h7 ?_)))))
    refine wc_seq ?_
    refine wc_seq ?_
    refine wc_region ?_
    refine wl_val (v_move' (by conv => (lhs; whnf))) rfl ?_
    refine wl_val (v_lss rfl rfl) rfl ?_
    refine wl_nil ?_
    refine then_go ?_
    refine wc_if rfl (fun h12 => ?_) (fun h12 => ?_)
    · refine wc_skip ?_
      refine then_go ?_
      refine wc_seq ?_
      refine wc_block ?_
      refine wc_seq ?_
      have hj : j < 8 := by omega
      have hbit : bit d (8 * k + j) = (d.getD k 0).toNat.testBit (7 - j) := by
        unfold bit
        rw [show (8 * k + j) / 8 = k by omega, show (8 * k + j) % 8 = j by omega]
      refine wc_regionI ?_
      refine wli_val (v_move' (by conv => (lhs; whnf))) rfl ?_
      refine wli_val (v_move' (by conv => (lhs; whnf))) rfl ?_
      refine wli_val (v_mul' (c := ((8 * k : Nat) : Int)) rfl rfl (by omega) (by omega) (by omega)) rfl ?_
      refine wli_val (v_move' (by conv => (lhs; whnf))) rfl ?_
      refine wli_val (v_add' (c := ((8 * k + j : Nat) : Int)) rfl rfl (by omega) (by omega) (by omega)) rfl ?_
      refine wli_val (v_move' (by conv => (lhs; whnf))) rfl ?_
      refine wli_val (v_move' (by conv => (lhs; whnf))) rfl ?_
      refine wli_val (v_shr128 j rfl rfl hj) rfl ?_
      refine wli_val (v_and8 (2 ^ (7 - j)) (Nat.lt_of_le_of_lt (Nat.pow_le_pow_right (by decide) (Nat.sub_le _ _)) (by decide)) rfl rfl) rfl ?_
      refine wli_val (v_neq rfl rfl) rfl ?_
      rw [and_bit, ← hbit]
      refine wli_yield rfl rfl (hy (8 * k + j) _ (by omega) hJ) rfl ?_
      intro v25 w4 hR
      obtain ⟨bb, rfl, hR2⟩ : ∃ bb : Bool, v25 = .bool bb ∧ ((bb = true ∧ J (8 * k + j + 1) w4) ∨ (bb = false ∧ Jx (8 * k + j) w4)) := by
        rcases hR with ⟨rfl, h⟩ | ⟨rfl, h⟩
        · exact ⟨true, rfl, .inl ⟨rfl, h⟩⟩
        · exact ⟨false, rfl, .inr ⟨rfl, h⟩⟩
      refine wli_val (v_not rfl) rfl ?_
      refine wli_nil ?_
      refine then_go ?_
      refine wc_cond rfl (fun h26 => ?_) (fun h26 => ?_)
      · refine wc_exit (block_miss rfl (then_exit (then_exit (block_miss rfl (block_miss rfl (then_exit (then_exit (block_hit ?_))))))))
        refine end0 ?_
        first
        | (rcases hR2 with ⟨rfl, h⟩ | ⟨rfl, h⟩
           · cases h26
           · exact .inr ⟨_, by omega, h⟩)
        | (have hk32 : k = 32 := by omega
           subst hk32
           exact .inl hJ)
      · refine wc_skip ?_
        refine block_go (then_go ?_)
        refine wc_region ?_
        refine wl_val (v_move' (by conv => (lhs; whnf))) rfl ?_
        refine wl_val (v_add' rfl rfl rfl (by first | omega | (dsimp only at *; omega)) (by first | omega | (dsimp only at *; omega))) rfl ?_
        refine wl_val (v_assign' (by conv => (lhs; whnf))) rfl ?_
        refine wl_nil ?_
        refine then_go ?_
        rcases hR2 with ⟨rfl, h⟩ | ⟨rfl, h⟩
        · exact ⟨q2 - 1, by simp; omega, j + 1, by omega, rfl, rfl, rfl, rfl, rfl, rfl, h⟩
        · cases h26
    · refine wc_exit (then_exit (then_exit (block_hit ?_)))
      refine block_go (then_go ?_)
      refine wc_region ?_
      refine wl_val (v_add' rfl rfl rfl (by first | omega | (dsimp only at *; omega)) (by first | omega | (dsimp only at *; omega))) rfl ?_
      refine wl_val (v_move' (by conv => (lhs; whnf))) rfl ?_
      refine wl_nil ?_
      refine then_go ?_
      have hj8 : j = 8 := by omega
      subst hj8
      exact ⟨q - 1, by simp; omega, k + 1, by omega, rfl, rfl, rfl, hJ⟩
  · refine wc_exit (then_exit (then_exit (block_hit ?_)))
    refine end0 ?_
    first
    | (rcases hR2 with ⟨rfl, h⟩ | ⟨rfl, h⟩
       · cases h26
       · exact .inr ⟨_, by omega, h⟩)
    | (have hk32 : k = 32 := by omega
       subst hk32
       exact .inl hJ)

theorem c_bits {d : By} (him : Im m wI) : Ret Try.prog 101 #[arr d] wI fun v w' => ∃ b, v = .func (.func 111) #[] #[.pointer (some ⟨b, 0, none⟩)] ∧ Tch wI w' [] [b] ∧ (K.blk b (arr d).cells 23).holds w' := by
  have st := St.start him
  refine ret_of Try.call101 Try.func101 rfl Try.ntmps101 Try.results101 rfl ?_
  refine wc_seq ?_
  refine wc_region ?_
  refine wl_box (v := arr d) rfl st rfl ?_
  intro b1 w st
  refine wl_val (v_assign' (by conv => (lhs; whnf))) rfl ?_
  refine wl_nil ?_
  refine then_go ?_
  refine wc_seq ?_
  refine wc_region ?_
  refine wl_val (v_mkfunc rfl rfl) rfl ?_
  refine wl_val (v_assign' (by conv => (lhs; whnf))) rfl ?_
  refine wl_nil ?_
  refine then_go ?_
  refine wc_ret ?_
  have hf := (St.finish (Es := []) (l := [_]) st).1
  exact ret1 rfl ⟨b1, rfl, ⟨hf.os, hf.tape, hf.output, hf.size, hf.block, fun k hk => hf.out k (by simpa [joinE, K.blk] using hk)⟩, st.at (i := 0) rfl⟩
end
end Go.Proofs.Ytjjpakjgppmmdaa

/-
  How many bits two digests have in common: the program's path.Common.
-/
namespace Go.Proofs.Ytjjpakjgppmmdaa
open Go Go.RowKit K PT

namespace PT
/-- How many bits are alike, from the k-th on. -/
def comF (a b : By) : Nat → Nat → Nat
  | 0, k => k
  | f + 1, k => if bit b k = bit a k then comF a b f (k + 1) else k
def common (a b : By) : Nat := comF a b 256 0
end PT

section
variable {m : Mem} {wI : World}

theorem c_common {a b : By} (him : Im m wI) (ha : a.length = 32) (hb : b.length = 32) : Ret Try.prog 93 #[arr a, arr b] wI fun v w' => Tch wI w' [] [] ∧ v = .int .i64 (common a b) := by
  have st := St.start him
  refine ret_ofX Try.call93 Try.func93 rfl Try.ntmps93 Try.results93 rfl ?_
  refine wx_seqc ?_
  refine wc_region ?_
  refine wl_box (v := arr a) rfl st rfl ?_
  intro b2 w st
  refine wl_box (v := arr b) rfl st rfl ?_
  intro b3 w st
  refine wl_val (v_assign' (by conv => (lhs; whnf))) rfl ?_
  refine wl_nil ?_
  refine then_go ?_
  refine wx_seqc ?_
  refine wc_region ?_
  refine wl_alloc TF.z3 st rfl ?_
  intro b5 w st
  refine wl_store1 0 st rfl TF.t3 rfl (by conv => (lhs; whnf)) rfl (by first | exact lt_ok rfl | decide | simp) ?_
  intro w st
  refine wl_nil ?_
  refine then_go ?_
  refine wx_cut (fun ds r w' => ∃ (D l : Nat) (o : Obj) (m' : Mem), ds = [K.mark D] ∧ r 5 = .pointer (some ⟨b5, 0, none⟩) ∧ St m m' [] wI w' [objE l o, objE D (.deferred (some [])), K.blk b5 #[.int .i64 (common a b)] 3]) ?_ ?_
  · refine wx_seqc ?_
    refine wc_region ?_
    refine wl_val (v_load rfl (st.reads 2 rfl TF.t23 (getV_all (by simp [arr, Value.cells, bs, ha])))) rfl ?_
    refine wl_call rfl (c_bits st.im) rfl ?_
    rintro v9 w ⟨b9, rfl, t, hE⟩
    have st := st.new (E := K.blk b9 _ _) t hE
    obtain ⟨m1, hg1, hm1, st⟩ := st.freeze (i := 0) rfl (by simp)
    change St _ _ _ _ _ [_, _, _] at st
    refine wl_nil ?_
    refine then_go ?_
    refine wx_block ?_
    refine wx_range (lb := [.pointer (some ⟨b9, 0, none⟩)]) rfl Try.call111 st ?_
    intro l D fn tmps rec w1 hrec htm hval st
    refine Calls.mono (c_bits1 (d := a) (l := l) (b1 := b9) ha (fun i W => comF a b (256 - i) i = common a b ∧ St m m1 [] wI W [objE l (.loop (rec .ready none)), objE D (.deferred (some [])), K.blk b5 #[.int .i64 i] 3, K.blk b3 (arr b).cells 23, K.blk b2 (arr a).cells 23]) (fun i W => i = common a b ∧ St m m1 [] wI W [objE l (.loop (rec .done (some (.exit 0)))), objE D (.deferred (some [])), K.blk b5 #[.int .i64 i] 3, K.blk b3 (arr b).cells 23, K.blk b2 (arr a).cells 23]) ?_ ?_ ⟨rfl, st⟩).2 ?_
    · rintro i W ⟨_, st⟩
      exact st.readm hm1 TF.t23 (getV_all (by simp [arr, Value.cells, bs, ha]))
    rintro i W hi ⟨hc, st⟩
    refine yield_round hrec (st.at (i := 0) rfl) rfl htm hval rfl ?_
    · refine wi_seq ?_
      refine wi_region (by kernel_rfl) (fun _ _ h => h) ?_
      refine wl_val (v_assign' (by conv => (lhs; whnf))) rfl ?_
      refine wl_nil ?_
      refine then_go ?_
      refine wi_region (by kernel_rfl) (fun _ _ h => h) ?_
      refine wl_val (v_assign' (by conv => (lhs; whnf))) rfl ?_
      refine wl_nil ?_
      refine then_go ⟨st.at (i := 0) rfl, ?_⟩
      have st := st.putObj 0 (.loop (rec .busy none)) rfl
      have hs : 256 - i = (256 - (i + 1)) + 1 := by omega
      rw [hs, comF] at hc
      have hbi : bitI b i = bit b i := by unfold bitI; rw [if_pos (by omega)]; simp
      refine wi_block ?_
      refine wi_seq ?_
      refine wi_seq ?_
      refine wi_region (by kernel_rfl) (fun _ _ h => h) ?_
      refine wl_val (v_load rfl (st.reads 3 rfl TF.t23 (getV_all (by simp [arr, Value.cells, bs, hb])))) rfl ?_
      refine wl_val (v_move' (by conv => (lhs; whnf))) rfl ?_
      refine wl_call rfl (c_bit st.im hb) rfl ?_
      rintro _ w ⟨t, rfl⟩
      have st := st.pure t
      rw [hbi]
      refine wl_val (v_move' (by conv => (lhs; whnf))) rfl ?_
      refine wl_val (v_neb Try.underlying4 rfl rfl) rfl ?_
      refine wl_nil ?_
      refine then_go ?_
      refine wi_cond rfl (fun h16 => ?_) (fun h16 => ?_)
      · refine wi_exit (then_exit (block_miss rfl ?_))
        rw [if_neg (by simpa using h16)] at hc
        exact ⟨st.at (i := 0) rfl, .inr ⟨rfl, hc, st.putObj 0 _ rfl⟩⟩
      · refine wi_skip ?_
        refine then_go ?_
        refine wi_region (by kernel_rfl) (fun _ _ h => h) ?_
        refine wl_val (v_load rfl (st.reads 2 rfl TF.t3 rfl)) rfl ?_
        refine wl_val (v_add' rfl rfl rfl (by first | omega | (dsimp only at *; omega)) (by first | omega | (dsimp only at *; omega))) rfl ?_
        refine wl_store1 2 st rfl TF.t3 rfl (by conv => (lhs; whnf)) rfl (by first | exact lt_ok rfl | decide | simp) ?_
        intro w st
        refine wl_nil ?_
        refine block_go ?_
        rw [if_pos (by simpa using h16)] at hc
        exact ⟨st.at (i := 0) rfl, .inl ⟨rfl, hc, st.putObj 0 _ rfl⟩⟩
    rintro e W ⟨v, rfl, ⟨hc, st⟩ | ⟨i, hi, hc, st⟩⟩
    · have st2 := st.putObj 0 (.loop (rec .exhausted none)) rfl
      exact ⟨v, rfl, .ready, none, by simp, st.at (i := 0) rfl, D, l, _, m1, rfl, rfl, by rw [← hc]; exact ((st2.drop 3).drop 3)⟩
    · have st2 := st.putObj 0 (.loop (rec .exhausted (some (.exit 0)))) rfl
      exact ⟨v, rfl, .done, some (.exit 0), by simp, st.at (i := 0) rfl, wx_exit (blockx_hit ⟨D, l, _, m1, rfl, rfl, by rw [← hc]; exact ((st2.drop 3).drop 3)⟩)⟩
  · rintro ds r w ⟨D, l, o, m', rfl, h5, st⟩
    refine wx_of_wc (wc_o 5 h5 ?_)
    refine wc_seq ?_
    refine wc_region ?_
    refine wl_val (v_load rfl (st.reads 2 rfl TF.t3 rfl)) rfl ?_
    refine wl_val (v_assign' (by conv => (lhs; whnf))) rfl ?_
    refine wl_nil ?_
    refine then_go ?_
    refine wc_ret ?_
    have hD := st.at (i := 1) rfl
    have st2 := (st.putObj 1 (.deferred none) rfl).keepOnly (List.nil_sublist _)
    exact retX1 hD (ret1 rfl ⟨(St.finish (l := []) (Es := []) st2).1, rfl⟩)
end
end Go.Proofs.Ytjjpakjgppmmdaa

/-
  A region whose operations may be carried out in more than one order, in which yield is called.
-/
namespace Go.Proofs.Ytjjpakjgppmmdaa
open Go Go.RowKit
namespace K

section
variable {P : Program} {n : Nat} {ops : Array Oper} {Q : Po} {r : Fr} {w : World}

def FLI (P : Program) (n : Nat) (ops : Array Oper) (Q : Po) (done pure lds : List Nat) (r : Fr) (w : World) : Prop :=
  (∀ i ∈ pure, ∀ w', obl P n ops r w' i) → ∀ kk ds X listed fuel a, RS n ops done (pure ++ lds) r X listed fuel ds a → wpAnyIn (FR none) kk P .any ops (lift n ds Q) fuel listed a w

/-- The heart: what waits may be carried out at any time; the rest is handed in. -/
theorem fli_core {done pure lds : List Nat} {kk : Nat} {ds : List Deferred} (hns : noSel ops = true)
    (hpair : okAll ops (pure ++ lds) = true)
    (hpure : ∀ i ∈ pure, ∀ w', obl P n ops r w' i) (hlds : ∀ i ∈ lds, obl P n ops r w i)
    (hnil : ∀ X listed fuel a, RS n ops done (pure ++ lds) r X listed fuel ds a → Region.ready .any ops listed = [] → lift n ds Q .normal a w)
    (hrest : ∀ X listed fuel a, RS n ops done (pure ++ lds) r X listed (fuel + 1) ds a → ∀ i ∈ Region.ready .any ops listed, i ∉ X → wpOpIn (FR none) kk P ops (lift n ds Q) i (wpAnyIn (FR none) kk P .any ops (lift n ds Q) fuel (listed.setIfInBounds i true)) a w) :
    ∀ fuel X listed a, RS n ops done (pure ++ lds) r X listed fuel ds a → wpAnyIn (FR none) kk P .any ops (lift n ds Q) fuel listed a w := by
  have hob : ∀ i ∈ pure ++ lds, obl P n ops r w i := fun i hi => by
    rcases List.mem_append.1 hi with h | h
    · exact hpure i h w
    · exact hlds i h
  intro fuel
  induction fuel with
  | zero =>
    intro X listed a s
    have hr : Region.ready .any ops listed = [] := by
      cases hr : Region.ready .any ops listed with
      | nil => rfl
      | cons i l =>
        have hi : i ∈ Region.ready .any ops listed := by rw [hr]; exact List.mem_cons_self
        obtain ⟨h1, h2, _⟩ := mem_ready.1 hi
        have h3 := unl_pos h1 h2
        have h4 := s.fuel
        omega
    exact ⟨hr, hnil X listed 0 a s hr⟩
  | succ fuel ih =>
    intro X listed a s
    refine ⟨hnil X listed _ a s, fun i hi => ?_⟩
    by_cases hX : i ∈ X
    · obtain ⟨o, d, ho, hd, hdn, hv⟩ := hob i (s.sub i hX)
      have hil := lt_of_some ho
      have hother : ∀ y ∈ X, y ≠ i → ∀ d', dstOf ops y = some d' → d' ∉ o.looksAt ops ∧ o.dst ≠ some d' := by
        intro y hy hne
        have hp := (List.all_eq_true.1 (Bool.and_eq_true_iff.1 ((List.all_eq_true.1 hpair) i (s.sub i hX))).2) y (s.sub y hy)
        have hne' : (i == y) = false := by simpa using fun e => hne (e.symm)
        rw [hne', Bool.false_or] at hp
        by_cases hyl : y < ops.size
        · exact okPair_spec hp hi (s.pending hy hyl).2 ho
        · intro d' hd'
          unfold dstOf at hd'
          rw [Array.getElem?_eq_none (by omega)] at hd'
          cases hd'
      have hself : d ∉ o.looksAt ops := by
        have hp := (Bool.and_eq_true_iff.1 ((List.all_eq_true.1 hpair) i (s.sub i hX))).1
        unfold selfOk at hp
        rw [ho] at hp
        simp only [hd] at hp
        simpa using hp
      have heval : ∀ t ∈ o.looksAt ops, a.tmps.getD t undef = r t := by
        intro t ht
        refine s.agree t fun x hx hxd => ?_
        by_cases hxi : x = i
        · subst hxi
          have : dstOf ops x = some d := by unfold dstOf; rw [ho]; exact hd
          rw [this] at hxd
          exact hself ((Option.some.inj hxd).symm ▸ ht)
        · exact (hother x hx hxi t hxd).1 ht
      have hexec : execOp a.eval o = execOp (ev r) o :=
        exec_congr (f := fun t => a.tmps.getD t undef) (g := r) (noSel_spec hns ho) (fun x hx => by cases x <;> first | rfl | exact absurd rfl (hx _)) (fun _ => rfl) (fun _ => rfl) heval
      have hwant : Region.wanted o (yielded ops a.tmps) = Region.wanted o (yl ops r) := by
        refine wanted_congr fun g want hg => ?_
        rw [yielded_yl (f := fun t => a.tmps.getD t undef) (fun _ => rfl)]
        exact yl_congr fun d' hd' => heval d' (looks_guard hg hd')
      have hnext : wpAnyIn (FR none) kk P .any ops (lift n ds Q) fuel (listed.setIfInBounds i true) (a.put o.dst (r d)) w := by
        have hni := s.pending hX hil
        refine ih (X.filter (· != i)) _ _ ⟨?_, ?_, ?_, ?_, ?_, ?_, ?_, ?_⟩
        · exact fun x hx => s.sub x (List.mem_filter.1 hx).1
        · exact fun x hx => s.subd x (List.mem_filter.1 hx).1
        · simp [s.size]
        · intro j hj
          by_cases hji : j = i
          · subst hji
            have hc : done.contains j = true := s.subd j hX
            have h1 : (listed.setIfInBounds j true).getD j true = true := by simp [Array.getD_eq_getD_getElem?]
            rw [h1, hc]
            simp
          · have hne : i ≠ j := fun e => hji e.symm
            have h1 : (listed.setIfInBounds i true).getD j true = listed.getD j true := by simp only [Array.getD_eq_getD_getElem?, Array.getElem?_setIfInBounds_ne hne]
            rw [h1, s.told j hj]
            congr 2
            by_cases hjX : j ∈ X
            · have : j ∈ X.filter (· != i) := List.mem_filter.2 ⟨hjX, by simpa using hji⟩
              simp [hjX, hji]
            · simp [hjX]
        · have := unl_set s.size hil hni.1
          have := s.fuel
          omega
        · simp [Act.put, hd, s.asize]
        · simp [Act.put, hd, s.defers]
        · intro t ht
          rw [hd]
          simp only [Act.put]
          by_cases htd : t = d
          · subst htd
            by_cases hts : t < a.tmps.size
            · simp [Array.getD, hts]
            · have h1 : t < n := Nat.blt_eq.mp hdn
              have h2 := s.asize
              exact absurd (show t < a.tmps.size by rw [h2]; exact h1) hts
          · have hne : d ≠ t := fun e => htd e.symm
            rw [Array.getD_eq_getD_getElem?, Array.getElem?_setIfInBounds_ne hne, ← Array.getD_eq_getD_getElem?]
            refine s.agree t fun x hx hxd => ?_
            by_cases hxi : x = i
            · subst hxi
              have : dstOf ops x = some d := by unfold dstOf; rw [ho]; exact hd
              rw [this] at hxd
              exact htd (Option.some.inj hxd).symm
            · exact ht x (List.mem_filter.2 ⟨hx, by simpa using hxi⟩) hxd
      unfold wpOpIn
      rw [ho]
      simp only
      by_cases hw : Region.wanted o (yl ops r) = true
      · rw [if_pos (by rw [hwant]; exact hw)]
        rw [if_pos hw] at hv
        refine ⟨fun _ _ => trivial, ?_⟩
        have hsem : o.semAt (FR none).round a.eval = execOp a.eval o := by simp [Oper.semAt]
        rw [hsem, hexec, hv, Oper.uponIn_value]
        exact hnext
      · rw [if_neg (by rw [hwant]; exact hw)]
        rw [if_neg hw] at hv
        refine ⟨fun _ _ => trivial, ?_⟩
        rw [← hv]
        exact hnext
    · exact hrest X listed fuel a s i hi hX



/-- The step of one effect. -/
def StepEI (P : Program) (n : Nat) (ops : Array Oper) (Q : Po) (done pure lds : List Nat) (r : Fr) (w : World) (k : Nat) : Prop :=
  ∃ o, ops[k]? = some o ∧ WLI P n ops (fun e r' w' => e = .normal ∧ FLI P n ops Q (k :: done) (leave ops k pure) (leave ops k lds) r' w') [o] r w

theorem fli_eff {done pure lds : List Nat} (ks : List Nat) (hks : readyOf ops done = ks) (hne : ks ≠ []) (hb : backward ops = true) (hns : noSel ops = true) (hpair : okAll ops (pure ++ lds) = true)
    (heff : (ks.all fun k => effOk ops (pure ++ lds) k) = true)
    (hlds : ∀ i ∈ lds, obl P n ops r w i) (hk : ∀ k ∈ ks, StepEI P n ops Q done pure lds r w k) : FLI P n ops Q done pure lds r w := by
  intro hpure kk ds X listed fuel a s
  refine fli_core hns hpair hpure hlds ?_ ?_ fuel X listed a s
  · intro X listed fuel a s hr
    exfalso
    obtain ⟨k, hk⟩ := List.exists_mem_of_ne_nil ks hne
    rw [← hks] at hk
    obtain ⟨h1, h2⟩ := List.mem_filter.1 hk
    have hl := List.mem_range.1 h1
    have h3 := ready_nil hb s.size hr k hl
    rw [s.told k hl] at h3
    simp only [Bool.and_eq_true, Bool.not_eq_true'] at h2 h3
    rw [h2.1] at h3
    exact Bool.noConfusion h3.1
  · intro X listed fuel a s i hi hX
    obtain ⟨hil, hni, o, ho, hdeps⟩ := mem_ready.1 hi
    have hnd : done.contains i = false := by
      have h3 := s.told i hil
      have h5 : X.contains i = false := by simpa using hX
      rw [hni, h5] at h3
      simpa using h3.symm
    have hik : i ∈ ks := by
      rw [← hks]
      refine List.mem_filter.2 ⟨List.mem_range.2 hil, ?_⟩
      rw [hnd]
      simp only [Bool.not_false, Bool.true_and]
      unfold depsIn
      rw [ho]
      refine Array.all_eq_true'.2 fun e he => ?_
      cases hbe : Region.binds .any e with
      | false => rfl
      | true =>
        have h1 := hdeps e he hbe
        have hel : e.on < ops.size := by
          have h2 := (List.all_eq_true.1 hb) i (List.mem_range.2 hil)
          rw [ho] at h2
          have h3 := Array.all_eq_true'.1 h2 e he
          simp only [hbe, Bool.not_true, Bool.false_or] at h3
          have : e.on < i := Nat.blt_eq.mp h3
          omega
        have h2 := s.told e.on hel
        have hlt : e.on < listed.size := by have := s.size; omega
        have h3 : listed.getD e.on true = true := by
          simp only [Array.getD, hlt, dite_true] at h1 ⊢
          exact h1
        rw [h3] at h2
        have h4 := h2.symm
        rw [Bool.and_eq_true] at h4
        rw [h4.1]
        rfl
    obtain ⟨o', ho', hwl⟩ := hk i hik
    rw [ho] at ho'
    obtain rfl := Option.some.inj ho'
    have heffi := (List.all_eq_true.1 heff) i hik
    have hnotX : ∀ y ∈ X, behind ops y i = false := by
      intro y hy
      cases hby : behind ops y i with
      | false => rfl
      | true =>
        have h1 := behind_listed hi hby
        have hyl : y < ops.size := by
          rcases Nat.lt_or_ge y ops.size with h' | h'
          · exact h'
          · have : y < listed.size := by
              rcases Nat.lt_or_ge y listed.size with h'' | h''
              · exact h''
              · simp [Array.getD, Nat.not_lt.mpr h''] at h1
            have := s.size
            omega
        rw [(s.pending hy hyl).2] at h1
        cases h1
    have hpairE : ∀ y ∈ X, ∀ d, dstOf ops y = some d → d ∉ o.looksAt ops ∧ o.dst ≠ some d := by
      intro y hy d hd
      have h1 := (List.all_eq_true.1 heffi) y (s.sub y hy)
      rw [Bool.and_eq_true] at h1
      have h2 := h1.2
      rw [hnotX y hy, Bool.false_or, Bool.and_eq_true] at h2
      have hyl : y < ops.size := by
        unfold dstOf at hd
        cases hoy : ops[y]? with
        | none => rw [hoy] at hd; cases hd
        | some oy => exact lt_of_some hoy
      exact okPair_spec h2.1 hi (s.pending hy hyl).2 ho d hd
    have heval : ∀ t ∈ o.looksAt ops, a.tmps.getD t undef = r t := fun t ht => s.agree t fun x hx hxd => (hpairE x hx t hxd).1 ht
    -- the frame in which all that is taken is done
    obtain ⟨g, hg⟩ : ∃ g : Act, Has n ds g r := by
      refine ⟨⟨((List.range n).map r).toArray, ds⟩, by simp, fun t => ?_, rfl⟩
      by_cases htn : t < n
      · simp [Array.getD, htn]
      · have h0 : r t = undef := by
          have h1 := s.agree t (fun x hx hxd => by
            have hob : obl P n ops r w x := by
              rcases List.mem_append.1 (s.sub x hx) with h | h
              · exact hpure x h w
              · exact hlds x h
            obtain ⟨ox, dx, hox, hdx, hdn, _⟩ := hob
            have e1 : dx = t := by
              unfold dstOf at hxd
              rw [hox] at hxd
              simp only [Option.bind_some, hdx] at hxd
              exact Option.some.inj hxd
            have e2 : dx < n := Nat.blt_eq.mp hdn
            exact htn (e1 ▸ e2))
          rw [← h1]
          have := s.asize
          simp [Array.getD, show ¬ t < a.tmps.size by omega]
        simp [Array.getD, htn, h0]
    have hexec : execOp a.eval o = execOp g.eval o := by
      rw [hg.eval]
      exact exec_congr (f := fun t => a.tmps.getD t undef) (g := r) (noSel_spec hns ho) (fun x hx => by cases x <;> first | rfl | exact absurd rfl (hx _)) (fun _ => rfl) (fun _ => rfl) heval
    have hwant : Region.wanted o (yielded ops a.tmps) = Region.wanted o (yielded ops g.tmps) := by
      refine wanted_congr fun g' want hg' => ?_
      rw [yielded_yl (f := fun t => a.tmps.getD t undef) (fun _ => rfl), yielded_yl hg.val]
      exact yl_congr fun d' hd' => heval d' (looks_guard hg' hd')
    -- behind the effect
    have hnext : ∀ v w', (∃ r', Has n ds (g.put o.dst v) r' ∧ FLI P n ops Q (i :: done) (leave ops i pure) (leave ops i lds) r' w') →
        wpAnyIn (FR none) kk P .any ops (lift n ds Q) fuel (listed.setIfInBounds i true) (a.put o.dst v) w' := by
      rintro v w' ⟨r', hr', hfl⟩
      have hval : ∀ t, o.dst ≠ some t → r' t = r t := by
        intro t ht
        rw [← hr'.val, ← hg.val]
        cases hod : o.dst with
        | none => rfl
        | some d =>
          have hne : d ≠ t := fun e => ht (by rw [hod, e])
          simp only [Act.put]
          rw [Array.getD_eq_getD_getElem?, Array.getElem?_setIfInBounds_ne hne, ← Array.getD_eq_getD_getElem?]
      refine hfl (fun j hj w'' => ?_) kk ds X _ _ _ ⟨?_, ?_, ?_, ?_, ?_, ?_, ?_, ?_⟩
      · obtain ⟨hj1, hj2⟩ := List.mem_filter.1 hj
        obtain ⟨oj, dj, hoj, hdj, hdn, hv⟩ := hpure j hj1 w''
        have h1 := (List.all_eq_true.1 heffi) j (List.mem_append.2 (.inl hj1))
        rw [Bool.and_eq_true] at h1
        have h2 := h1.2
        simp only [Bool.not_eq_true'] at hj2
        rw [hj2, Bool.false_or, Bool.and_eq_true, ho, hoj] at h2
        have h3 := h2.2
        have hap : ∀ d, o.dst = some d → d ∉ oj.looksAt ops ∧ oj.dst ≠ some d := by
          intro d hd
          simp only [hd, Bool.and_eq_true, Bool.not_eq_true', bne_iff_ne, ne_eq] at h3
          exact ⟨by simpa using h3.1, h3.2⟩
        have hl : ∀ t ∈ oj.looksAt ops, r' t = r t := fun t ht => hval t fun e => (hap t e).1 ht
        have hexec' : execOp (ev r') oj = execOp (ev r) oj :=
          exec_congr (f := r') (g := r) (noSel_spec hns hoj) (fun x hx => by cases x <;> first | rfl | exact absurd rfl (hx _)) (fun _ => rfl) (fun _ => rfl) hl
        have hw' : Region.wanted oj (yl ops r') = Region.wanted oj (yl ops r) := wanted_congr fun g' want hg' => yl_congr fun d' hd' => hl d' (looks_guard hg' hd')
        refine ⟨oj, dj, hoj, hdj, hdn, ?_⟩
        rw [hw', hexec', hval dj fun e => (hap dj e).2 hdj]
        exact hv
      · intro x hx
        have hb' := hnotX x hx
        have hkeep : ∀ l : List Nat, x ∈ l → x ∈ leave ops i l := fun l hxl => List.mem_filter.2 ⟨hxl, by rw [hb']; rfl⟩
        rcases List.mem_append.1 (s.sub x hx) with h | h
        · exact List.mem_append.2 (.inl (hkeep _ h))
        · exact List.mem_append.2 (.inr (hkeep _ h))
      · intro x hx
        have := s.subd x hx
        simp only [List.contains_cons, this, Bool.or_true]
      · simp [s.size]
      · intro j hj
        by_cases hji : j = i
        · subst hji
          have h1 : (listed.setIfInBounds j true).getD j true = true := by simp [Array.getD_eq_getD_getElem?]
          have h5 : X.contains j = false := by simpa using hX
          rw [h1, h5]
          simp
        · have hne : i ≠ j := fun e => hji e.symm
          have h1 : (listed.setIfInBounds i true).getD j true = listed.getD j true := by simp only [Array.getD_eq_getD_getElem?, Array.getElem?_setIfInBounds_ne hne]
          have hf : (j == i) = false := by simpa using hji
          rw [h1, s.told j hj]
          simp only [List.contains_cons, hf, Bool.false_or]
      · have := unl_set s.size hil hni
        have := s.fuel
        omega
      · cases hod : o.dst with
        | none => simp [Act.put, s.asize]
        | some d => simp [Act.put, s.asize]
      · cases hod : o.dst with
        | none => simp [Act.put, s.defers]
        | some d => simp [Act.put, s.defers]
      · intro t ht
        cases hod : o.dst with
        | none =>
          simp only [Act.put]
          rw [s.agree t ht, hval t (by rw [hod]; intro h; cases h)]
        | some d =>
          by_cases htd : t = d
          · subst htd
            rw [← hr'.val, hod]
            simp only [Act.put, Array.getD_eq_getD_getElem?, Array.getElem?_setIfInBounds_self]
            have h1 := s.asize
            have h2 := hg.size
            rw [h1, h2]
          · have hne : d ≠ t := fun e => htd e.symm
            rw [hval t (by rw [hod]; exact fun e => hne (Option.some.inj e))]
            simp only [Act.put]
            rw [Array.getD_eq_getD_getElem?, Array.getElem?_setIfInBounds_ne hne, ← Array.getD_eq_getD_getElem?]
            exact s.agree t ht
    have hd0 : a.defers = g.defers := by rw [s.defers, hg.defers]
    have h := hwl kk ds g hg
    unfold wpListIn at h
    unfold wpOpIn
    rw [ho]
    simp only
    rw [hwant]
    by_cases hw : Region.wanted o (yielded ops g.tmps) = true
    · rw [if_pos hw] at h ⊢
      obtain ⟨_, h⟩ := h
      refine ⟨fun _ _ => trivial, ?_⟩
      have hsem : ∀ e : Operand → Value, o.semAt (FR none).round e = execOp e o := fun e => by simp [Oper.semAt]
      rw [hsem] at h ⊢
      rw [hexec]
      generalize (execOp g.eval o).run P w = x at *
      cases x with
      | ok v w' =>
        cases v <;> simp only [Oper.uponIn] at h ⊢
        case value v =>
          obtain ⟨r', h1, _, h2⟩ := h
          exact hnext v w' ⟨r', h1, h2⟩
        case skip =>
          obtain ⟨r', h1, _, h2⟩ := h
          exact hnext _ w' ⟨r', h1, h2⟩
        case enter f args =>
          refine ⟨h.1, CallsIn.mono h.2 ?_⟩
          intro e w'' he
          cases e with
          | returned v =>
            obtain ⟨r', h1, _, h2⟩ := he
            exact hnext v w'' ⟨r', h1, h2⟩
          | panicked c =>
            obtain ⟨_, _, hx, _⟩ := he
            cases hx
          | outgrown =>
            obtain ⟨_, _, _, _, hx, _⟩ := he
            cases hx
        case row row args =>
          refine ⟨h.1, RowsIn.mono h.2 ?_⟩
          rintro v w'' ⟨r', h1, _, h2⟩
          exact hnext v w'' ⟨r', h1, h2⟩
        case round l f tmps assign body =>
          refine ⟨h.1, RoundIn.mono h.2 ?_⟩
          intro e w'' he
          cases e with
          | returned v =>
            obtain ⟨r', h1, _, h2⟩ := he
            exact hnext v w'' ⟨r', h1, h2⟩
          | panicked c =>
            obtain ⟨_, _, hx, _⟩ := he
            cases hx
          | outgrown =>
            obtain ⟨_, _, _, _, hx, _⟩ := he
            cases hx
        case defer d =>
          obtain ⟨r', h1, _, h2⟩ := h
          have := h1.defers
          cases hod : o.dst <;> simp [Act.put, hod, hg.defers] at this
      | halt x w' =>
        cases x <;> simp only [Oper.uponIn] at h ⊢
        obtain ⟨_, _, hx, _⟩ := h
        cases hx
    · rw [if_neg hw] at h ⊢
      obtain ⟨_, r', h1, _, h2⟩ := h
      exact ⟨fun _ _ => trivial, hnext _ w ⟨r', h1, h2⟩⟩

theorem fli_end {done pure lds : List Nat} (hall : ((List.range ops.size).all done.contains) = true) (hb : backward ops = true) (hns : noSel ops = true) (hpair : okAll ops (pure ++ lds) = true)
    (hlds : ∀ i ∈ lds, obl P n ops r w i) (h : Q .normal r w) : FLI P n ops Q done pure lds r w := by
  intro hpure kk ds X listed fuel a s
  have hin : ∀ X listed fuel a, RS n ops done (pure ++ lds) r X listed fuel ds a → Region.ready .any ops listed = [] → lift n ds Q .normal a w := by
    intro X listed fuel a s hr
    refine ⟨r, ⟨s.asize, fun t => s.agree t fun x hx hxd => ?_, s.defers⟩, h⟩
    unfold dstOf at hxd
    cases ho : ops[x]? with
    | none => rw [ho] at hxd; cases hxd
    | some o =>
      have hl := lt_of_some ho
      have h1 := ready_nil hb s.size hr x hl
      have h2 := (s.pending hx hl).1
      rw [h1] at h2
      cases h2
  refine fli_core hns hpair hpure hlds hin ?_ fuel X listed a s
  intro X listed fuel a s i hi hX
  obtain ⟨h1, h2, _⟩ := mem_ready.1 hi
  have h3 := s.told i h1
  have h4 := (List.all_eq_true.1 hall) i (List.mem_range.2 h1)
  have h5 : X.contains i = false := by simpa using hX
  rw [h4, h5, h2] at h3
  cases h3


/-- A reckoning that leans on no memory is taken. -/
theorem fli_pure {done pure lds : List Nat} {d : Nat} {v : Value} (i : Nat) (hd : dstOf ops i = some d) (hns : noSel ops = true) (hnd : done.contains i = false) (hf : freshB ops pure i d = true)
    (hob : ∀ w', obl P n ops (upd d v r) w' i) (k : FLI P n ops Q (i :: done) (i :: pure) lds (upd d v r) w) : FLI P n ops Q done pure lds r w := by
  intro hpure kk ds X listed fuel a s
  refine k (fun j hj w' => ?_) kk ds (i :: X) listed fuel a (s.taken hd hnd fun x hx => ?_)
  · rcases List.mem_cons.1 hj with h | h
    · subst h; exact hob w'
    · have := freshB_spec hf h
      exact obl_upd (hpure j h w') hns this.1 this.2
  · rcases hx with h | h
    · subst h; simp
    · rcases List.mem_append.1 h with h | h
      · exact List.mem_append.2 (.inl (List.mem_cons_of_mem _ h))
      · exact List.mem_append.2 (.inr h)

/-- A read is taken; that it reads this is asked ahead of each effect that it may come behind. -/
theorem fli_load {done pure lds : List Nat} {d : Nat} {v : Value} (i : Nat) (hd : dstOf ops i = some d) (hns : noSel ops = true) (hnd : done.contains i = false) (hf : freshB ops pure i d = true)
    (k : FLI P n ops Q (i :: done) pure (i :: lds) (upd d v r) w) : FLI P n ops Q done pure lds r w := by
  intro hpure kk ds X listed fuel a s
  refine k (fun j hj w' => ?_) kk ds (i :: X) listed fuel a (s.taken hd hnd fun x hx => ?_)
  · have := freshB_spec hf hj
    exact obl_upd (hpure j hj w') hns this.1 this.2
  · rcases hx with h | h
    · subst h; simp
    · rcases List.mem_append.1 h with h | h
      · exact List.mem_append.2 (.inl h)
      · exact List.mem_append.2 (.inr (List.mem_cons_of_mem _ h))

end
section
variable {P : Program} {n : Nat} {ops : Array Oper} {Q : Po} {r : Fr} {w : World} {done pure lds : List Nat} {d : Nat} {op : Op} {ty : TypeId} {pos : String} {after : Array Edge} {v : Value}

/-- A reckoning. -/
theorem fli_val (i : Nat) (ho : ops[i]? = some ⟨some d, op, ty, pos, after, none⟩) (hv : ∀ w', Val P op ty r w' v w') (hd : Nat.blt d n = true) (hc : chkV ops done pure i d = true)
    (k : FLI P n ops Q (i :: done) (i :: pure) lds (upd d v r) w) : FLI P n ops Q done pure lds r w := by
  simp only [chkV, Bool.and_eq_true, Bool.not_eq_true'] at hc
  obtain ⟨⟨⟨h1, h2⟩, h3⟩, h4⟩ := hc
  exact fli_pure i (by unfold dstOf; rw [ho]; rfl) h1 h2 h3 (fun w' => obl_of h4 h1 ho hd (hv w')) k

/-- A read. -/
theorem fli_ld (i : Nat) (ho : ops[i]? = some ⟨some d, op, ty, pos, after, none⟩) (_hv : Val P op ty r w v w) (hc : chkV ops done pure i d = true)
    (k : FLI P n ops Q (i :: done) pure (i :: lds) (upd d v r) w) : FLI P n ops Q done pure lds r w := by
  simp only [chkV, Bool.and_eq_true, Bool.not_eq_true'] at hc
  obtain ⟨⟨⟨h1, h2⟩, h3⟩, _⟩ := hc
  exact fli_load i (by unfold dstOf; rw [ho]; rfl) h1 h2 h3 k

/-- The one effect that comes up. -/
theorem fli_eff1 (k : Nat) (pure' lds' : List Nat) (hc : chkE1 ops done pure lds k pure' lds' = true) (hl : Obls P n ops r w lds) {o : Oper} (ho : ops[k]? = some o)
    (h : WLI P n ops (fun e r' w' => e = .normal ∧ FLI P n ops Q (k :: done) pure' lds' r' w') [o] r w) : FLI P n ops Q done pure lds r w := by
  simp only [chkE1, chkE, Bool.and_eq_true, beq_iff_eq] at hc
  obtain ⟨⟨⟨⟨⟨⟨⟨h1, h2⟩, h3⟩, h4⟩, h5⟩, h6⟩, h7⟩, h8⟩ := hc
  refine fli_eff [k] h1 (by simp) h3 h4 h5 h6 hl.all fun j hj => ?_
  have : j = k := by simpa using hj
  subst this
  refine ⟨o, ho, ?_⟩
  rw [h7, h8]
  exact h

theorem fli_nil (hc : chkN ops done pure lds = true) (hl : Obls P n ops r w lds) (h : Q .normal r w) : FLI P n ops Q done pure lds r w := by
  simp only [chkN, Bool.and_eq_true] at hc
  obtain ⟨⟨⟨h1, h2⟩, h3⟩, h4⟩ := hc
  exact fli_end h1 h2 h3 h4 hl.all h

/-- The region: none is done yet. -/
theorem wc_drawI {id : Nat} {l : List Oper} (hm : P.follows .mixedOrders = true) (h : FLI P n l.toArray Q [] [] [] r w.drew) : WC P n Q (.region id l.toArray true) r w := by
  intro ds a ha
  refine wpIn_wide (n := 9).1 (wpIn_region_draw fun t => ?_)
  simp only [Region.schedule, hm, Bool.true_or, if_true]
  refine wpAnyIn_sound l.toArray.size t _ a _ ?_
  refine h (by simp) 9 ds [] _ _ a ⟨by simp, by simp, by simp, fun i hi => ?_, ?_, ha.size, ha.defers, fun t _ => ha.val t⟩
  · rw [getD_replicate_false _ _ hi]; rfl
  · unfold unl
    exact Nat.le_trans (List.countP_le_length) (by simp)
end
end K
end Go.Proofs.Ytjjpakjgppmmdaa

/-
  A scope in a function that holds a range; append to a row that is not the first.
-/
namespace Go.Proofs.Ytjjpakjgppmmdaa
open Go Go.RowKit
namespace K

section
variable {F : Fence} {n : Nat} {P : Program} {b : Frame} {a : Act} {k : List Item} {cs : List Frame} {w : World} {Q : Exit → Act → World → Prop}

theorem stepR_scope' {c : Code} : step P (lone (b.atR a (.code (.scope c) :: k)) cs w) = .next (lone (b.atR a (.code c :: .inScope c :: k)) cs w) :=
  step_lone_go (by simp [stepG, stepG.exec, Frame.atR])
theorem stepR_inScope' {c : Code} : step P (lone (b.atR a (.inScope c :: k)) cs w) = .next (lone (b.atR a k) cs w) :=
  step_lone_go (by simp [stepG, stepG.exec, Frame.atR])

theorem wpIn_scope' {c : Code} (h : c.wpIn F n P (Exit.noGoto Q) a w) : (Code.scope c).wpIn F n P Q a w := by
  intro b k cs hro hb hr
  have h0 : (lone (b.atR a (.code (.scope c) :: k)) cs w).fenced P F := fenced_calm hb hr rfl
  obtain ⟨e, a₁, w₁, hq, harr⟩ := h b (.inScope c :: k) cs hro hb hr
  cases e with
  | normal => exact ⟨.normal, a₁, w₁, hq, .head h0 stepR_scope' (StepsIn.trans harr (.one (fenced_calm hb hr rfl) stepR_inScope'))⟩
  | exit id =>
    have hx : exitTo id (.inScope c :: k) = exitTo id k := by simp [exitTo]
    exact ⟨.exit id, a₁, w₁, hq, fun k' hk => .head h0 stepR_scope' (harr.1 k' (by rw [hx]; exact hk)),
      fun hr' hk => let ⟨k₁, h1, h2⟩ := harr.2 hr' (by rw [hx]; exact hk); ⟨k₁, h1, .head h0 stepR_scope' h2⟩⟩
  | goto l => exact hq.elim
  | ret => exact ⟨_, a₁, w₁, hq, .of_steps (.one h0 stepR_scope') harr⟩
  | panic ch => exact ⟨_, a₁, w₁, hq, .of_steps (.one h0 stepR_scope') harr⟩
  | outgrown => exact ⟨_, a₁, w₁, hq, .of_steps (.one h0 stepR_scope') harr⟩
end

section
variable {P : Program} {n : Nat} {Q : PoX} {r : Fr} {w : World} {ds : List Deferred}
theorem wx_scope {c : Code} (hQ : ∀ ds l r w, Q ds (.goto l) r w → False) (h : WX ds P n Q c r w) : WX ds P n Q (.scope c) r w := by
  intro k a ha
  refine wpIn_scope' (wpIn_mono (h k a ha) ?_)
  rintro e a' w' ⟨ds', r', h1, h2⟩
  cases e with
  | goto l => exact (hQ ds' l r' w' h2).elim
  | _ => exact ⟨ds', r', h1, h2⟩
end

section
variable {P : Program} {n : Nat} {ops : Array Oper} {Q : Po} {rest : List Oper} {r : Fr} {w : World} {d : Nat} {ty : TypeId} {pos : String} {after : Array Edge} {m0 m : Mem} {F : List Nat} {w0 : World} {Es : List Ent}
theorem wl_appBi (i : Nat) {T U E bytes j : Nat} {D : TypeDesc} {v x : Value} {s y : Operand} {l l2 : List UInt8} (st : St m0 m F w0 w Es) (hi : Es[i]? = some (rowE v E 1 l.length (bs l))) (hT : P.underlying T = some (.slice E)) (hU : P.underlying U = some D) (hD : D = .string ∨ ∃ E', D = .slice E') (tf : TyF P E false 1 bytes) (hz : TyZ P E (.int .u8 0))
    (hs : ev r s = v) (hy : ev r y = x) (src : Src P w x 1 j (bs l2)) (hb : (l.length + l2.length) * bytes ≤ 140737488355328) (h63 : l.length + l2.length ≤ 9223372036854775807) (hd : Nat.blt d n = true)
    (k : ∀ v' w', St m0 m F w0 w' (Es.set i (rowE v' E 1 (l ++ l2).length (bs (l ++ l2)))) → v'.oneCell' = true → WL P n ops Q rest (upd d v' r) w') :
    WL P n ops Q (⟨some d, .call ⟨.builtin .append, #[s, y], #[T, U]⟩, ty, pos, after, none⟩ :: rest) r w := by
  have hj : l2.length = j := by have := src.length; simpa [bs] using this
  subst hj
  refine wl_append (news := bs l2) i st hi hT hU hD tf hz rfl hs hy src h63 hb hd ?_
  intro v' w' _ st'
  have e : bs l ++ bs l2 = bs (l ++ l2) := by simp [bs]
  rw [e, show l.length + l2.length = (l ++ l2).length by simp] at st'
  have hlt : i < Es.length := by
    rcases Nat.lt_or_ge i Es.length with h | h
    · exact h
    · rw [List.getElem?_eq_none h] at hi; cases hi
  have hrow : (rowE v' E 1 (l ++ l2).length (bs (l ++ l2))).holds w' := st'.at (i := i) (by simp [hlt])
  exact k v' w' st' (row_one hrow)

theorem St.keepB (st : St m0 m [] w0 w Es) {i : Nat} {v : Value} {E : TypeId} {l : List UInt8} (hi : Es[i]? = some (rowE v E 1 l.length (bs l))) :
    ∃ m', Grow m m' w0.heap.size ∧ SlM m' v 1 l.length (bs l) ∧ St m0 m' [] w0 w (Es.eraseIdx i) := by
  obtain ⟨m2, hg2, hm2, st2⟩ := st.freezeR hi (by simp)
  exact ⟨m2, hg2, row_SlM (m := m2) (st.at hi) hm2, st2⟩
end
end K
end Go.Proofs.Ytjjpakjgppmmdaa

/-
  Reckonings whose answer is known.
-/
namespace Go.Proofs.Ytjjpakjgppmmdaa
open Go Go.RowKit K

theorem v_to {P : Program} {r : Fr} {w w' : World} {ty : TypeId} {o : Op} {v v' : Value} (h : Val P o ty r w v w') (e : v = v') : Val P o ty r w v' w' := e ▸ h

section
variable {P : Program} {r : Fr} {w : World} {ty : TypeId}
theorem v_eqlF {T U : TypeId} {x y : Operand} {k : IntKind} {a b : Int} (h : ¬ a = b) (hx : ev r x = .int k a) (hy : ev r y = .int k b) : Val P (.binOp .eql T x y U) ty r w (.bool false) w := by
  have := v_eql (P := P) (T := T) (U := U) (ty := ty) (w := w) hx hy
  rwa [decide_eq_false h] at this
theorem v_eqlT {T U : TypeId} {x y : Operand} {k : IntKind} {a b : Int} (h : a = b) (hx : ev r x = .int k a) (hy : ev r y = .int k b) : Val P (.binOp .eql T x y U) ty r w (.bool true) w := by
  have := v_eql (P := P) (T := T) (U := U) (ty := ty) (w := w) hx hy
  rwa [decide_eq_true h] at this
end

section
variable {P : Program} {r : Fr} {w : World} {ty : TypeId}
theorem v_neqF {T U : TypeId} {x y : Operand} {k : IntKind} {a b : Int} (h : a = b) (hx : ev r x = .int k a) (hy : ev r y = .int k b) : Val P (.binOp .neq T x y U) ty r w (.bool false) w := by
  have := v_neq (P := P) (T := T) (U := U) (ty := ty) (w := w) hx hy
  rwa [decide_eq_false (not_not_intro h)] at this
theorem v_neqT {T U : TypeId} {x y : Operand} {k : IntKind} {a b : Int} (h : ¬ a = b) (hx : ev r x = .int k a) (hy : ev r y = .int k b) : Val P (.binOp .neq T x y U) ty r w (.bool true) w := by
  have := v_neq (P := P) (T := T) (U := U) (ty := ty) (w := w) hx hy
  rwa [decide_eq_true h] at this
end
theorem v_nebF {P : Program} {r : Fr} {w : World} {ty : TypeId} {T U : TypeId} {x y : Operand} {a : Bool} (hT : P.underlying T = some .bool) (hx : ev r x = .bool a) (hy : ev r y = .bool a) : Val P (.binOp .neq T x y U) ty r w (.bool false) w := by
  have h := v_neb (P := P) (T := T) (U := U) (ty := ty) (w := w) hT hx hy
  rwa [beq_self_eq_true] at h

end Go.Proofs.Ytjjpakjgppmmdaa

/-
  Digests, lists of digests, ways: how they lie.
-/
namespace Go.Proofs.Ytjjpakjgppmmdaa
open Go Go.RowKit K SH PT

def z32 : By := List.replicate 32 0
theorem v_neDF {r : Fr} {w : World} {ty U : TypeId} {x y : Operand} {a : By} (hx : ev r x = arr a) (hy : ev r y = arr a) (ha : a.length = 32) : Val Try.prog (.binOp .neq 23 x y U) ty r w (.bool false) w := by
  have h := v_ne_arr (U := U) (ty := ty) (w := w) Try.underlying23 TF.t5 Try.underlying5 TF.e23 hx hy ha ha
  rwa [decide_eq_false (not_not_intro rfl)] at h
theorem v_eqDT {r : Fr} {w : World} {ty U : TypeId} {x y : Operand} {a : By} (hx : ev r x = arr a) (hy : ev r y = arr a) (ha : a.length = 32) : Val Try.prog (.binOp .eql 23 x y U) ty r w (.bool true) w := by
  have h := v_eq_arr (U := U) (ty := ty) (w := w) Try.underlying23 TF.t5 Try.underlying5 TF.e23 hx hy ha ha
  rwa [decide_eq_true rfl] at h
theorem v_neD {r : Fr} {w : World} {ty U : TypeId} {x y : Operand} {a b : By} (hx : ev r x = arr a) (hy : ev r y = arr b) (ha : a.length = 32) (hb : b.length = 32) : Val Try.prog (.binOp .neq 23 x y U) ty r w (.bool (decide (¬ a = b))) w :=
  v_ne_arr Try.underlying23 TF.t5 Try.underlying5 TF.e23 hx hy ha hb
theorem v_eqD {r : Fr} {w : World} {ty U : TypeId} {x y : Operand} {a b : By} (hx : ev r x = arr a) (hy : ev r y = arr b) (ha : a.length = 32) (hb : b.length = 32) : Val Try.prog (.binOp .eql 23 x y U) ty r w (.bool (decide (a = b))) w :=
  v_eq_arr Try.underlying23 TF.t5 Try.underlying5 TF.e23 hx hy ha hb

def digs (L : List By) : List Value := L.flatMap bs
def D32 (L : List By) : Prop := ∀ x ∈ L, x.length = 32

theorem length_digs : ∀ {L : List By}, D32 L → (digs L).length = L.length * 32
  | [], _ => rfl
  | x :: L, h => by
    have h1 := h x (by simp)
    have h2 := length_digs (L := L) fun y hy => h y (by simp [hy])
    simp only [digs, List.flatMap_cons, List.length_append, length_bs, List.length_cons] at h2 ⊢
    omega

theorem one_digs (L : List By) : ∀ u ∈ digs L, u.oneCell' = true := by
  intro u hu
  obtain ⟨x, _, hx⟩ := List.mem_flatMap.1 hu
  exact one_bs x u hx

theorem D32.app {L M : List By} (h : D32 L) (h' : D32 M) : D32 (L ++ M) := fun x hx => (List.mem_append.1 hx).elim (h x) (h' x)
theorem D32.one {d : By} (h : d.length = 32) : D32 [d] := fun x hx => by simp at hx; rw [hx, h]
theorem D32.take {L : List By} (h : D32 L) (i : Nat) : D32 (L.take i) := fun x hx => h x (List.mem_of_mem_take hx)
theorem D32.get {L : List By} (h : D32 L) {i : Nat} (hi : i < L.length) : L[i].length = 32 := h _ (List.getElem_mem hi)
theorem digs_app {L M : List By} : digs (L ++ M) = digs L ++ digs M := by simp [digs]
theorem digs_one {d : By} : digs [d] = bs d := by simp [digs]

theorem cells_digs : ∀ {L : List By}, D32 L → ∀ {i : Nat} (hi : i < L.length), cellsAt (digs L) 32 i = bs L[i]
  | [], _, _, hi => by simp at hi
  | x :: L, h, 0, _ => by
    have h1 := h x (by simp)
    simp only [cellsAt, digs, List.flatMap_cons, Nat.zero_mul, List.drop_zero, List.getElem_cons_zero]
    rw [List.take_left' (by rw [length_bs, h1])]
  | x :: L, h, i + 1, hi => by
    have h1 := h x (by simp)
    have h2 := cells_digs (L := L) (fun y hy => h y (by simp [hy])) (i := i) (by simp at hi; omega)
    rw [List.getElem_cons_succ, ← h2]
    simp only [cellsAt, digs, List.flatMap_cons]
    rw [show (i + 1) * 32 = (bs x).length + i * 32 by rw [length_bs, h1]; omega, List.drop_append, List.drop_eq_nil_of_le (by omega), List.nil_append, Nat.add_sub_cancel_left]

/-- A slice of digests lies there. -/
def DigM (m : Mem) (v : Value) (L : List By) : Prop := D32 L ∧ SlM m v 32 L.length (digs L)

theorem DigM.mono {m m' : Mem} {v : Value} {L : List By} (h : DigM m v L) (hm : ∀ k o, m k = some o → m' k = some o) : DigM m' v L := ⟨h.1, h.2.mono hm⟩
theorem DigM.nil {m : Mem} : DigM m (.slice none 0 0) [] := ⟨fun _ h => (by simp at h), SlM.nil⟩
theorem DigM.sl {m : Mem} {v : Value} {L : List By} (h : DigM m v L) : ∃ a cap, v = .slice a L.length cap := by
  obtain ⟨_, _, a, cap, rfl, _⟩ := h
  exact ⟨a, cap, rfl⟩

theorem DigM.at {m : Mem} {a : Option Addr} {k cap : Nat} {L : List By} (h : DigM m (.slice a k cap) L) {i : Nat} (hi : i < L.length) :
    ∃ b o, a = some ⟨b, o, none⟩ ∧ ∀ {w : World} (_ : Im m w), Reads Try.prog w 23 ⟨b, o + i * 32, none⟩ (arr L[i]) := by
  obtain ⟨b, o, cap', hv, _, hr⟩ := h.2.elem Try.prog (i := i) hi (by omega)
  simp only [Value.slice.injEq] at hv
  refine ⟨b, o, hv.1, fun {w} him => ?_⟩
  have := hr him (off := 0) (v' := arr L[i]) TF.t23 (by
    rw [cells_digs h.1 hi]
    exact getV_all (by simp [length_bs, h.1.get hi]))
  simpa using this

abbrev digE (v : Value) (L : List By) : Ent := rowE v 23 32 L.length (digs L)

section
variable {n : Nat} {ops : Array Oper} {Q : Po} {rest : List Oper} {r : Fr} {w : World} {d : Nat} {ty : TypeId} {pos : String} {after : Array Edge} {m0 m : Mem} {F : List Nat} {w0 : World} {Es : List Ent}

theorem wl_digOne {x : Operand} (c : By) (hc : c.length = 32) (hx : ev r x = arr c) (st : St m0 m F w0 w Es) (hd : Nat.blt d n = true)
    (k : ∀ b w', St m0 m F w0 w' (K.blk b (bs c).toArray 23 :: Es) → WL Try.prog n ops Q rest (upd d (.slice (some ⟨b, 0, none⟩) 1 1) r) w') :
    WL Try.prog n ops Q (⟨some d, .buildSlice 38 1 #[(0, x)], ty, pos, after, none⟩ :: rest) r w := by
  refine wl_buildSlice (c' := (bs c).toArray) [(0, arr c)] Try.underlying38 TF.t23 TF.z23 (by decide) (by decide) (by simp [hx]) ⟨0, 32, rfl, by rw [size_arr, hc], by simp [size_madeCells], ?_⟩ st hd k
  exact setSeg_all (by simp [size_madeCells, arr, Value.cells, length_bs, hc])

/-- One digest appended to a row of one's own. -/
theorem wl_digApp (i : Nat) {b cap : Nat} {v : Value} {s y : Operand} {L : List By} {c : By} (st : St m0 m F w0 w (K.blk b (bs c).toArray 23 :: Es)) (hi : Es[i]? = some (digE v L)) (hc : c.length = 32)
    (hs : ev r s = v) (hy : ev r y = .slice (some ⟨b, 0, none⟩) 1 cap) (hb : L.length ≤ 1099511627776) (hd : Nat.blt d n = true)
    (k : ∀ v' w', St m0 m F w0 w' (Es.set i (digE v' (L ++ [c]))) → v'.oneCell' = true → WL Try.prog n ops Q rest (upd d v' r) w') :
    WL Try.prog n ops Q (⟨some d, .call ⟨.builtin .append, #[s, y], #[38, 38]⟩, ty, pos, after, none⟩ :: rest) r w := by
  refine wl_append (news := bs c) (i + 1) st hi Try.underlying38 Try.underlying38 (.inr ⟨_, rfl⟩) TF.t23 TF.z23 rfl hs hy (st.srcArr (off := 0) 0 rfl (by rw [length_bs, hc]) (fun j u hj => by simpa using hj) (one_bs _)) (by omega) (by omega) hd ?_
  intro v' w' _ st'
  have e : digs L ++ bs c = digs (L ++ [c]) := by rw [digs_app, digs_one]
  have e2 : L.length + 1 = (L ++ [c]).length := by simp
  have st2 := st'.drop 0
  rw [e, e2] at st2
  have st3 : St m0 m F w0 w' (Es.set i (digE v' (L ++ [c]))) := st2
  have hlt : i < Es.length := by
    rcases Nat.lt_or_ge i Es.length with h | h
    · exact h
    · rw [List.getElem?_eq_none h] at hi; cases hi
  have hrow : (digE v' (L ++ [c])).holds w' := st3.at (i := i) (by simp [hlt])
  exact k v' w' st3 (row_one hrow)

theorem K.St.nilDig (st : St m0 m F w0 w Es) : St m0 m F w0 w (digE (.slice Option.none 0 0) [] :: Es) := nilRow st 23 32

/-- Such a row, for ever. -/
theorem K.St.keepDig (st : St m0 m [] w0 w Es) {i : Nat} {v : Value} {L : List By} (hi : Es[i]? = some (digE v L)) (hL : D32 L) :
    ∃ m', Grow m m' w0.heap.size ∧ DigM m' v L ∧ St m0 m' [] w0 w (Es.eraseIdx i) := by
  obtain ⟨m2, hg2, hm2, st2⟩ := st.freezeR hi (by simp)
  exact ⟨m2, hg2, ⟨hL, row_SlM (m := m2) (st.at hi) hm2⟩, st2⟩
end

theorem DigM.rd {m : Mem} {a : Option Addr} {k cap : Nat} {L : List By} (h : DigM m (.slice a k cap) L) {b o i : Nat} {d : By} (ha : a = some ⟨b, o, none⟩) (hi : i < L.length) (hd : L[i] = d) {w : World} (him : Im m w) :
    Reads Try.prog w 23 ⟨b, o + i * 32, none⟩ (arr d) := by
  obtain ⟨b', o', ha', hr⟩ := h.at hi
  rw [ha] at ha'
  cases ha'
  rw [← hd]
  exact hr him

theorem DigM.ptr {m : Mem} {a : Option Addr} {k cap : Nat} {L : List By} (h : DigM m (.slice a k cap) L) (hi : 0 < L.length) : ∃ b o, a = some ⟨b, o, none⟩ := by
  obtain ⟨b, o, ha, _⟩ := h.at hi
  exact ⟨b, o, ha⟩
/-- A way: what is beside it, and its end. -/
structure Prf where
  S : List By
  E : Int
  I : By
  V : By

def prC (sv : Value) (E : Int) (I V : By) : Array Value := (sv :: .int .i64 E :: (bs I ++ bs V)).toArray
def PrM (m : Mem) (v : Value) (p : Prf) : Prop := ∃ sv, v = .agg (prC sv p.E p.I p.V) ∧ DigM m sv p.S ∧ p.I.length = 32 ∧ p.V.length = 32

theorem PrM.mono {m m' : Mem} {v : Value} {p : Prf} (h : PrM m v p) (hm : ∀ k o, m k = some o → m' k = some o) : PrM m' v p := by
  obtain ⟨sv, h1, h2, h3, h4⟩ := h
  exact ⟨sv, h1, h2.mono hm, h3, h4⟩

section
variable {sv : Value} {E : Int} {I V : By} (hI : I.length = 32) (hV : V.length = 32)
include hI hV in
theorem size_prC : (prC sv E I V).size = 66 := by simp [prC, length_bs, hI, hV]
theorem prC_S : getV false 1 (prC sv E I V) 0 = some sv := rfl
theorem prC_E : getV false 1 (prC sv E I V) 1 = some (.int .i64 E) := rfl
include hI in
theorem prC_I : getV true 32 (prC sv E I V) 2 = some (arr I) :=
  getV_seg (a := [sv, .int .i64 E]) (b := bs I) (c := bs V) (by simp) rfl (by rw [length_bs, hI])
include hI hV in
theorem prC_V : getV true 32 (prC sv E I V) 34 = some (arr V) :=
  getV_seg (a := sv :: .int .i64 E :: bs I) (b := bs V) (c := []) (by simp) (by simp [length_bs, hI]) (by rw [length_bs, hV])
include hI in
theorem set_prI {J : By} (hJ : J.length = 32) : setSeg (prC sv E I V) 2 (bs J) = prC sv E J V :=
  setSeg_mid (a := [sv, .int .i64 E]) (b := bs I) (c := bs V) rfl (by simp [length_bs, hI, hJ])
include hI hV in
theorem set_prV {J : By} (hJ : J.length = 32) : setSeg (prC sv E I V) 34 (bs J) = prC sv E I J := by
  have h := setSeg_mid (a := sv :: .int .i64 E :: bs I) (b := bs V) (c := []) (l := bs J) (o := 34) (by simp [length_bs, hI]) (by simp [length_bs, hV, hJ])
  simpa [prC] using h
theorem set_prS {sv' : Value} : (prC sv E I V).setIfInBounds 0 sv' = prC sv' E I V := rfl
theorem set_prE {E' : Int} : (prC sv E I V).setIfInBounds 1 (.int .i64 E') = prC sv E' I V := rfl
theorem one_prC (hs : sv.oneCell' = true) : ∀ u ∈ (prC sv E I V).toList, u.oneCell' = true := by
  intro u hu
  simp only [prC, List.mem_cons, List.mem_append] at hu
  rcases hu with rfl | rfl | h | h
  · exact hs
  · rfl
  · exact one_bs _ u h
  · exact one_bs _ u h
end

theorem zero_prC : ([Value.slice none 0 0] ++ [Value.int .i64 0] ++ List.replicate 32 (Value.int .u8 0) ++ List.replicate 32 (Value.int .u8 0)).toArray = prC (.slice none 0 0) 0 z32 z32 := rfl

end Go.Proofs.Ytjjpakjgppmmdaa

/-
  Signatures that are used once: what is hashed of the key to which one leads.
-/
namespace Go.Proofs.Ytjjpakjgppmmdaa
open Go Go.RowKit K SH PT

def opPart (sig : By) (i : Nat) : By := sum ((sig.drop (64 * i)).take 32)
def opAway (sig : By) (i : Nat) : By := (sig.drop (64 * i + 32)).take 32
def opStep (d sig : By) (i : Nat) : By := if bit d i = true then opAway sig i ++ opPart sig i else opPart sig i ++ opAway sig i
def openedK (d sig : By) (k : Nat) : By := 80 :: (List.range k).flatMap (opStep d sig)

theorem openedK_succ {d sig : By} {k : Nat} : openedK d sig (k + 1) = openedK d sig k ++ opStep d sig k := by simp [openedK, List.range_succ]
theorem length_away {sig : By} {i : Nat} (h : sig.length = 16384) (hi : i < 256) : (opAway sig i).length = 32 := by
  simp only [opAway, List.length_take, List.length_drop]; omega
theorem length_part {sig : By} {i : Nat} : (opPart sig i).length = 32 := length_sum _
theorem length_opStep {d sig : By} {i : Nat} (h : sig.length = 16384) (hi : i < 256) : (opStep d sig i).length = 64 := by
  unfold opStep
  split <;> simp [length_away h hi, length_part]
theorem length_openedK {d sig : By} (h : sig.length = 16384) : ∀ {k : Nat}, k ≤ 256 → (openedK d sig k).length = 1 + 64 * k
  | 0, _ => rfl
  | k + 1, hk => by
    rw [openedK_succ, List.length_append, length_openedK h (by omega), length_opStep h (by omega)]
    omega

section
variable {m : Mem} {wI : World}

theorem c_opened {bv sv : Value} {b sig : By} (him : Im m wI) (hb : SlM m bv 1 b.length (bs b)) (hbl : b.length ≤ 1099511627776) (hs : SlM m sv 1 sig.length (bs sig)) :
    Ret Try.prog 90 #[bv, sv] wI fun v' w' => Out m wI w' fun m' => ∃ v e, v' = .tuple #[v, .int .i64 e] ∧ ((sig.length = 16384 ∧ e = 0 ∧ SlM m' v 1 (openedK (sum b) sig 256).length (bs (openedK (sum b) sig 256))) ∨ (sig.length ≠ 16384 ∧ e = 15 ∧ v = .slice none 0 0)) := by
  have st := St.start him
  have hs0 := hs
  obtain ⟨_, sa, sc, rfl, hsk, _⟩ := hs
  refine ret_ofX Try.call90 Try.func90 rfl Try.ntmps90 Try.results90 rfl ?_
  refine wx_seqc ?_
  refine wc_region ?_
  refine wl_box (v := .slice sa sig.length sc) rfl st rfl ?_
  intro b3 w st
  refine wl_val (v_assign' (by conv => (lhs; whnf))) rfl ?_
  refine wl_val (v_assign' (by conv => (lhs; whnf))) rfl ?_
  refine wl_nil ?_
  refine then_go ?_
  refine wx_scope (fun _ _ _ _ h => h) ?_
  refine wx_seqc ?_
  refine wc_seq ?_
  refine wc_region ?_
  refine wl_val (v_load rfl (st.reads (v := .slice sa sig.length sc) 0 rfl TF.t41 rfl)) rfl ?_
  refine wl_val (v_len_s Try.underlying41 rfl) rfl ?_
  refine wl_val (v_neq rfl rfl) rfl ?_
  refine wl_nil ?_
  refine then_go ?_
  refine wc_if rfl (fun h13 => ?_) (fun h13 => ?_)
  · refine wc_seq ?_
    refine wc_region ?_
    refine wl_val (v_assign' (by conv => (lhs; whnf))) rfl ?_
    refine wl_val (v_assign' (by conv => (lhs; whnf))) rfl ?_
    refine wl_nil ?_
    refine then_go ?_
    refine wc_ret (then_ret ?_)
    show bodyQ Try.prog [.tmp 4, .tmp 5] (fun v' w' => Out m wI w' fun m' => ∃ v e, v' = .tuple #[v, .int .i64 e] ∧ ((sig.length = 16384 ∧ e = 0 ∧ SlM m' v 1 (openedK (sum b) sig 256).length (bs (openedK (sum b) sig 256))) ∨ (sig.length ≠ 16384 ∧ e = 15 ∧ v = .slice none 0 0))) .ret _ _
    exact ret2 rfl rfl ((st.keepOnly (l := []) (List.nil_sublist _)).out ⟨_, _, rfl, .inr ⟨by omega, rfl, rfl⟩⟩)
  · refine wc_skip ?_
    refine then_go ?_
    refine wx_seqc ?_
    refine wc_region ?_
    have hlen : sig.length = 16384 := by omega
    refine wl_byte1 80 Try.underlying41 TF.t5 TF.z5 rfl st rfl ?_
    intro b14 w st
    refine wl_alloc TF.z41 st rfl ?_
    intro b6 w st
    refine wl_store1 0 st rfl TF.t41 rfl (by conv => (lhs; whnf)) rfl (by first | exact lt_ok rfl | decide | simp) ?_
    intro w st
    have st := st.rowShut 1 (b := b14) (k := 1) (cap := 1) (size := 1) (xs := bs (openedK (sum b) sig 0)) rfl (by omega) rfl (by omega) rfl
    refine wl_nil ?_
    refine then_go ?_
    refine wx_seqc ?_
    refine wc_label ?_
    refine then_go ?_
    refine wx_cut (fun ds r w' => ∃ (D l : Nat) (o : Obj) (m' : Mem) (v : Value) (x : Value), ds = [K.mark D] ∧ r 6 = .pointer (some ⟨b6, 0, none⟩) ∧ St m m' [] wI w' [objE l o, objE D (.deferred (some [])), K.blk b6 #[v] 41, rowE v 5 1 (openedK (sum b) sig 256).length (bs (openedK (sum b) sig 256)), K.blk b3 #[x] 41]) ?_ ?_
    · refine wx_seqc ?_
      refine wc_region ?_
      refine wl_val (v_move' (by conv => (lhs; whnf))) rfl ?_
      refine wl_call rfl (by first | exact c_tagsof st.im hb hbl | exact c_tagsof (b := (sig.drop (64 * i)).take 32) st.im hsA (by rw [hlA]; omega)) rfl ?_
      rintro v16 w ⟨t16, rfl⟩
      have st := st.pure t16
      refine wl_call rfl (c_bits st.im) rfl ?_
      rintro v17 w ⟨b9, rfl, t9, hE⟩
      have st := st.new (E := K.blk b9 _ _) t9 hE
      obtain ⟨m1, hg1, hm1, st⟩ := st.freeze (i := 0) rfl (by simp)
      have hs1 := hs0.mono hg1.le
      change St _ _ _ _ _ [_, _, _] at st
      refine wl_nil ?_
      refine then_go ?_
      refine wx_block ?_
      refine wx_range (lb := [.pointer (some ⟨b9, 0, none⟩)]) rfl Try.call111 st ?_
      intro l D fn tmps rec w1 hrec htm hval st
      refine Calls.mono (c_bits1 (d := sum b) (l := l) (b1 := b9) (length_sum _)
        (fun i W => ∃ (v : Value) (a : Option Addr) (cap : Nat), SlM m1 (.slice a (sig.drop (64 * i)).length cap) 1 (sig.drop (64 * i)).length (bs (sig.drop (64 * i))) ∧ St m m1 [] wI W [objE l (.loop (rec .ready none)), objE D (.deferred (some [])), K.blk b6 #[v] 41, rowE v 5 1 (openedK (sum b) sig i).length (bs (openedK (sum b) sig i)), K.blk b3 #[.slice a (sig.drop (64 * i)).length cap] 41])
        (fun _ _ => False) ?_ ?_ ⟨_, sa, sc, hs1, st⟩).2 ?_
      · rintro i W ⟨_, _, _, _, st⟩
        exact st.readm hm1 TF.t23 (getV_all (by simp [arr, Value.cells, bs, length_sum]))
      rintro i W hi ⟨v, a, cap, hsl, st⟩
      have hkc : (sig.drop (64 * i)).length ≤ cap := by obtain ⟨_, a', c', he, hk, _⟩ := hsl; cases he; exact hk
      have hll : (sig.drop (64 * i)).length = 16384 - 64 * i := by rw [List.length_drop, hlen]
      refine yield_round hrec (st.at (i := 0) rfl) rfl htm hval rfl ?_
      · refine wi_region (by kernel_rfl) (fun _ _ h => h) ?_
        refine wl_val (v_assign' (by conv => (lhs; whnf))) rfl ?_
        refine wl_nil ?_
        refine then_go ⟨st.at (i := 0) rfl, ?_⟩
        have st := st.putObj 0 (.loop (rec .busy none)) rfl
        have hsA := hsl.subB 0 32 (by omega) (by omega)
        have hsB := hsl.subB 32 64 (by omega) (by omega)
        have hsC := hsl.subB 64 (sig.drop (64 * i)).length (by omega) (by omega)
        have hlA : ((sig.drop (64 * i)).take 32).length = 32 := by simp; omega
        have hA : ((sig.drop (64 * i)).drop 0).take (32 - 0) = (sig.drop (64 * i)).take 32 := rfl
        have hB : ((sig.drop (64 * i)).drop 32).take (64 - 32) = opAway sig i := by rw [List.drop_drop]; rfl
        have hC : ((sig.drop (64 * i)).drop 64).take ((sig.drop (64 * i)).length - 64) = sig.drop (64 * (i + 1)) := by
          rw [List.drop_drop, List.take_of_length_le (by simp; omega)]
          congr 1
        have hlC : (sig.drop (64 * (i + 1))).length = (sig.drop (64 * i)).length - 64 := by simp; omega
        rw [hA] at hsA
        rw [hB] at hsB
        rw [hC] at hsC
        rw [← hlC] at hsC
        have hlB := length_away hlen hi
        have hlO := length_openedK (d := sum b) hlen (k := i) (by omega)
        rw [show (32 - 0 : Nat) = ((sig.drop (64 * i)).take 32).length by omega] at hsA
        rw [show (64 - 32 : Nat) = (opAway sig i).length by omega] at hsB
        refine wi_block ?_
        refine wi_seq ?_
        refine wi_draw TF.mixed (by kernel_rfl) (fun _ _ h => h) ?_
        have st := st.pure (touch_drew _)
        refine fl_ld 0 rfl (v_load rfl (by first | exact st.reads (v := .slice a (sig.drop (64 * i)).length cap) 4 rfl TF.t41 rfl | exact st.reads (v := .slice a (sig.drop (64 * i)).length cap) 5 rfl TF.t41 rfl)) (by kernel_rfl) ?_
        refine fl_val 1 rfl (fun _ => (v_to (v' := .slice (sliceOff a cap 0 1) ((sig.drop (64 * i)).take 32).length (cap - 0)) (v_slice_s (l := 0) (h := 32) Try.underlying41 TF.t5 rfl rfl ⟨_, _, rfl, rfl⟩ (by omega) (by omega)) (by rw [hlA]))) rfl (by kernel_rfl) ?_
        refine fl_ld 3 rfl (v_load rfl (by first | exact st.reads (v := .slice a (sig.drop (64 * i)).length cap) 4 rfl TF.t41 rfl | exact st.reads (v := .slice a (sig.drop (64 * i)).length cap) 5 rfl TF.t41 rfl)) (by kernel_rfl) ?_
        refine fl_val 4 rfl (fun _ => (v_to (v' := .slice (sliceOff a cap 32 1) (opAway sig i).length (cap - 32)) (v_slice_s (l := 32) (h := 64) Try.underlying41 TF.t5 rfl ⟨_, _, rfl, rfl⟩ ⟨_, _, rfl, rfl⟩ (by omega) (by omega)) (by rw [hlB]))) rfl (by kernel_rfl) ?_
        refine fl_effs [2, 5] (by kernel_rfl) ⟨obl_ld rfl rfl rfl (v_load rfl (by first | exact st.reads (v := .slice a (sig.drop (64 * i)).length cap) 4 rfl TF.t41 rfl | exact st.reads (v := .slice a (sig.drop (64 * i)).length cap) 5 rfl TF.t41 rfl)), obl_ld rfl rfl rfl (v_load rfl (by first | exact st.reads (v := .slice a (sig.drop (64 * i)).length cap) 4 rfl TF.t41 rfl | exact st.reads (v := .slice a (sig.drop (64 * i)).length cap) 5 rfl TF.t41 rfl)), trivial⟩ (all2 ?_ ?_)
        · refine stepE 2 (pure' := [4]) (lds' := [3, 0]) rfl (by kernel_rfl) (by kernel_rfl) ?_
          refine wl_call rfl (by first | exact c_tagsof st.im hb hbl | exact c_tagsof (b := (sig.drop (64 * i)).take 32) st.im hsA (by rw [hlA]; omega)) rfl ?_
          rintro v16 w ⟨t16, rfl⟩
          have st := st.pure t16
          refine wl_nil ⟨rfl, ?_⟩
          refine fl_eff1 5 [4] [3, 0] (by kernel_rfl) ⟨obl_ld rfl rfl rfl (v_load rfl (by first | exact st.reads (v := .slice a (sig.drop (64 * i)).length cap) 4 rfl TF.t41 rfl | exact st.reads (v := .slice a (sig.drop (64 * i)).length cap) 5 rfl TF.t41 rfl)), obl_ld rfl rfl rfl (v_load rfl (by first | exact st.reads (v := .slice a (sig.drop (64 * i)).length cap) 4 rfl TF.t41 rfl | exact st.reads (v := .slice a (sig.drop (64 * i)).length cap) 5 rfl TF.t41 rfl)), trivial⟩ rfl ?_
          refine wl_alloc TF.z23 st rfl ?_
          intro b9 w st
          refine wl_nil ⟨rfl, ?_⟩
          refine fl_eff1 6 [4] [3] (by kernel_rfl) ⟨obl_ld rfl rfl rfl (v_load rfl (by first | exact st.reads (v := .slice a (sig.drop (64 * i)).length cap) 4 rfl TF.t41 rfl | exact st.reads (v := .slice a (sig.drop (64 * i)).length cap) 5 rfl TF.t41 rfl)), obl_ld rfl rfl rfl (v_load rfl (by first | exact st.reads (v := .slice a (sig.drop (64 * i)).length cap) 4 rfl TF.t41 rfl | exact st.reads (v := .slice a (sig.drop (64 * i)).length cap) 5 rfl TF.t41 rfl)), trivial⟩ rfl ?_
          refine wl_storeW (cs := (bs (opPart sig i)).toArray) 0 st rfl TF.t23 rfl rfl (by simp [length_bs, length_part]) rfl (fun u hu => one_bs _ u (by simpa using hu)) ?_
          intro w st
          refine wl_nil ⟨rfl, ?_⟩
          refine fl_eff1 7 [] [] (by kernel_rfl) ⟨obl_ld rfl rfl rfl (v_load rfl (by first | exact st.reads (v := .slice a (sig.drop (64 * i)).length cap) 4 rfl TF.t41 rfl | exact st.reads (v := .slice a (sig.drop (64 * i)).length cap) 5 rfl TF.t41 rfl)), trivial⟩ rfl ?_
          refine wl_val (v_assign' (by conv => (lhs; whnf))) rfl ?_
          refine wl_nil ⟨rfl, ?_⟩
          refine fl_nil (by kernel_rfl) trivial ?_
          refine then_go ?_
          refine wi_seq ?_
          refine wi_region (by kernel_rfl) (fun _ _ h => h) ?_
          refine wl_val (v_load rfl (st.reads (v := .slice a (sig.drop (64 * i)).length cap) 5 rfl TF.t41 rfl)) rfl ?_
          refine wl_val (v_to (v' := .slice (sliceOff a cap 64 1) (sig.drop (64 * (i + 1))).length (cap - 64)) (v_slice_s (l := 64) (h := (sig.drop (64 * i)).length) Try.underlying41 TF.t5 rfl ⟨_, _, rfl, rfl⟩ rfl (by omega) (by omega)) (by rw [hlC])) rfl ?_
          refine wl_store1 5 st rfl TF.t41 rfl (by conv => (lhs; whnf)) rfl (by first | exact lt_ok rfl | decide | simp) ?_
          intro w st
          refine wl_nil ?_
          refine then_go ?_
          refine wi_seq ?_
          refine wi_seq ?_
          refine wi_region (by kernel_rfl) (fun _ _ h => h) ?_
          refine wl_val (v_move' (by conv => (lhs; whnf))) rfl ?_
          refine wl_nil ?_
          refine then_go ?_
          refine wi_cond rfl (fun h27 => ?_) (fun h27 => ?_)
          · refine wi_seq ?_
            refine wi_draw TF.mixed (by kernel_rfl) (fun _ _ h => h) ?_
            have st := st.pure (touch_drew _)
            refine fl_ld 0 rfl (v_load rfl (st.reads (v := v) 3 rfl TF.t41 rfl)) (by kernel_rfl) ?_
            refine fl_val 1 rfl (fun _ => (v_move' (by conv => (lhs; whnf)))) rfl (by kernel_rfl) ?_
            refine fl_val 3 rfl (fun _ => (v_sla 0 32 Try.underlying23 TF.t5 rfl rfl rfl (by omega) (by omega) (by omega))) rfl (by kernel_rfl) ?_
            refine fl_eff1 2 [3] [] (by kernel_rfl) ⟨obl_ld rfl rfl rfl (v_load rfl (st.reads (v := v) 3 rfl TF.t41 rfl)), trivial⟩ rfl ?_
            refine wl_appBi 4 (l2 := opAway sig i) st rfl Try.underlying41 Try.underlying41 (.inr ⟨_, rfl⟩) TF.t5 TF.z5 rfl rfl (hsB.src st.im (one_bs _)) (by omega) (by omega) rfl ?_
            intro v1 w st hv1
            refine wl_nil ⟨rfl, ?_⟩
            refine fl_eff1 4 [] [] (by kernel_rfl) trivial rfl ?_
            refine wl_appBi 4 (l2 := opPart sig i) st rfl Try.underlying41 Try.underlying41 (.inr ⟨_, rfl⟩) TF.t5 TF.z5 rfl rfl (st.srcArr (off := 0) 0 rfl (by rw [length_bs, length_part]) (fun j u hj => by simpa using hj) (one_bs _)) (by rw [List.length_append, length_part]; omega) (by rw [List.length_append, length_part]; omega) rfl ?_
            intro v1 w st hv1
            refine wl_nil ⟨rfl, ?_⟩
            refine fl_eff1 5 [] [] (by kernel_rfl) trivial rfl ?_
            refine wl_store1 3 st rfl TF.t41 rfl (by conv => (lhs; whnf)) hv1 (by first | exact lt_ok rfl | decide | simp) ?_
            intro w st
            have hO : openedK (sum b) sig i ++ opAway sig i ++ opPart sig i = openedK (sum b) sig (i + 1) := by rw [openedK_succ, opStep, if_pos h27, List.append_assoc]
            rw [hO] at st
            refine wl_nil ⟨rfl, ?_⟩
            refine fl_nil (by kernel_rfl) trivial ?_
            refine then_go ?_
            refine wi_exit (then_exit (block_hit ?_))
            exact ⟨st.at (i := 1) rfl, .inl ⟨rfl, v1, _, _, hsC, (st.putObj 1 _ rfl).drop 0⟩⟩
          · refine wi_skip ?_
            refine then_go ?_
            refine wi_draw TF.mixed (by kernel_rfl) (fun _ _ h => h) ?_
            have st := st.pure (touch_drew _)
            refine fl_ld 0 rfl (v_load rfl (st.reads (v := v) 3 rfl TF.t41 rfl)) (by kernel_rfl) ?_
            refine fl_val 1 rfl (fun _ => (v_sla 0 32 Try.underlying23 TF.t5 rfl rfl rfl (by omega) (by omega) (by omega))) rfl (by kernel_rfl) ?_
            refine fl_val 3 rfl (fun _ => (v_move' (by conv => (lhs; whnf)))) rfl (by kernel_rfl) ?_
            refine fl_eff1 2 [3] [] (by kernel_rfl) ⟨obl_ld rfl rfl rfl (v_load rfl (st.reads (v := v) 3 rfl TF.t41 rfl)), trivial⟩ rfl ?_
            refine wl_appBi 4 (l2 := opPart sig i) st rfl Try.underlying41 Try.underlying41 (.inr ⟨_, rfl⟩) TF.t5 TF.z5 rfl rfl (st.srcArr (off := 0) 0 rfl (by rw [length_bs, length_part]) (fun j u hj => by simpa using hj) (one_bs _)) (by rw [length_part]; omega) (by rw [length_part]; omega) rfl ?_
            intro v1 w st hv1
            refine wl_nil ⟨rfl, ?_⟩
            refine fl_eff1 4 [] [] (by kernel_rfl) trivial rfl ?_
            refine wl_appBi 4 (l2 := opAway sig i) st rfl Try.underlying41 Try.underlying41 (.inr ⟨_, rfl⟩) TF.t5 TF.z5 rfl rfl (hsB.src st.im (one_bs _)) (by rw [List.length_append, length_part]; omega) (by rw [List.length_append, length_part]; omega) rfl ?_
            intro v1 w st hv1
            refine wl_nil ⟨rfl, ?_⟩
            refine fl_eff1 5 [] [] (by kernel_rfl) trivial rfl ?_
            refine wl_store1 3 st rfl TF.t41 rfl (by conv => (lhs; whnf)) hv1 (by first | exact lt_ok rfl | decide | simp) ?_
            intro w st
            have hO : openedK (sum b) sig i ++ opPart sig i ++ opAway sig i = openedK (sum b) sig (i + 1) := by rw [openedK_succ, opStep, if_neg (by rw [h27]; simp), List.append_assoc]
            rw [hO] at st
            refine wl_nil ⟨rfl, ?_⟩
            refine fl_nil (by kernel_rfl) trivial ?_
            refine block_go ?_
            exact ⟨st.at (i := 1) rfl, .inl ⟨rfl, v1, _, _, hsC, (st.putObj 1 _ rfl).drop 0⟩⟩
        · refine stepE 5 (pure' := [4, 1]) (lds' := [3, 0]) rfl (by kernel_rfl) (by kernel_rfl) ?_
          refine wl_alloc TF.z23 st rfl ?_
          intro b9 w st
          refine wl_nil ⟨rfl, ?_⟩
          refine fl_eff1 2 [4] [3, 0] (by kernel_rfl) ⟨obl_ld rfl rfl rfl (v_load rfl (by first | exact st.reads (v := .slice a (sig.drop (64 * i)).length cap) 4 rfl TF.t41 rfl | exact st.reads (v := .slice a (sig.drop (64 * i)).length cap) 5 rfl TF.t41 rfl)), obl_ld rfl rfl rfl (v_load rfl (by first | exact st.reads (v := .slice a (sig.drop (64 * i)).length cap) 4 rfl TF.t41 rfl | exact st.reads (v := .slice a (sig.drop (64 * i)).length cap) 5 rfl TF.t41 rfl)), trivial⟩ rfl ?_
          refine wl_call rfl (by first | exact c_tagsof st.im hb hbl | exact c_tagsof (b := (sig.drop (64 * i)).take 32) st.im hsA (by rw [hlA]; omega)) rfl ?_
          rintro v16 w ⟨t16, rfl⟩
          have st := st.pure t16
          refine wl_nil ⟨rfl, ?_⟩
          refine fl_eff1 6 [4] [3] (by kernel_rfl) ⟨obl_ld rfl rfl rfl (v_load rfl (by first | exact st.reads (v := .slice a (sig.drop (64 * i)).length cap) 4 rfl TF.t41 rfl | exact st.reads (v := .slice a (sig.drop (64 * i)).length cap) 5 rfl TF.t41 rfl)), obl_ld rfl rfl rfl (v_load rfl (by first | exact st.reads (v := .slice a (sig.drop (64 * i)).length cap) 4 rfl TF.t41 rfl | exact st.reads (v := .slice a (sig.drop (64 * i)).length cap) 5 rfl TF.t41 rfl)), trivial⟩ rfl ?_
          refine wl_storeW (cs := (bs (opPart sig i)).toArray) 0 st rfl TF.t23 rfl rfl (by simp [length_bs, length_part]) rfl (fun u hu => one_bs _ u (by simpa using hu)) ?_
          intro w st
          refine wl_nil ⟨rfl, ?_⟩
          refine fl_eff1 7 [] [] (by kernel_rfl) ⟨obl_ld rfl rfl rfl (v_load rfl (by first | exact st.reads (v := .slice a (sig.drop (64 * i)).length cap) 4 rfl TF.t41 rfl | exact st.reads (v := .slice a (sig.drop (64 * i)).length cap) 5 rfl TF.t41 rfl)), trivial⟩ rfl ?_
          refine wl_val (v_assign' (by conv => (lhs; whnf))) rfl ?_
          refine wl_nil ⟨rfl, ?_⟩
          refine fl_nil (by kernel_rfl) trivial ?_
          refine then_go ?_
          refine wi_seq ?_
          refine wi_region (by kernel_rfl) (fun _ _ h => h) ?_
          refine wl_val (v_load rfl (st.reads (v := .slice a (sig.drop (64 * i)).length cap) 5 rfl TF.t41 rfl)) rfl ?_
          refine wl_val (v_to (v' := .slice (sliceOff a cap 64 1) (sig.drop (64 * (i + 1))).length (cap - 64)) (v_slice_s (l := 64) (h := (sig.drop (64 * i)).length) Try.underlying41 TF.t5 rfl ⟨_, _, rfl, rfl⟩ rfl (by omega) (by omega)) (by rw [hlC])) rfl ?_
          refine wl_store1 5 st rfl TF.t41 rfl (by conv => (lhs; whnf)) rfl (by first | exact lt_ok rfl | decide | simp) ?_
          intro w st
          refine wl_nil ?_
          refine then_go ?_
          refine wi_seq ?_
          refine wi_seq ?_
          refine wi_region (by kernel_rfl) (fun _ _ h => h) ?_
          refine wl_val (v_move' (by conv => (lhs; whnf))) rfl ?_
          refine wl_nil ?_
          refine then_go ?_
          refine wi_cond rfl (fun h27 => ?_) (fun h27 => ?_)
          · refine wi_seq ?_
            refine wi_draw TF.mixed (by kernel_rfl) (fun _ _ h => h) ?_
            have st := st.pure (touch_drew _)
            refine fl_ld 0 rfl (v_load rfl (st.reads (v := v) 3 rfl TF.t41 rfl)) (by kernel_rfl) ?_
            refine fl_val 1 rfl (fun _ => (v_move' (by conv => (lhs; whnf)))) rfl (by kernel_rfl) ?_
            refine fl_val 3 rfl (fun _ => (v_sla 0 32 Try.underlying23 TF.t5 rfl rfl rfl (by omega) (by omega) (by omega))) rfl (by kernel_rfl) ?_
            refine fl_eff1 2 [3] [] (by kernel_rfl) ⟨obl_ld rfl rfl rfl (v_load rfl (st.reads (v := v) 3 rfl TF.t41 rfl)), trivial⟩ rfl ?_
            refine wl_appBi 4 (l2 := opAway sig i) st rfl Try.underlying41 Try.underlying41 (.inr ⟨_, rfl⟩) TF.t5 TF.z5 rfl rfl (hsB.src st.im (one_bs _)) (by omega) (by omega) rfl ?_
            intro v1 w st hv1
            refine wl_nil ⟨rfl, ?_⟩
            refine fl_eff1 4 [] [] (by kernel_rfl) trivial rfl ?_
            refine wl_appBi 4 (l2 := opPart sig i) st rfl Try.underlying41 Try.underlying41 (.inr ⟨_, rfl⟩) TF.t5 TF.z5 rfl rfl (st.srcArr (off := 0) 0 rfl (by rw [length_bs, length_part]) (fun j u hj => by simpa using hj) (one_bs _)) (by rw [List.length_append, length_part]; omega) (by rw [List.length_append, length_part]; omega) rfl ?_
            intro v1 w st hv1
            refine wl_nil ⟨rfl, ?_⟩
            refine fl_eff1 5 [] [] (by kernel_rfl) trivial rfl ?_
            refine wl_store1 3 st rfl TF.t41 rfl (by conv => (lhs; whnf)) hv1 (by first | exact lt_ok rfl | decide | simp) ?_
            intro w st
            have hO : openedK (sum b) sig i ++ opAway sig i ++ opPart sig i = openedK (sum b) sig (i + 1) := by rw [openedK_succ, opStep, if_pos h27, List.append_assoc]
            rw [hO] at st
            refine wl_nil ⟨rfl, ?_⟩
            refine fl_nil (by kernel_rfl) trivial ?_
            refine then_go ?_
            refine wi_exit (then_exit (block_hit ?_))
            exact ⟨st.at (i := 1) rfl, .inl ⟨rfl, v1, _, _, hsC, (st.putObj 1 _ rfl).drop 0⟩⟩
          · refine wi_skip ?_
            refine then_go ?_
            refine wi_draw TF.mixed (by kernel_rfl) (fun _ _ h => h) ?_
            have st := st.pure (touch_drew _)
            refine fl_ld 0 rfl (v_load rfl (st.reads (v := v) 3 rfl TF.t41 rfl)) (by kernel_rfl) ?_
            refine fl_val 1 rfl (fun _ => (v_sla 0 32 Try.underlying23 TF.t5 rfl rfl rfl (by omega) (by omega) (by omega))) rfl (by kernel_rfl) ?_
            refine fl_val 3 rfl (fun _ => (v_move' (by conv => (lhs; whnf)))) rfl (by kernel_rfl) ?_
            refine fl_eff1 2 [3] [] (by kernel_rfl) ⟨obl_ld rfl rfl rfl (v_load rfl (st.reads (v := v) 3 rfl TF.t41 rfl)), trivial⟩ rfl ?_
            refine wl_appBi 4 (l2 := opPart sig i) st rfl Try.underlying41 Try.underlying41 (.inr ⟨_, rfl⟩) TF.t5 TF.z5 rfl rfl (st.srcArr (off := 0) 0 rfl (by rw [length_bs, length_part]) (fun j u hj => by simpa using hj) (one_bs _)) (by rw [length_part]; omega) (by rw [length_part]; omega) rfl ?_
            intro v1 w st hv1
            refine wl_nil ⟨rfl, ?_⟩
            refine fl_eff1 4 [] [] (by kernel_rfl) trivial rfl ?_
            refine wl_appBi 4 (l2 := opAway sig i) st rfl Try.underlying41 Try.underlying41 (.inr ⟨_, rfl⟩) TF.t5 TF.z5 rfl rfl (hsB.src st.im (one_bs _)) (by rw [List.length_append, length_part]; omega) (by rw [List.length_append, length_part]; omega) rfl ?_
            intro v1 w st hv1
            refine wl_nil ⟨rfl, ?_⟩
            refine fl_eff1 5 [] [] (by kernel_rfl) trivial rfl ?_
            refine wl_store1 3 st rfl TF.t41 rfl (by conv => (lhs; whnf)) hv1 (by first | exact lt_ok rfl | decide | simp) ?_
            intro w st
            have hO : openedK (sum b) sig i ++ opPart sig i ++ opAway sig i = openedK (sum b) sig (i + 1) := by rw [openedK_succ, opStep, if_neg (by rw [h27]; simp), List.append_assoc]
            rw [hO] at st
            refine wl_nil ⟨rfl, ?_⟩
            refine fl_nil (by kernel_rfl) trivial ?_
            refine block_go ?_
            exact ⟨st.at (i := 1) rfl, .inl ⟨rfl, v1, _, _, hsC, (st.putObj 1 _ rfl).drop 0⟩⟩
      rintro e W ⟨v, rfl, ⟨v1, a, cap, hsl, st⟩ | ⟨i, hi, hF⟩⟩
      · have st2 := st.putObj 0 (.loop (rec .exhausted none)) rfl
        exact ⟨v, rfl, .ready, none, by simp, st.at (i := 0) rfl, D, l, _, m1, v1, _, rfl, rfl, st2⟩
      · exact hF.elim
    · rintro ds r w ⟨D, l, o, m', v, x, rfl, g6, st⟩
      refine wx_of_wc (wc_o 6 g6 ?_)
      refine wc_seq ?_
      refine wc_region ?_
      refine wl_val (v_load rfl (st.reads (v := v) 2 rfl TF.t41 rfl)) rfl ?_
      refine wl_val (v_assign' (by conv => (lhs; whnf))) rfl ?_
      refine wl_val (v_assign' (by conv => (lhs; whnf))) rfl ?_
      refine wl_nil ?_
      refine then_go ?_
      refine wc_ret ?_
      have hD := st.at (i := 1) rfl
      have st := st.putObj 1 (.deferred none) rfl
      obtain ⟨m2, hg2, hq2, st⟩ := st.keepB (i := 3) rfl
      exact retX1 hD (ret2 rfl rfl ((st.keepOnly (l := []) (List.nil_sublist _)).out ⟨_, _, rfl, .inl ⟨hlen, rfl, hq2⟩⟩))
end
end Go.Proofs.Ytjjpakjgppmmdaa

/-
  Signatures that are used once: the reference's Opened; both Checks.
-/
namespace Go.Proofs.Ytjjpakjgppmmdaa
open Go Go.RowKit K SH PT

section
variable {m : Mem} {wI : World}

theorem c_ropened {bv sv : Value} {b sig : By} (him : Im m wI) (hb : SlM m bv 1 b.length (bs b)) (hbl : b.length ≤ 1099511627776) (hs : SlM m sv 1 sig.length (bs sig)) :
    Ret Try.prog 92 #[bv, sv] wI fun v' w' => Out m wI w' fun m' => ∃ v e, v' = .tuple #[v, .int .i64 e] ∧ ((sig.length = 16384 ∧ e = 0 ∧ SlM m' v 1 (openedK (sum b) sig 256).length (bs (openedK (sum b) sig 256))) ∨ (sig.length ≠ 16384 ∧ e = 15 ∧ v = .slice none 0 0)) := by
  have st := St.start him
  have hs0 := hs
  obtain ⟨_, sa, sc, rfl, hsk, _⟩ := hs
  refine ret_of Try.call92 Try.func92 rfl Try.ntmps92 Try.results92 rfl ?_
  refine wc_seq ?_
  refine wc_region ?_
  refine wl_val (v_assign' (by conv => (lhs; whnf))) rfl ?_
  refine wl_val (v_assign' (by conv => (lhs; whnf))) rfl ?_
  refine wl_nil ?_
  refine then_go ?_
  refine wc_seq ?_
  refine wc_seq ?_
  refine wc_region ?_
  refine wl_val (v_move' (by conv => (lhs; whnf))) rfl ?_
  refine wl_val (v_len_s Try.underlying41 rfl) rfl ?_
  refine wl_val (v_neq rfl rfl) rfl ?_
  refine wl_nil ?_
  refine then_go ?_
  refine wc_if rfl (fun h13 => ?_) (fun h13 => ?_)
  · refine wc_seq ?_
    refine wc_region ?_
    refine wl_val (v_assign' (by conv => (lhs; whnf))) rfl ?_
    refine wl_val (v_assign' (by conv => (lhs; whnf))) rfl ?_
    refine wl_nil ?_
    refine then_go ?_
    refine wc_ret (then_ret ?_)
    exact ret2 rfl rfl (st.out ⟨_, _, rfl, .inr ⟨by omega, rfl, rfl⟩⟩)
  · refine wc_skip ?_
    refine then_go ?_
    refine wc_seq ?_
    refine wc_region ?_
    refine wl_val (v_move' (by conv => (lhs; whnf))) rfl ?_
    have hlen : sig.length = 16384 := by omega
    refine wl_call rfl (c_ref3of st.im hb hbl) rfl ?_
    rintro v15 w ⟨t15, rfl⟩
    have st := st.pure t15
    refine wl_alloc TF.z23 st rfl ?_
    intro b6 w st
    refine wl_storeW (cs := (bs (sum b)).toArray) 0 st rfl TF.t23 rfl rfl (by simp [length_bs, length_sum]) rfl (fun u hu => one_bs _ u (by simpa using hu)) ?_
    intro w st
    refine wl_nil ?_
    refine then_go ?_
    refine wc_seq ?_
    refine wc_region ?_
    refine wl_make (l := 1) (c := 16385) Try.underlying41 TF.t5 TF.z5 rfl rfl rfl rfl (by omega) (by omega) (by omega) (by omega) st rfl ?_
    intro b7 w st
    have e7 : madeCells (Value.int .u8 0).cells (16385 * 1) = (u8 0 :: List.replicate 16384 (u8 0)).toArray := by
      rw [show (Value.int .u8 0).cells = Array.replicate (0 + 1) (Value.int .u8 0) from rfl, madeCells_rep, show 16385 * 1 = 16384 + 1 from rfl, List.replicate_succ]
      rfl
    rw [e7] at st
    obtain ⟨R, hRl, hR⟩ : ∃ R : List Value, R.length = 16384 ∧ R = List.replicate 16384 (u8 0) := ⟨_, List.length_replicate, rfl⟩
    rw [← hR] at st
    clear hR e7
    refine wl_val (v_assign' (by conv => (lhs; whnf))) rfl ?_
    refine wl_nil ?_
    refine then_go ?_
    refine wc_seq ?_
    refine wc_region ?_
    refine wl_val (v_move' (by conv => (lhs; whnf))) rfl ?_
    refine wl_val (v_ias 0 Try.underlying41 TF.t5 rfl rfl (by first | rfl | omega) (by first | omega | (dsimp only at *; omega))) rfl ?_
    refine wl_store1 (off := 0 + 0 * 1) 0 st rfl TF.t5 rfl (by conv => (lhs; whnf)) rfl (by simp) ?_
    intro w st
    have e8 : (u8 0 :: R).toArray.setIfInBounds (0 + 0 * 1) (Value.int .u8 80) = (u8 80 :: R).toArray := by simp; rfl
    rw [e8] at st
    have st := st.rowShut 0 (b := b7) (k := 1) (cap := 16385) (size := 1) (xs := bs (openedK (sum b) sig 0)) rfl (by omega) (by simp [hRl]) (by omega) (by simp [openedK, bs])
    change St _ _ _ _ _ [rowE _ _ _ _ _, _] at st
    refine wl_nil ?_
    refine then_go ?_
    refine wc_seq ?_
    refine wc_seq ?_
    refine wc_region ?_
    refine wl_val (v_assign' (by conv => (lhs; whnf))) rfl ?_
    refine wl_nil ?_
    refine then_go ?_
    refine wc_block ?_
    refine wc_loop (S := Nat) (fun q r w' => ∃ (i : Nat) (v : Value), q + i = 256 ∧ r 1 = .slice sa sig.length sc ∧ r 6 = .pointer (some ⟨b6, 0, none⟩) ∧ r 7 = v ∧ r 8 = .int .i64 i ∧ St m m [] wI w' [rowE v 5 1 (openedK (sum b) sig i).length (bs (openedK (sum b) sig i)), K.blk b6 (bs (sum b)).toArray 23]) id 256 ⟨0, _, rfl, rfl, rfl, rfl, rfl, st⟩ ?_
    rintro q r w2 ⟨i, v, hqi, g1, g6, g7, g8, st⟩
    refine wc_o 1 g1 (wc_o 6 g6 (wc_o 7 g7 (wc_o 8 g8 ?_)))
    refine wc_seq ?_
    refine wc_seq ?_
    refine wc_region ?_
    refine wl_val (v_move' (by conv => (lhs; whnf))) rfl ?_
    refine wl_val (v_lss rfl rfl) rfl ?_
    refine wl_nil ?_
    refine then_go ?_
    refine wc_if rfl (fun h20 => ?_) (fun h20 => ?_)
    · refine wc_skip ?_
      refine then_go ?_
      refine wc_seq ?_
      refine wc_block ?_
      refine wc_seq ?_
      have hi : i < 256 := by omega
      have hsA := hs0.subB (64 * i) (64 * i + 32) (by omega) (by omega)
      have hsB := hs0.subB (64 * i + 32) (64 * i + 64) (by omega) (by omega)
      have hlA : ((sig.drop (64 * i)).take 32).length = 32 := by simp; omega
      have hlB := length_away hlen hi
      have hlO := length_openedK (d := sum b) hlen (k := i) (by omega)
      rw [show 64 * i + 32 - 64 * i = 32 by omega] at hsA
      rw [show 64 * i + 64 - (64 * i + 32) = 32 by omega] at hsB
      have hsA : SlM m (.slice (sliceOff sa sc (64 * i) 1) ((sig.drop (64 * i)).take 32).length (sc - 64 * i)) 1 ((sig.drop (64 * i)).take 32).length (bs ((sig.drop (64 * i)).take 32)) := by rw [hlA]; exact hsA
      have hsB : SlM m (.slice (sliceOff sa sc (64 * i + 32) 1) (opAway sig i).length (sc - (64 * i + 32))) 1 (opAway sig i).length (bs (opAway sig i)) := by rw [hlB]; exact hsB
      refine wc_region ?_
      refine wl_val (v_move' (by conv => (lhs; whnf))) rfl ?_
      refine wl_val (v_move' (by conv => (lhs; whnf))) rfl ?_
      refine wl_val (v_mul' (c := ((64 * i : Nat) : Int)) rfl rfl (by omega) (by omega) (by omega)) rfl ?_
      refine wl_val (v_move' (by conv => (lhs; whnf))) rfl ?_
      refine wl_val (v_mul' (c := ((64 * i : Nat) : Int)) rfl rfl (by omega) (by omega) (by omega)) rfl ?_
      refine wl_val (v_add' (c := ((64 * i + 32 : Nat) : Int)) rfl rfl (by omega) (by omega) (by omega)) rfl ?_
      refine wl_val (v_to (v' := .slice (sliceOff sa sc (64 * i) 1) ((sig.drop (64 * i)).take 32).length (sc - 64 * i)) (v_slice_s (l := 64 * i) (h := 64 * i + 32) Try.underlying41 TF.t5 rfl ⟨_, _, rfl, rfl⟩ ⟨_, _, rfl, rfl⟩ (by omega) (by omega)) (by rw [hlA, show 64 * i + 32 - 64 * i = 32 by omega])) rfl ?_
      refine wl_call rfl (c_ref3of (b := (sig.drop (64 * i)).take 32) st.im hsA (by rw [hlA]; omega)) rfl ?_
      rintro v30 w ⟨t30, rfl⟩
      have st := st.pure t30
      refine wl_alloc TF.z23 st rfl ?_
      intro b9 w st
      refine wl_storeW (cs := (bs (opPart sig i)).toArray) 0 st rfl TF.t23 rfl rfl (by simp [length_bs, length_part]) rfl (fun u hu => one_bs _ u (by simpa using hu)) ?_
      intro w st
      refine wl_nil ?_
      refine then_go ?_
      refine wc_seq ?_
      refine wc_region ?_
      refine wl_val (v_move' (by conv => (lhs; whnf))) rfl ?_
      refine wl_val (v_move' (by conv => (lhs; whnf))) rfl ?_
      refine wl_val (v_mul' (c := ((64 * i : Nat) : Int)) rfl rfl (by omega) (by omega) (by omega)) rfl ?_
      refine wl_val (v_add' (c := ((64 * i + 32 : Nat) : Int)) rfl rfl (by omega) (by omega) (by omega)) rfl ?_
      refine wl_val (v_move' (by conv => (lhs; whnf))) rfl ?_
      refine wl_val (v_mul' (c := ((64 * i : Nat) : Int)) rfl rfl (by omega) (by omega) (by omega)) rfl ?_
      refine wl_val (v_add' (c := ((64 * i + 64 : Nat) : Int)) rfl rfl (by omega) (by omega) (by omega)) rfl ?_
      refine wl_val (v_to (v' := .slice (sliceOff sa sc (64 * i + 32) 1) (opAway sig i).length (sc - (64 * i + 32))) (v_slice_s (l := 64 * i + 32) (h := 64 * i + 64) Try.underlying41 TF.t5 rfl ⟨_, _, rfl, rfl⟩ ⟨_, _, rfl, rfl⟩ (by omega) (by omega)) (by rw [hlB, show 64 * i + 64 - (64 * i + 32) = 32 by omega])) rfl ?_
      refine wl_val (v_assign' (by conv => (lhs; whnf))) rfl ?_
      refine wl_nil ?_
      refine then_go ?_
      refine wc_seq ?_
      refine wc_region ?_
      refine wl_val (v_load rfl (st.reads (v := arr (sum b)) 2 rfl TF.t23 (getV_all (by simp [length_bs, length_sum])))) rfl ?_
      refine wl_val (v_move' (by conv => (lhs; whnf))) rfl ?_
      refine wl_call rfl (c_rbit st.im (length_sum b)) rfl ?_
      rintro v41 w ⟨t41, rfl⟩
      have st := st.pure t41
      rw [show bitI (sum b) i = bit (sum b) i by unfold bitI; rw [if_pos (by omega)]; simp]
      refine wl_nil ?_
      refine then_go ?_
      refine wc_cond rfl (fun h41 => ?_) (fun h41 => ?_)
      · refine wc_seq ?_
        refine wc_region ?_
        refine wl_val (v_move' (by conv => (lhs; whnf))) rfl ?_
        refine wl_val (v_move' (by conv => (lhs; whnf))) rfl ?_
        refine wl_appBi 1 (l2 := opAway sig i) st rfl Try.underlying41 Try.underlying41 (.inr ⟨_, rfl⟩) TF.t5 TF.z5 rfl rfl (hsB.src st.im (one_bs _)) (by omega) (by omega) rfl ?_
        intro v1 w st hv1
        refine wl_val (v_assign' (by conv => (lhs; whnf))) rfl ?_
        refine wl_nil ?_
        refine then_go ?_
        refine wc_region ?_
        refine wl_val (v_move' (by conv => (lhs; whnf))) rfl ?_
        refine wl_val (v_sla 0 32 Try.underlying23 TF.t5 rfl rfl rfl (by omega) (by omega) (by omega)) rfl ?_
        refine wl_appBi 1 (l2 := opPart sig i) st rfl Try.underlying41 Try.underlying41 (.inr ⟨_, rfl⟩) TF.t5 TF.z5 rfl rfl (st.srcArr (off := 0) 0 rfl (by rw [length_bs, length_part]) (fun j u hj => by simpa using hj) (one_bs _)) (by rw [List.length_append, length_part]; omega) (by rw [List.length_append, length_part]; omega) rfl ?_
        intro v1 w st hv1
        have hO : openedK (sum b) sig i ++ opAway sig i ++ opPart sig i = openedK (sum b) sig (i + 1) := by rw [openedK_succ, opStep, if_pos h41, List.append_assoc]
        rw [hO] at st
        refine wl_val (v_assign' (by conv => (lhs; whnf))) rfl ?_
        refine wl_nil ?_
        refine block_go (then_go ?_)
        refine wc_region ?_
        refine wl_val (v_move' (by conv => (lhs; whnf))) rfl ?_
        refine wl_val (v_add' rfl rfl rfl (by first | omega | (dsimp only at *; omega)) (by first | omega | (dsimp only at *; omega))) rfl ?_
        refine wl_val (v_assign' (by conv => (lhs; whnf))) rfl ?_
        refine wl_nil ?_
        refine then_go ?_
        exact ⟨q - 1, by simp; omega, i + 1, v1, by omega, rfl, rfl, rfl, rfl, st.drop 0⟩
      · refine wc_seq ?_
        refine wc_region ?_
        refine wl_val (v_move' (by conv => (lhs; whnf))) rfl ?_
        refine wl_val (v_sla 0 32 Try.underlying23 TF.t5 rfl rfl rfl (by omega) (by omega) (by omega)) rfl ?_
        refine wl_appBi 1 (l2 := opPart sig i) st rfl Try.underlying41 Try.underlying41 (.inr ⟨_, rfl⟩) TF.t5 TF.z5 rfl rfl (st.srcArr (off := 0) 0 rfl (by rw [length_bs, length_part]) (fun j u hj => by simpa using hj) (one_bs _)) (by rw [length_part]; omega) (by rw [length_part]; omega) rfl ?_
        intro v1 w st hv1
        refine wl_val (v_assign' (by conv => (lhs; whnf))) rfl ?_
        refine wl_nil ?_
        refine then_go ?_
        refine wc_region ?_
        refine wl_val (v_move' (by conv => (lhs; whnf))) rfl ?_
        refine wl_val (v_move' (by conv => (lhs; whnf))) rfl ?_
        refine wl_appBi 1 (l2 := opAway sig i) st rfl Try.underlying41 Try.underlying41 (.inr ⟨_, rfl⟩) TF.t5 TF.z5 rfl rfl (hsB.src st.im (one_bs _)) (by rw [List.length_append, length_part]; omega) (by rw [List.length_append, length_part]; omega) rfl ?_
        intro v1 w st hv1
        have hO : openedK (sum b) sig i ++ opPart sig i ++ opAway sig i = openedK (sum b) sig (i + 1) := by rw [openedK_succ, opStep, if_neg (by rw [h41]; simp), List.append_assoc]
        rw [hO] at st
        refine wl_val (v_assign' (by conv => (lhs; whnf))) rfl ?_
        refine wl_nil ?_
        refine block_go (then_go ?_)
        refine wc_region ?_
        refine wl_val (v_move' (by conv => (lhs; whnf))) rfl ?_
        refine wl_val (v_add' rfl rfl rfl (by first | omega | (dsimp only at *; omega)) (by first | omega | (dsimp only at *; omega))) rfl ?_
        refine wl_val (v_assign' (by conv => (lhs; whnf))) rfl ?_
        refine wl_nil ?_
        refine then_go ?_
        exact ⟨q - 1, by simp; omega, i + 1, v1, by omega, rfl, rfl, rfl, rfl, st.drop 0⟩
    · refine wc_exit (then_exit (then_exit (block_hit ?_)))
      refine then_go ?_
      refine wc_seq ?_
      refine wc_region ?_
      refine wl_val (v_move' (by conv => (lhs; whnf))) rfl ?_
      refine wl_val (v_assign' (by conv => (lhs; whnf))) rfl ?_
      refine wl_val (v_assign' (by conv => (lhs; whnf))) rfl ?_
      refine wl_nil ?_
      refine then_go ?_
      refine wc_ret ?_
      have hi : i = 256 := by omega
      subst hi
      obtain ⟨m2, hg2, hq2, st⟩ := st.keepB (i := 0) rfl
      exact ret2 rfl rfl ((st.keepOnly (l := []) (List.nil_sublist _)).out ⟨_, _, rfl, .inl ⟨hlen, rfl, hq2⟩⟩)

/-- Whether a signature of bytes is by a public key. -/
def lamOk (pub b sig : By) : Prop := sig.length = 16384 ∧ sum (openedK (sum b) sig 256) = pub
instance {pub b sig : By} : Decidable (lamOk pub b sig) := by unfold lamOk; infer_instance

theorem length_openedF {d sig : By} (h : sig.length = 16384) : (openedK d sig 256).length = 16385 := length_openedK h (by omega)

theorem c_lcheck {bv sv : Value} {pub b sig : By} (him : Im m wI) (hp : pub.length = 32) (hb : SlM m bv 1 b.length (bs b)) (hbl : b.length ≤ 1099511627776) (hs : SlM m sv 1 sig.length (bs sig)) :
    Ret Try.prog 69 #[arr pub, bv, sv] wI fun v' w' => Out m wI w' fun _ => v' = .int .i64 (if lamOk pub b sig then 0 else 15) := by
  have st := St.start him
  refine ret_of Try.call69 Try.func69 rfl Try.ntmps69 Try.results69 rfl ?_
  refine wc_seq ?_
  refine wc_region ?_
  refine wl_box (v := arr pub) rfl st rfl ?_
  intro b3 w st
  refine wl_val (v_assign' (by conv => (lhs; whnf))) rfl ?_
  refine wl_nil ?_
  refine then_go ?_
  refine wc_seq ?_
  refine wc_region ?_
  refine wl_val (v_move' (by conv => (lhs; whnf))) rfl ?_
  refine wl_val (v_move' (by conv => (lhs; whnf))) rfl ?_
  refine wl_call rfl (c_opened st.im hb hbl hs) rfl ?_
  rintro v12 w ⟨t12, m1, hg1, hi1, v, e, rfl, hve⟩
  have st := st.grown hg1 t12 hi1
  refine wl_val (v_move' (by conv => (lhs; whnf))) rfl ?_
  refine wl_val (v_extract rfl rfl) rfl ?_
  refine wl_val (v_extract rfl rfl) rfl ?_
  refine wl_val (v_assign' (by conv => (lhs; whnf))) rfl ?_
  refine wl_val (v_assign' (by conv => (lhs; whnf))) rfl ?_
  refine wl_nil ?_
  refine then_go ?_
  refine wc_seq ?_
  refine wc_seq ?_
  rcases hve with ⟨hlen, rfl, hv⟩ | ⟨hlen, rfl, rfl⟩
  · refine wc_draw TF.mixed ?_
    have st := st.pure (touch_drew _)
    refine fl_val 0 rfl (fun _ => (v_move' (by conv => (lhs; whnf)))) rfl (by kernel_rfl) ?_
    refine fl_val 1 rfl (fun _ => (v_eql rfl rfl)) rfl (by kernel_rfl) ?_
    refine fl_val 2 rfl (fun _ => (v_move' (by conv => (lhs; whnf)))) rfl (by kernel_rfl) ?_
    refine fl_on 3 rfl rfl rfl rfl (fun _ => (v_move' (by conv => (lhs; whnf)))) rfl (by kernel_rfl) ?_
    refine fl_ond 5 rfl rfl rfl rfl (v_load rfl (st.reads (v := arr pub) 0 rfl TF.t23 (getV_all (by rw [size_arr, hp])))) rfl (by kernel_rfl) ?_
    refine fl_eff1 4 [1, 0] [5] (by kernel_rfl) ⟨obl_on rfl rfl rfl rfl rfl (v_load rfl (st.reads (v := arr pub) 0 rfl TF.t23 (getV_all (by rw [size_arr, hp])))), trivial⟩ rfl ?_
    refine wl_on rfl rfl ?_
    refine wl_call rfl (c_tagsof st.im hv (by rw [length_openedF hlen]; omega)) rfl ?_
    rintro v19 w ⟨t19, rfl⟩
    have st := st.pure t19
    refine wl_nil ⟨rfl, ?_⟩
    refine fl_on 6 rfl rfl rfl rfl (fun _ => (v_neD rfl rfl (length_sum _) hp)) rfl (by kernel_rfl) ?_
    refine fl_val 7 rfl (fun _ => (v_pick rfl)) rfl (by kernel_rfl) ?_
    refine fl_nil (by kernel_rfl) ⟨obl_on rfl rfl rfl rfl rfl (v_load rfl (st.reads (v := arr pub) 0 rfl TF.t23 (getV_all (by rw [size_arr, hp])))), trivial⟩ ?_
    refine then_go ?_
    refine wc_if rfl (fun h22 => ?_) (fun h22 => ?_)
    · refine wc_seq ?_
      refine wc_region ?_
      refine wl_val (v_assign' (by conv => (lhs; whnf))) rfl ?_
      refine wl_nil ?_
      refine then_go ?_
      refine wc_ret (then_ret ?_)
      exact ret1 rfl ((st.keepOnly (l := []) (List.nil_sublist _)).out (by rw [if_neg (fun hc => h22 hc.2)]; rfl))
    · refine wc_skip ?_
      refine then_go ?_
      refine wc_seq ?_
      refine wc_region ?_
      refine wl_val (v_move' (by conv => (lhs; whnf))) rfl ?_
      refine wl_val (v_assign' (by conv => (lhs; whnf))) rfl ?_
      refine wl_nil ?_
      refine then_go ?_
      refine wc_ret ?_
      exact ret1 rfl ((st.keepOnly (l := []) (List.nil_sublist _)).out (by rw [if_pos ⟨hlen, Decidable.not_not.1 h22⟩]; rfl))
  · refine wc_draw TF.mixed ?_
    have st := st.pure (touch_drew _)
    refine fl_val 0 rfl (fun _ => (v_move' (by conv => (lhs; whnf)))) rfl (by kernel_rfl) ?_
    refine fl_val 1 rfl (fun _ => (v_eql rfl rfl)) rfl (by kernel_rfl) ?_
    refine fl_val 2 rfl (fun _ => (v_move' (by conv => (lhs; whnf)))) rfl (by kernel_rfl) ?_
    refine fl_off 3 rfl rfl rfl rfl rfl rfl (by kernel_rfl) ?_
    refine fl_offd 5 rfl rfl rfl rfl rfl rfl (by kernel_rfl) ?_
    refine fl_eff1 4 [1, 0] [5] (by kernel_rfl) ⟨obl_off rfl rfl rfl rfl rfl rfl, trivial⟩ rfl ?_
    refine wl_off rfl rfl rfl rfl ?_
    refine wl_nil ⟨rfl, ?_⟩
    refine fl_off 6 rfl rfl rfl rfl rfl rfl (by kernel_rfl) ?_
    refine fl_val 7 rfl (fun _ => (v_pick rfl)) rfl (by kernel_rfl) ?_
    refine fl_nil (by kernel_rfl) ⟨obl_off rfl rfl rfl rfl rfl rfl, trivial⟩ ?_
    refine then_go ?_
    refine wc_false rfl ?_
    refine wc_skip ?_
    refine then_go ?_
    refine wc_seq ?_
    refine wc_region ?_
    refine wl_val (v_move' (by conv => (lhs; whnf))) rfl ?_
    refine wl_val (v_assign' (by conv => (lhs; whnf))) rfl ?_
    refine wl_nil ?_
    refine then_go ?_
    refine wc_ret ?_
    exact ret1 rfl ((st.keepOnly (l := []) (List.nil_sublist _)).out (by rw [if_neg (fun hc => hlen hc.1)]; rfl))

theorem c_rlcheck {bv sv : Value} {pub b sig : By} (him : Im m wI) (hp : pub.length = 32) (hb : SlM m bv 1 b.length (bs b)) (hbl : b.length ≤ 1099511627776) (hs : SlM m sv 1 sig.length (bs sig)) :
    Ret Try.prog 71 #[arr pub, bv, sv] wI fun v' w' => Out m wI w' fun _ => v' = .int .i64 (if lamOk pub b sig then 0 else 15) := by
  have st := St.start him
  refine ret_of Try.call71 Try.func71 rfl Try.ntmps71 Try.results71 rfl ?_
  refine wc_seq ?_
  refine wc_region ?_
  refine wl_box (v := arr pub) rfl st rfl ?_
  intro b3 w st
  refine wl_val (v_assign' (by conv => (lhs; whnf))) rfl ?_
  refine wl_nil ?_
  refine then_go ?_
  refine wc_seq ?_
  refine wc_region ?_
  refine wl_val (v_move' (by conv => (lhs; whnf))) rfl ?_
  refine wl_val (v_move' (by conv => (lhs; whnf))) rfl ?_
  refine wl_call rfl (c_ropened st.im hb hbl hs) rfl ?_
  rintro v12 w ⟨t12, m1, hg1, hi1, v, e, rfl, hve⟩
  have st := st.grown hg1 t12 hi1
  refine wl_val (v_move' (by conv => (lhs; whnf))) rfl ?_
  refine wl_val (v_extract rfl rfl) rfl ?_
  refine wl_val (v_extract rfl rfl) rfl ?_
  refine wl_val (v_assign' (by conv => (lhs; whnf))) rfl ?_
  refine wl_val (v_assign' (by conv => (lhs; whnf))) rfl ?_
  refine wl_nil ?_
  refine then_go ?_
  refine wc_seq ?_
  refine wc_seq ?_
  rcases hve with ⟨hlen, rfl, hv⟩ | ⟨hlen, rfl, rfl⟩
  · refine wc_draw TF.mixed ?_
    have st := st.pure (touch_drew _)
    refine fl_val 0 rfl (fun _ => (v_move' (by conv => (lhs; whnf)))) rfl (by kernel_rfl) ?_
    refine fl_val 1 rfl (fun _ => (v_neq rfl rfl)) rfl (by kernel_rfl) ?_
    refine fl_val 2 rfl (fun _ => (v_move' (by conv => (lhs; whnf)))) rfl (by kernel_rfl) ?_
    refine fl_on 3 rfl rfl rfl rfl (fun _ => (v_move' (by conv => (lhs; whnf)))) rfl (by kernel_rfl) ?_
    refine fl_ond 5 rfl rfl rfl rfl (v_load rfl (st.reads (v := arr pub) 0 rfl TF.t23 (getV_all (by rw [size_arr, hp])))) rfl (by kernel_rfl) ?_
    refine fl_eff1 4 [1, 0] [5] (by kernel_rfl) ⟨obl_on rfl rfl rfl rfl rfl (v_load rfl (st.reads (v := arr pub) 0 rfl TF.t23 (getV_all (by rw [size_arr, hp])))), trivial⟩ rfl ?_
    refine wl_on rfl rfl ?_
    refine wl_call rfl (c_ref3of st.im hv (by rw [length_openedF hlen]; omega)) rfl ?_
    rintro v19 w ⟨t19, rfl⟩
    have st := st.pure t19
    refine wl_nil ⟨rfl, ?_⟩
    refine fl_on 6 rfl rfl rfl rfl (fun _ => (v_neD rfl rfl (length_sum _) hp)) rfl (by kernel_rfl) ?_
    refine fl_val 7 rfl (fun _ => (v_pick rfl)) rfl (by kernel_rfl) ?_
    refine fl_nil (by kernel_rfl) ⟨obl_on rfl rfl rfl rfl rfl (v_load rfl (st.reads (v := arr pub) 0 rfl TF.t23 (getV_all (by rw [size_arr, hp])))), trivial⟩ ?_
    refine then_go ?_
    refine wc_if rfl (fun h22 => ?_) (fun h22 => ?_)
    · refine wc_seq ?_
      refine wc_region ?_
      refine wl_val (v_assign' (by conv => (lhs; whnf))) rfl ?_
      refine wl_nil ?_
      refine then_go ?_
      refine wc_ret (then_ret ?_)
      exact ret1 rfl ((st.keepOnly (l := []) (List.nil_sublist _)).out (by rw [if_neg (fun hc => h22 hc.2)]; rfl))
    · refine wc_skip ?_
      refine then_go ?_
      refine wc_seq ?_
      refine wc_region ?_
      refine wl_val (v_assign' (by conv => (lhs; whnf))) rfl ?_
      refine wl_nil ?_
      refine then_go ?_
      refine wc_ret ?_
      exact ret1 rfl ((st.keepOnly (l := []) (List.nil_sublist _)).out (by rw [if_pos ⟨hlen, Decidable.not_not.1 h22⟩]; rfl))
  · refine wc_draw TF.mixed ?_
    have st := st.pure (touch_drew _)
    refine fl_val 0 rfl (fun _ => (v_move' (by conv => (lhs; whnf)))) rfl (by kernel_rfl) ?_
    refine fl_val 1 rfl (fun _ => (v_neq rfl rfl)) rfl (by kernel_rfl) ?_
    refine fl_val 2 rfl (fun _ => (v_move' (by conv => (lhs; whnf)))) rfl (by kernel_rfl) ?_
    refine fl_off 3 rfl rfl rfl rfl rfl rfl (by kernel_rfl) ?_
    refine fl_offd 5 rfl rfl rfl rfl rfl rfl (by kernel_rfl) ?_
    refine fl_eff1 4 [1, 0] [5] (by kernel_rfl) ⟨obl_off rfl rfl rfl rfl rfl rfl, trivial⟩ rfl ?_
    refine wl_off rfl rfl rfl rfl ?_
    refine wl_nil ⟨rfl, ?_⟩
    refine fl_off 6 rfl rfl rfl rfl rfl rfl (by kernel_rfl) ?_
    refine fl_val 7 rfl (fun _ => (v_pick rfl)) rfl (by kernel_rfl) ?_
    refine fl_nil (by kernel_rfl) ⟨obl_off rfl rfl rfl rfl rfl rfl, trivial⟩ ?_
    refine then_go ?_
    refine wc_true rfl ?_
    refine wc_seq ?_
    refine wc_region ?_
    refine wl_val (v_assign' (by conv => (lhs; whnf))) rfl ?_
    refine wl_nil ?_
    refine then_go ?_
    refine wc_ret (then_ret ?_)
    exact ret1 rfl ((st.keepOnly (l := []) (List.nil_sublist _)).out (by rw [if_neg (fun hc => hlen hc.1)]; rfl))
end
end Go.Proofs.Ytjjpakjgppmmdaa

/-
  Heads and signed roots; both Follows.
-/
namespace Go.Proofs.Ytjjpakjgppmmdaa
open Go Go.RowKit K SH PT

structure Hd where
  epoch : UInt64
  root : By
  key : By
deriving DecidableEq

def Hd.ok (h : Hd) : Prop := h.root.length = 32 ∧ h.key.length = 32
def hdC (h : Hd) : List Value := u64 h.epoch :: (bs h.root ++ bs h.key)
def hdV (h : Hd) : Value := .agg (hdC h).toArray
def hd0 : Hd := ⟨0, z32, z32⟩
theorem hd0_ok : hd0.ok := ⟨rfl, rfl⟩

structure Sg where
  root : Rt
  sig : By

def sgC (t : Rt) (sv : Value) : List Value := rtC t ++ [sv]
def SgM (m : Mem) (v : Value) (s : Sg) : Prop := ∃ sv, v = .agg (sgC s.root sv).toArray ∧ SlM m sv 1 s.sig.length (bs s.sig) ∧ s.root.ok

theorem SgM.mono {m m' : Mem} {v : Value} {s : Sg} (h : SgM m v s) (hm : ∀ k o, m k = some o → m' k = some o) : SgM m' v s := by
  obtain ⟨sv, h1, h2, h3⟩ := h
  exact ⟨sv, h1, h2.mono hm, h3⟩

theorem getV_lst {a b c : List Value} {v : Value} {o : Nat} {l : List Value} (hl : l = a ++ v :: c) (ha : a.length = o) : getV false 1 l.toArray o = some v := by
  subst hl; subst ha
  simp [getV]

section
variable {h : Hd} {t : Rt} {sv : Value}
theorem length_hdC (hh : h.ok) : (hdC h).length = 65 := by simp [hdC, length_bs, hh.1, hh.2]
theorem one_hdC : ∀ u ∈ hdC h, u.oneCell' = true := by
  intro u hu
  simp only [hdC, List.mem_cons, List.mem_append] at hu
  rcases hu with rfl | h | h
  · rfl
  · exact one_bs _ u h
  · exact one_bs _ u h
theorem hd_e : getV false 1 (hdC h).toArray 0 = some (u64 h.epoch) := rfl
theorem hd_r (hh : h.ok) : getV true 32 (hdC h).toArray 1 = some (arr h.root) := getV_seg (a := [u64 h.epoch]) (b := bs h.root) (c := bs h.key) (by simp [hdC]) rfl (by rw [length_bs, hh.1])
theorem hd_k (hh : h.ok) : getV true 32 (hdC h).toArray 33 = some (arr h.key) := getV_seg (a := u64 h.epoch :: bs h.root) (b := bs h.key) (c := []) (by simp [hdC]) (by simp [length_bs, hh.1]) (by rw [length_bs, hh.2])
theorem length_sgC (ht : t.ok) : (sgC t sv).length = 98 := by simp [sgC, length_rtC ht]
theorem sg_rt (ht : t.ok) : getV true 97 (sgC t sv).toArray 0 = some (rtV t) := getV_seg (a := []) (b := rtC t) (c := [sv]) (by simp [sgC]) rfl (length_rtC ht)
theorem sg_e : getV false 1 (sgC t sv).toArray 0 = some (u64 t.epoch) := rfl
theorem sg_p (ht : t.ok) : getV true 32 (sgC t sv).toArray 1 = some (arr t.prev) := getV_seg (a := [u64 t.epoch]) (b := bs t.prev) (c := bs t.tree ++ bs t.next ++ [sv]) (by simp [sgC, rtC]) rfl (by rw [length_bs, ht.1])
theorem sg_t (ht : t.ok) : getV true 32 (sgC t sv).toArray 33 = some (arr t.tree) := getV_seg (a := u64 t.epoch :: bs t.prev) (b := bs t.tree) (c := bs t.next ++ [sv]) (by simp [sgC, rtC]) (by simp [length_bs, ht.1]) (by rw [length_bs, ht.2.1])
theorem sg_n (ht : t.ok) : getV true 32 (sgC t sv).toArray 65 = some (arr t.next) := getV_seg (a := u64 t.epoch :: (bs t.prev ++ bs t.tree)) (b := bs t.next) (c := [sv]) (by simp [sgC, rtC]) (by simp [length_bs, ht.1, ht.2.1]) (by rw [length_bs, ht.2.2])
theorem sg_s (ht : t.ok) : getV false 1 (sgC t sv).toArray 97 = some sv := getV_lst (a := rtC t) (b := []) (c := []) (by simp [sgC]) (length_rtC ht)
end

def followE (h : Hd) (s : Sg) : Int := if (64 : Int) ≤ h.epoch.toNat then 10 else if s.root.epoch ≠ h.epoch + 1 then 10 else if s.root.prev ≠ h.root then 15 else if lamOk h.key (rootB s.root) s.sig then 0 else 15
def followH (h : Hd) (s : Sg) : Hd := if followE h s = 0 then ⟨s.root.epoch, sum (rootB s.root), s.root.next⟩ else hd0

theorem followH_ok {h : Hd} {s : Sg} (hs : s.root.ok) : (followH h s).ok := by
  unfold followH
  split
  · exact ⟨length_sum _, hs.2.2⟩
  · exact hd0_ok

theorem fill_hd {e : UInt64} {r k : By} (hr : r.length = 32) (hk : k.length = 32) : FillR (#[(0, 1), (1, 32), (33, 32)][·]?) (Value.agg ([Value.int .u64 0] ++ List.replicate 32 (Value.int .u8 0) ++ List.replicate 32 (Value.int .u8 0)).toArray).cells [(0, u64 e), (1, arr r), (2, arr k)] (hdC ⟨e, r, k⟩).toArray := by
  refine fill_one [] [u64 0] (bs z32 ++ bs z32) rfl rfl rfl ?_
  refine fill_one [u64 e] (bs z32) (bs z32) rfl rfl (by rw [size_arr, hr]; rfl) ?_
  refine fill_one (u64 e :: bs r) (bs z32) [] (by simp [arr, Value.cells]) (by simp [length_bs, hr, z32]) (by rw [size_arr, hk]; rfl) ?_
  simp [FillR, hdC, arr, Value.cells]

theorem u64_ne {a b : UInt64} : ((a.toNat : Int) = b.toNat) ↔ a = b := by
  constructor
  · intro h; exact UInt64.toNat_inj.mp (by omega)
  · intro h; rw [h]

section
variable {m : Mem} {wI : World}

theorem c_follow {h : Hd} {sgv : Value} {s : Sg} (him : Im m wI) (hh : h.ok) (hs : SgM m sgv s) :
    Ret Try.prog 45 #[hdV h, sgv] wI fun v' w' => Out m wI w' fun _ => v' = .tuple #[hdV (followH h s), .int .i64 (followE h s)] := by
  have st := St.start him
  obtain ⟨sv, rfl, hsv, ht⟩ := hs
  refine ret_of Try.call45 Try.func45 rfl Try.ntmps45 Try.results45 rfl ?_
  refine wc_seq ?_
  refine wc_region ?_
  refine wl_box (v := hdV h) rfl st rfl ?_
  intro b2 w st
  refine wl_box (v := .agg (sgC s.root sv).toArray) rfl st rfl ?_
  intro b3 w st
  refine wl_alloc TF.z26 st rfl ?_
  intro b4 w st
  refine wl_val (v_assign' (by conv => (lhs; whnf))) rfl ?_
  refine wl_nil ?_
  refine then_go ?_
  refine wc_seq ?_
  refine wc_region ?_
  refine wl_val (v_fa TF.f71_0 rfl) rfl ?_
  refine wl_val (v_load rfl (st.reads (v := rtV s.root) 1 rfl TF.t55 (sg_rt ht))) rfl ?_
  refine wl_call rfl (c_rootb st.im ht) rfl ?_
  rintro v9 w ⟨t9, m1, hg1, hi1, hb⟩
  have st := st.grown hg1 t9 hi1
  have hsv := hsv.mono hg1.le
  refine wl_val (v_assign' (by conv => (lhs; whnf))) rfl ?_
  refine wl_nil ?_
  refine then_go ?_
  refine wc_seq ?_
  refine wc_block ?_
  refine wc_seq ?_
  refine wc_region ?_
  refine wl_val (v_fa TF.f26_0 rfl) rfl ?_
  refine wl_val (v_load rfl (st.reads (v := u64 h.epoch) 2 rfl TF.t24 hd_e)) rfl ?_
  refine wl_val (v_geq rfl rfl) rfl ?_
  refine wl_val (v_move' (by conv => (lhs; whnf))) rfl ?_
  by_cases hg3 : (64 : Int) ≤ (h.epoch.toNat : Int)
  · rw [show decide ((64 : Int) ≤ (h.epoch.toNat : Int)) = true from decide_eq_true hg3]
    refine wl_off rfl rfl rfl rfl ?_
    refine wl_off rfl rfl rfl rfl ?_
    refine wl_off rfl rfl rfl rfl ?_
    refine wl_off rfl rfl rfl rfl ?_
    refine wl_off rfl rfl rfl rfl ?_
    refine wl_off rfl rfl rfl rfl ?_
    refine wl_off rfl rfl rfl rfl ?_
    refine wl_val (v_pick rfl) rfl ?_
    refine wl_val (v_assign' (by conv => (lhs; whnf))) rfl ?_
    refine wl_nil ?_
    refine then_go ?_
    refine wc_true rfl ?_
    refine wc_seq ?_
    refine wc_region ?_
    refine wl_val (v_build (c' := (hdC hd0).toArray) [] TF.z26 TF.p26 rfl rfl) rfl ?_
    refine wl_storeW (cs := (hdC hd0).toArray) 0 st rfl TF.t26 rfl rfl rfl rfl (fun u hu => one_hdC u (by simpa using hu)) ?_
    intro w st
    refine wl_val (v_assign' (by conv => (lhs; whnf))) rfl ?_
    refine wl_nil ?_
    refine then_go ?_
    refine wc_ret (block_ret (then_ret ?_))
    have e : followE h s = 10 := by rw [followE, if_pos hg3]
    exact ret2c rfl (st.reads 0 rfl TF.t26 (getV_all rfl)) rfl ((st.keepOnly (l := []) (List.nil_sublist _)).out (by rw [followH, e, if_neg (show ¬ ((10 : Int) = 0) by decide)]; rfl))
  · rw [show decide ((64 : Int) ≤ (h.epoch.toNat : Int)) = false from decide_eq_false hg3]
    refine wl_on rfl rfl ?_
    refine wl_val (v_fa TF.f71_0 rfl) rfl ?_
    refine wl_on rfl rfl ?_
    refine wl_val (v_fa TF.f55_0 rfl) rfl ?_
    refine wl_on rfl rfl ?_
    refine wl_val (v_load rfl (st.reads (v := u64 s.root.epoch) 1 rfl TF.t24 sg_e)) rfl ?_
    refine wl_on rfl rfl ?_
    refine wl_val (v_fa TF.f26_0 rfl) rfl ?_
    refine wl_on rfl rfl ?_
    refine wl_val (v_load rfl (st.reads (v := u64 h.epoch) 2 rfl TF.t24 hd_e)) rfl ?_
    refine wl_on rfl rfl ?_
    refine wl_val (v_add64 (q := 1) rfl rfl) rfl ?_
    refine wl_on rfl rfl ?_
    refine wl_val (v_neq rfl rfl) rfl ?_
    refine wl_val (v_pick rfl) rfl ?_
    refine wl_val (v_assign' (by conv => (lhs; whnf))) rfl ?_
    refine wl_nil ?_
    refine then_go ?_
    refine wc_if rfl (fun h10 => ?_) (fun h10 => ?_)
    · refine wc_seq ?_
      refine wc_region ?_
      refine wl_val (v_build (c' := (hdC hd0).toArray) [] TF.z26 TF.p26 rfl rfl) rfl ?_
      refine wl_storeW (cs := (hdC hd0).toArray) 0 st rfl TF.t26 rfl rfl rfl rfl (fun u hu => one_hdC u (by simpa using hu)) ?_
      intro w st
      refine wl_val (v_assign' (by conv => (lhs; whnf))) rfl ?_
      refine wl_nil ?_
      refine then_go ?_
      refine wc_ret (block_ret (then_ret ?_))
      have e : followE h s = 10 := by rw [followE, if_neg hg3, if_pos (fun hc => h10 (u64_ne.2 hc))]
      exact ret2c rfl (st.reads 0 rfl TF.t26 (getV_all rfl)) rfl ((st.keepOnly (l := []) (List.nil_sublist _)).out (by rw [followH, e, if_neg (show ¬ ((10 : Int) = 0) by decide)]; rfl))
    · refine wc_seq ?_
      refine wc_region ?_
      refine wl_val (v_fa TF.f71_0 rfl) rfl ?_
      refine wl_val (v_fa TF.f55_1 rfl) rfl ?_
      refine wl_val (v_load rfl (st.reads (v := arr s.root.prev) 1 rfl TF.t23 (sg_p ht))) rfl ?_
      refine wl_val (v_fa TF.f26_1 rfl) rfl ?_
      refine wl_val (v_load rfl (st.reads (v := arr h.root) 2 rfl TF.t23 (hd_r hh))) rfl ?_
      refine wl_val (v_neD rfl rfl ht.1 hh.1) rfl ?_
      refine wl_val (v_move' (by conv => (lhs; whnf))) rfl ?_
      by_cases hg6 : ¬ s.root.prev = h.root
      · rw [show decide (¬ s.root.prev = h.root) = true from decide_eq_true hg6]
        refine wl_off rfl rfl rfl rfl ?_
        refine wl_off rfl rfl rfl rfl ?_
        refine wl_off rfl rfl rfl rfl ?_
        refine wl_off rfl rfl rfl rfl ?_
        refine wl_off rfl rfl rfl rfl ?_
        refine wl_off rfl rfl rfl rfl ?_
        refine wl_off rfl rfl rfl rfl ?_
        refine wl_val (v_pick rfl) rfl ?_
        refine wl_val (v_assign' (by conv => (lhs; whnf))) rfl ?_
        refine wl_nil ?_
        refine then_go ?_
        refine wc_true rfl ?_
        refine wc_seq ?_
        refine wc_region ?_
        refine wl_val (v_build (c' := (hdC hd0).toArray) [] TF.z26 TF.p26 rfl rfl) rfl ?_
        refine wl_storeW (cs := (hdC hd0).toArray) 0 st rfl TF.t26 rfl rfl rfl rfl (fun u hu => one_hdC u (by simpa using hu)) ?_
        intro w st
        refine wl_val (v_assign' (by conv => (lhs; whnf))) rfl ?_
        refine wl_nil ?_
        refine then_go ?_
        refine wc_ret (block_ret (then_ret ?_))
        have e : followE h s = 15 := by rw [followE, if_neg hg3, if_neg (fun hc => hc (u64_ne.1 (Decidable.not_not.1 h10))), if_pos hg6]
        exact ret2c rfl (st.reads 0 rfl TF.t26 (getV_all rfl)) rfl ((st.keepOnly (l := []) (List.nil_sublist _)).out (by rw [followH, e, if_neg (show ¬ ((15 : Int) = 0) by decide)]; rfl))
      · rw [show decide (¬ s.root.prev = h.root) = false from decide_eq_false hg6]
        refine wl_on rfl rfl ?_
        refine wl_val (v_fa TF.f26_2 rfl) rfl ?_
        refine wl_on rfl rfl ?_
        refine wl_val (v_load rfl (st.reads (v := arr h.key) 2 rfl TF.t23 (hd_k hh))) rfl ?_
        refine wl_on rfl rfl ?_
        refine wl_val (v_move' (by conv => (lhs; whnf))) rfl ?_
        refine wl_on rfl rfl ?_
        refine wl_val (v_fa TF.f71_1 rfl) rfl ?_
        refine wl_on rfl rfl ?_
        refine wl_val (v_load rfl (st.reads (v := sv) 1 rfl TF.t41 (sg_s ht))) rfl ?_
        refine wl_on rfl rfl ?_
        refine wl_call rfl (c_lcheck st.im hh.2 hb (by rw [rootB_len ht]; decide) hsv) rfl ?_
        rintro v37 w ⟨t37, m2, hg2, hi2, rfl⟩
        have st := st.grown hg2 t37 hi2
        have hb := hb.mono hg2.le
        refine wl_on rfl rfl ?_
        refine wl_val (v_neq rfl rfl) rfl ?_
        refine wl_val (v_pick rfl) rfl ?_
        refine wl_val (v_assign' (by conv => (lhs; whnf))) rfl ?_
        refine wl_nil ?_
        refine then_go ?_
        refine wc_if rfl (fun h24 => ?_) (fun h24 => ?_)
        · refine wc_seq ?_
          refine wc_region ?_
          refine wl_val (v_build (c' := (hdC hd0).toArray) [] TF.z26 TF.p26 rfl rfl) rfl ?_
          refine wl_storeW (cs := (hdC hd0).toArray) 0 st rfl TF.t26 rfl rfl rfl rfl (fun u hu => one_hdC u (by simpa using hu)) ?_
          intro w st
          refine wl_val (v_assign' (by conv => (lhs; whnf))) rfl ?_
          refine wl_nil ?_
          refine then_go ?_
          refine wc_ret (block_ret (then_ret ?_))
          have e : followE h s = 15 := by rw [followE, if_neg hg3, if_neg (fun hc => hc (u64_ne.1 (Decidable.not_not.1 h10))), if_neg hg6, if_neg (fun hc => h24 (by rw [if_pos hc]))]
          exact ret2c rfl (st.reads 0 rfl TF.t26 (getV_all rfl)) rfl ((st.keepOnly (l := []) (List.nil_sublist _)).out (by rw [followH, e, if_neg (show ¬ ((15 : Int) = 0) by decide)]; rfl))
        · refine wc_skip ?_
          refine block_go (then_go ?_)
          refine wc_seq ?_
          refine wc_draw TF.mixed ?_
          have st := st.pure (touch_drew _)
          refine fl_val 0 rfl (fun _ => (v_fa TF.f71_0 rfl)) rfl (by kernel_rfl) ?_
          refine fl_val 1 rfl (fun _ => (v_fa TF.f55_0 rfl)) rfl (by kernel_rfl) ?_
          refine fl_ld 2 rfl (v_load rfl (st.reads (v := u64 s.root.epoch) 1 rfl TF.t24 sg_e)) (by kernel_rfl) ?_
          refine fl_val 3 rfl (fun _ => (v_move' (by conv => (lhs; whnf)))) rfl (by kernel_rfl) ?_
          refine fl_val 5 rfl (fun _ => (v_fa TF.f71_0 rfl)) rfl (by kernel_rfl) ?_
          refine fl_val 6 rfl (fun _ => (v_fa TF.f55_3 rfl)) rfl (by kernel_rfl) ?_
          refine fl_ld 7 rfl (v_load rfl (st.reads (v := arr s.root.next) 1 rfl TF.t23 (sg_n ht))) (by kernel_rfl) ?_
          refine fl_eff1 4 [6, 5, 1, 0] [7, 2] (by kernel_rfl) ⟨obl_ld rfl rfl rfl (v_load rfl (st.reads (v := arr s.root.next) 1 rfl TF.t23 (sg_n ht))), obl_ld rfl rfl rfl (v_load rfl (st.reads (v := u64 s.root.epoch) 1 rfl TF.t24 sg_e)), trivial⟩ rfl ?_
          refine wl_call rfl (c_tagsof st.im hb (by rw [rootB_len ht]; decide)) rfl ?_
          rintro v45 w ⟨t45, rfl⟩
          have st := st.pure t45
          refine wl_nil ⟨rfl, ?_⟩
          refine fl_val 8 rfl (fun _ => (v_build (c' := (hdC ⟨s.root.epoch, sum (rootB s.root), s.root.next⟩).toArray) [(0, u64 s.root.epoch), (1, arr (sum (rootB s.root))), (2, arr s.root.next)] TF.z26 TF.p26 rfl (fill_hd (length_sum _) ht.2.2))) rfl (by kernel_rfl) ?_
          refine fl_eff1 9 [] [] (by kernel_rfl) ⟨obl_ld rfl rfl rfl (v_load rfl (st.reads (v := arr s.root.next) 1 rfl TF.t23 (sg_n ht))), obl_ld rfl rfl rfl (v_load rfl (st.reads (v := u64 s.root.epoch) 1 rfl TF.t24 sg_e)), trivial⟩ rfl ?_
          refine wl_storeW (cs := (hdC ⟨s.root.epoch, sum (rootB s.root), s.root.next⟩).toArray) 0 st rfl TF.t26 rfl rfl (by rw [List.size_toArray, length_hdC ⟨length_sum _, ht.2.2⟩]) rfl (fun u hu => one_hdC u (by simpa using hu)) ?_
          intro w st
          refine wl_nil ⟨rfl, ?_⟩
          refine fl_eff1 10 [] [] (by kernel_rfl) trivial rfl ?_
          refine wl_val (v_assign' (by conv => (lhs; whnf))) rfl ?_
          refine wl_nil ⟨rfl, ?_⟩
          refine fl_nil (by kernel_rfl) trivial ?_
          refine then_go ?_
          refine wc_ret ?_
          have hl : lamOk h.key (rootB s.root) s.sig := by
            refine Decidable.byContradiction fun hc => h24 ?_
            rw [if_neg hc]; decide
          have e : followE h s = 0 := by rw [followE, if_neg hg3, if_neg (fun hc => hc (u64_ne.1 (Decidable.not_not.1 h10))), if_neg hg6, if_pos hl]
          exact ret2c rfl (st.reads 0 rfl TF.t26 (getV_all (by rw [List.size_toArray, length_hdC ⟨length_sum _, ht.2.2⟩]))) rfl ((st.keepOnly (l := []) (List.nil_sublist _)).out (by rw [followH, e, if_pos (show (0 : Int) = 0 from rfl)]; rfl))
end
end Go.Proofs.Ytjjpakjgppmmdaa

/-
  Arguments opened, and the row's end: for laws that answer true and leave what they were handed.
-/
namespace Go.Proofs.Ytjjpakjgppmmdaa
open Go Go.RowKit Go.ChangeShapes Go.WideShapes Go.Deep
namespace K
section
variable {H : Type} {enc : TypeId × Value → H} {P : Program} {w : World} {sp : Nat → Bool} {held : Bool} {t e : TypeId} {fuel : Nat} {x : DataW H × List MemPlace} {v : Value}

theorem cell_some {a : Addr} {u : Value} (h : w.cell? a = some u) : a.spot = none ∧ ∃ c t fr, w.heap[a.block]? = some (.cells c t fr) ∧ c[a.off]? = some u := by
  unfold World.cell? at h
  split at h
  · rename_i c t fr hb
    split at h
    · cases h
    · rename_i hs
      exact ⟨by simpa using hs, c, t, fr, hb, h⟩
  · cases h

theorem flat_at {size : Nat} : ∀ (k : Nat) (X : Nat → List Value), (∀ i, i < k → (X i).length = size) → ((List.range k).flatMap X).length = k * size ∧ ∀ i j u, i < k → (X i)[j]? = some u → ((List.range k).flatMap X)[i * size + j]? = some u
  | 0, X, _ => by simp
  | k + 1, X, h => by
    have ih := flat_at k X fun i hi => h i (by omega)
    rw [List.range_succ, List.flatMap_append]
    have e : [k].flatMap X = X k := by simp
    rw [e]
    refine ⟨by rw [List.length_append, ih.1, h k (by omega), Nat.add_mul, Nat.one_mul], fun i j u hi hj => ?_⟩
    rcases Nat.lt_or_ge i k with h1 | h1
    · have h2 := ih.2 i j u h1 hj
      rw [List.getElem?_append_left]
      · exact h2
      · rcases Nat.lt_or_ge (i * size + j) ((List.range k).flatMap X).length with h3 | h3
        · exact h3
        · rw [List.getElem?_eq_none h3] at h2; cases h2
    · have h2 : i = k := by omega
      subst h2
      rw [List.getElem?_append_right (by rw [ih.1]; omega), ih.1, Nat.add_sub_cancel_left]
      exact hj

theorem TyF.cells {T : TypeId} {agg : Bool} {size bytes : Nat} (tf : TyF P T agg size bytes) : P.cellsOf T = size := by
  obtain ⟨i, hi, hs, _⟩ := tf.info
  simp [Program.cellsOf, hi, hs]

/-- A slice that is read, in memory as it is: its elements' cells, each read. -/
theorem trod_SlM (ht : P.underlying t = some (.slice e)) (hs : 0 < P.cellsOf e) (h : DataW.trod enc P w 0 sp held fuel t [v] = some x) :
    ∃ (k : Nat) (X : Nat → List Value), SlM (heapM w) v (P.cellsOf e) k ((List.range k).flatMap X) ∧ (k : Int) ≤ 9223372036854775807 ∧ ∀ i, i < k → (X i).length = P.cellsOf e ∧ ∃ n y, DataW.trod enc P w 0 sp held n e (X i) = some y := by
  rcases open_slice ht h with ⟨h0, _⟩ | ⟨a, len, cap, m, n, D, Pl, hv, _, hl, hm, hmm, _, hx⟩
  · rw [List.cons.injEq] at h0
    obtain ⟨rfl, _⟩ := h0
    exact ⟨0, fun _ => [], by simpa using SlM.nil, by decide, by simp⟩
  · rw [List.cons.injEq] at hv
    obtain ⟨rfl, _⟩ := hv
    have hmlen : len ≤ m := by rw [hmm]; split <;> omega
    obtain ⟨X, hX⟩ := choose_lt (α := List Value) (p := fun i cs => w.cells? 0 (a.add (i * P.cellsOf e)) (P.cellsOf e) = some cs ∧ DataW.trod enc P w 0 sp held n e cs = some (D i, Pl i)) (fun i hi => hx i hi)
    have hlen : ∀ i, i < len → (X i).length = P.cellsOf e := fun i hi => (World.cells?_some (hX i (by omega)).1).2.1
    have hcell : ∀ i j u, i < len → (X i)[j]? = some u → w.cell? (a.add (i * P.cellsOf e + j)) = some u := fun i j u hi hj => by
      have hjs : j < P.cellsOf e := by
        rcases Nat.lt_or_ge j (X i).length with h' | h'
        · rw [hlen i hi] at h'; exact h'
        · rw [List.getElem?_eq_none h'] at hj; cases hj
      have := (World.cells?_some (hX i (by omega)).1).2.2 j hjs
      rw [add_add] at this
      rw [this, hj]
    refine ⟨len, X, ⟨(flat_at len X hlen).1, some a, cap, rfl, hl, by simp, fun j u hj => ?_⟩, by unfold maxLen at hm; omega, fun i hi => ⟨hlen i hi, n, _, (hX i (by omega)).2⟩⟩
    have hjl : j < len * P.cellsOf e := by
      rw [← (flat_at len X hlen).1]
      rcases Nat.lt_or_ge j ((List.range len).flatMap X).length with h' | h'
      · exact h'
      · rw [List.getElem?_eq_none h'] at hj; cases hj
    have h0len : 0 < len := by
      rcases Nat.eq_zero_or_pos len with h0 | h0
      · subst h0; simp at hjl
      · exact h0
    have hspot : a.spot = none := by
      have h1 : (X 0)[0]? = some ((X 0)[0]'(by rw [hlen 0 h0len]; exact hs)) := List.getElem?_eq_getElem _
      have := hcell 0 0 _ h0len h1
      rw [Nat.zero_mul, Nat.zero_add, show a.add 0 = a by simp [Addr.add]] at this
      exact (cell_some this).1
    have hdiv : j / P.cellsOf e < len := (Nat.div_lt_iff_lt_mul hs).2 hjl
    have hmod : j % P.cellsOf e < P.cellsOf e := Nat.mod_lt _ hs
    have hu : (X (j / P.cellsOf e))[j % P.cellsOf e]? = some ((X (j / P.cellsOf e))[j % P.cellsOf e]'(by rw [hlen _ hdiv]; exact hmod)) := List.getElem?_eq_getElem _
    have hidx : j / P.cellsOf e * P.cellsOf e + j % P.cellsOf e = j := Nat.div_add_mod' j _
    have h2 := (flat_at len X hlen).2 _ _ _ hdiv hu
    rw [hidx, hj] at h2
    rw [← h2] at hu
    have h3 := hcell _ _ _ hdiv hu
    rw [hidx] at h3
    obtain ⟨_, c, t', fr, hb, hc⟩ := cell_some h3
    refine ⟨a.block, a.off, c, t', fr, ?_, ?_, ?_⟩
    · cases a; simp_all
    · have e1 : (a.add j).block = a.block := by unfold Addr.add; split <;> rfl
      rw [e1] at hb
      exact hb
    · have e1 : (a.add j).off = a.off + j := by unfold Addr.add; split <;> simp_all
      rw [e1] at hc
      exact hc

theorem flat_one {α : Type} (k : Nat) (X : Nat → List Value) (g : α → Value) (hX : ∀ i, i < k → ∃ y, X i = [g y]) : ∃ l : List α, l.length = k ∧ (List.range k).flatMap X = l.map g := by
  induction k with
  | zero => exact ⟨[], rfl, rfl⟩
  | succ k ih =>
    obtain ⟨l, h1, h2⟩ := ih fun i hi => hX i (by omega)
    obtain ⟨y, hy⟩ := hX k (by omega)
    refine ⟨l ++ [y], by simp [h1], ?_⟩
    rw [List.range_succ, List.flatMap_append, h2]
    simp [hy]

/-- A slice of bytes. -/
theorem trod_bytes (ht : P.underlying t = some (.slice e)) (he : P.underlying e = some (.int .u8)) (hc : P.cellsOf e = 1) (h : DataW.trod enc P w 0 sp held fuel t [v] = some x) :
    ∃ l : List UInt8, SlM (heapM w) v 1 l.length (bs l) ∧ (l.length : Int) ≤ 9223372036854775807 := by
  obtain ⟨k, X, hS, hk, hX⟩ := trod_SlM ht (by omega) h
  rw [hc] at hS
  obtain ⟨l, h1, h2⟩ := flat_one (α := UInt8) k X u8 fun i hi => by
    obtain ⟨_, n, y, hy⟩ := hX i hi
    obtain ⟨z, hz, _, hw⟩ := DataW.trod_int he hy
    simp only [Lit.wf, Bool.and_eq_true, decide_eq_true_eq] at hw
    have hw1 : 0 ≤ z := hw.1
    have hw2 : z ≤ 255 := hw.2
    refine ⟨UInt8.ofNat z.toNat, ?_⟩
    rw [hz]
    simp only [u8, List.cons.injEq, Value.int.injEq, true_and, and_true]
    rw [UInt8.toNat_ofNat']
    omega
  rw [h2] at hS
  subst h1
  exact ⟨l, hS, hk⟩

/-- A slice of whole numbers. -/
theorem trod_ints (ht : P.underlying t = some (.slice e)) (he : P.underlying e = some (.int .i64)) (hc : P.cellsOf e = 1) (h : DataW.trod enc P w 0 sp held fuel t [v] = some x) :
    ∃ l : List Int, SlM (heapM w) v 1 l.length (l.map (Value.int .i64)) ∧ (l.length : Int) ≤ 9223372036854775807 := by
  obtain ⟨k, X, hS, hk, hX⟩ := trod_SlM ht (by omega) h
  rw [hc] at hS
  obtain ⟨l, h1, h2⟩ := flat_one (α := Int) k X (Value.int .i64) fun i hi => by
    obtain ⟨_, n, y, hy⟩ := hX i hi
    obtain ⟨z, hz, _, hw⟩ := DataW.trod_int he hy
    exact ⟨z, hz⟩
  rw [h2] at hS
  subst h1
  exact ⟨l, hS, hk⟩

/-- The row's end: the law has answered true, and below the old end of memory nothing has turned. -/
theorem post_true {f : Func} {s : ChangeSpec} {W W' : World} {args : Array Value} {ds gs : List (DataW H)} {before : List MemPlace} {b : TypeId} (hl : laidOutB P = true) (hpar : f.params.toList.all (fun t => P.readableRec t && decide (t < P.types.size)) = true) (hvars : s.vars = [])
    (hW : DataW.Whole enc P f.params.toList s.vars false W args.toList ds gs before) (t : Tch W W' [] []) (hfn : s.fn H ds = { results := [.lit (.bool true)], args := ds }) (hres : f.resultTypes = #[b]) (hb : P.underlying b = some .bool) :
    s.post enc P f false true false false W args (.bool true) W' := by
  have hlt := fun p hp => hW.lt p hp
  have hW0 := hW
  obtain ⟨p, q, hA, hV, rfl, hfz, _⟩ := hW
  have hq : q = [] ∧ gs = [] := by
    rw [hvars] at hV
    cases gs with
    | nil => exact ⟨hV, rfl⟩
    | cons _ _ => exact hV.elim
  obtain ⟨rfl, rfl⟩ := hq
  have stays : ∀ (ts : List TypeId) (vs : List Value) (ds : List (DataW H)) (p : List MemPlace), ts.all (fun t => P.readableRec t && decide (t < P.types.size)) = true → (∀ x ∈ p, x.block < W.heap.size) → DataW.TrodAll enc P W 0 (fun _ => true) true ts vs ds p → DataW.TrodAll enc P W' 0 (fun b => decide (b < W.heap.size)) true ts vs ds p := by
    intro ts
    induction ts with
    | nil => intro vs ds p _ _ h; cases vs <;> cases ds <;> first | exact h | exact h.elim
    | cons t0 ts ih =>
      intro vs ds p hall hp h
      cases vs with
      | nil => exact h.elim
      | cons v0 vs =>
        cases ds with
        | nil => exact h.elim
        | cons d0 ds =>
          obtain ⟨p1, q1, h1, h2, rfl⟩ := h
          simp only [List.all_cons, Bool.and_eq_true, decide_eq_true_eq] at hall
          exact ⟨p1, q1, Below.trod hl hall.1.1 hall.1.2 h1 t.below (fun x hx => hp x (List.mem_append_left _ hx)), ih vs ds q1 (by simpa using hall.2) (fun x hx => hp x (List.mem_append_right _ hx)) h2, rfl⟩
  refine ⟨ds, [], p ++ [], [], p, [], hW0, ?_, ?_, ?_, ?_, fun h => by cases h⟩
  all_goals try rw [List.append_nil ds]
  · rw [hfn, hres]
    refine ⟨[], [], ⟨1, ?_⟩, rfl, rfl⟩
    simp [DataW.trod, Value.cells, hb, Value.resultList]
  · rw [hfn]
    exact stays _ _ _ _ hpar (fun x hx => hlt x (by simpa using hx)) hA
  · rw [hvars, hfn]
    rfl
  · refine ⟨t.os, t.output, fun i hi => ?_⟩
    have := (World.keptBut_refl W (fun p_1 => p_1 ∈ p ++ [] ∧ (p_1 ∈ ([] : List MemPlace) ∨ p_1 ∈ p ∨ p_1 ∈ ([] : List MemPlace)))).2.2 i hi
    rw [t.block i hi (by simp)]
    exact this

end
end K
end Go.Proofs.Ytjjpakjgppmmdaa

/-
  Roots and heads compared; the reference's Follow; lists of parts of several cells.
-/
namespace Go.Proofs.Ytjjpakjgppmmdaa
open Go Go.RowKit K SH PT

section
variable {P : Program} {w : World}
theorem part_of {T : TypeId} {agg : Bool} {size bytes off : Nat} {v : Value} {cs : Array Value} (tf : TyF P T agg size bytes) (hv : getV agg size cs off = some v) : (part T cs off).run P w = .ok v w := by
  unfold getV at hv
  cases agg with
  | true =>
    rw [if_pos rfl] at hv
    split at hv
    · cases hv
      simp [part, tf.isagg, tf.sz]
    · cases hv
  | false =>
    rw [if_neg (by simp), Array.getElem?_toList] at hv
    simp [part, tf.isagg, hv]

theorem eqF_cons {d : Nat} {xs ys : Array Value} {f : Field} {fs : List Field} {a b : Value} {r : Bool} (hn : f.name ≠ "_") (pa : (part f.type xs f.offset).run P w = .ok a w) (pb : (part f.type ys f.offset).run P w = .ok b w) (he : (Op.equalIn d f.type a b).run P w = .ok r w) {r' : Bool}
    (hr : (Op.eqFields d xs ys fs).run P w = .ok r' w) : (Op.eqFields d xs ys (f :: fs)).run P w = .ok (r && r') w := by
  simp only [Op.eqFields, hn, ne_eq, not_false_eq_true, if_true, Sem.run_bind, pa, pb, he, Result.andThen_ok]
  cases r
  · simp
  · simpa using hr

theorem eqF_nil {d : Nat} {xs ys : Array Value} : (Op.eqFields d xs ys []).run P w = .ok true w := by simp [Op.eqFields]
end

theorem eqIn_dig {w : World} {d : Nat} {a b : By} (ha : a.length = 32) (hb : b.length = 32) : (Op.equalIn (d + 2) 23 (arr a) (arr b)).run Try.prog w = .ok (decide (a = b)) w := by
  have tf := TF.t5
  obtain ⟨i, hi, hs, _⟩ := tf.info
  have h := run_equalIn_array (P := Try.prog) w (d + 1) (t := 23) (e := 5) (n := 32) (i := i) (bs a).toArray (bs b).toArray Try.underlying23 hi
  have hc : Try.prog.cellsOf 5 = 1 := tf.cells
  rw [hc] at h
  have h2 := run_eqItems_int (P := Try.prog) (w := w) tf Try.underlying5 (bs a).toArray (bs b).toArray (a.map fun x => (x.toNat : Int)) (b.map fun x => (x.toNat : Int)) (by rw [bs_ints]) (by rw [bs_ints]) (by simp [ha, hb]) d 32 0 (by simp [ha])
  rw [List.range_eq_range'] at h
  have e := h.trans h2
  rw [List.drop_zero, List.drop_zero] at e
  have e2 : decide ((a.map fun x => (x.toNat : Int)) = (b.map fun x => (x.toNat : Int))) = decide (a = b) := decide_eq_decide.2 ints_inj
  rw [e2] at e
  exact e

theorem run_eq_hd {w : World} {a b : Hd} (ha : a.ok) (hb : b.ok) : (Op.equal 26 (hdV a) (hdV b)).run Try.prog w = .ok (decide (a = b)) w := by
  unfold Op.equal
  rw [show Op.maxDepth = 9999 + 1 from rfl]
  have h := run_equalIn_struct (P := Try.prog) w 9999 26 (hdC a).toArray (hdC b).toArray (by unfold Program.fieldsOf; rw [Try.underlying26]) (by kernel_rfl)
  refine h.trans ?_
  simp only [Program.fieldsOf, Try.underlying26]
  obtain ⟨d, hd⟩ : ∃ d, 9999 = d + 2 := ⟨9997, rfl⟩
  rw [hd]
  have pa1 : (part 24 (hdC a).toArray 0).run Try.prog w = .ok (u64 a.epoch) w := part_of TF.t24 hd_e
  have pb1 : (part 24 (hdC b).toArray 0).run Try.prog w = .ok (u64 b.epoch) w := part_of TF.t24 hd_e
  have pa2 : (part 23 (hdC a).toArray 1).run Try.prog w = .ok (arr a.root) w := part_of TF.t23 (hd_r ha)
  have pb2 : (part 23 (hdC b).toArray 1).run Try.prog w = .ok (arr b.root) w := part_of TF.t23 (hd_r hb)
  have pa3 : (part 23 (hdC a).toArray 33).run Try.prog w = .ok (arr a.key) w := part_of TF.t23 (hd_k ha)
  have pb3 : (part 23 (hdC b).toArray 33).run Try.prog w = .ok (arr b.key) w := part_of TF.t23 (hd_k hb)
  have q1 : (Op.equalIn (d + 2) 24 (u64 a.epoch) (u64 b.epoch)).run Try.prog w = .ok ((a.epoch.toNat : Int) == (b.epoch.toNat : Int)) w := run_equalIn_int w (d + 1) 24 .u64 .u64 _ _ Try.underlying24
  refine Eq.trans (eqF_cons (a := u64 a.epoch) (b := u64 b.epoch) (r := (a.epoch.toNat : Int) == (b.epoch.toNat : Int)) (r' := decide (a.root = b.root) && (decide (a.key = b.key) && true)) ?_ ?_ ?_ ?_ ?_) ?_
  · decide
  · exact pa1
  · exact pb1
  · exact q1
  · refine eqF_cons (a := arr a.root) (b := arr b.root) ?_ ?_ ?_ ?_ ?_
    · decide
    · exact pa2
    · exact pb2
    · exact eqIn_dig (d := d) ha.1 hb.1
    · refine eqF_cons (a := arr a.key) (b := arr b.key) ?_ ?_ ?_ ?_ eqF_nil
      · decide
      · exact pa3
      · exact pb3
      · exact eqIn_dig (d := d) ha.2 hb.2
  refine congrArg (fun z => Result.ok z w) ?_
  obtain ⟨e1, r1, k1⟩ := a
  obtain ⟨e2, r2, k2⟩ := b
  have h1 : ((e1.toNat : Int) == (e2.toNat : Int)) = decide (e1 = e2) := by
    rw [Bool.eq_iff_iff]
    simp only [beq_iff_eq, decide_eq_true_eq]
    exact u64_ne
  simp only [h1]
  rw [Bool.eq_iff_iff]
  simp

theorem getRt {t : Rt} (ht : t.ok) : getV true 32 (rtC t).toArray 1 = some (arr t.prev) ∧ getV true 32 (rtC t).toArray 33 = some (arr t.tree) ∧ getV true 32 (rtC t).toArray 65 = some (arr t.next) :=
  ⟨getV_seg (a := [u64 t.epoch]) (b := bs t.prev) (c := bs t.tree ++ bs t.next) (by simp [rtC]) rfl (by rw [length_bs, ht.1]),
   getV_seg (a := u64 t.epoch :: bs t.prev) (b := bs t.tree) (c := bs t.next) (by simp [rtC]) (by simp [length_bs, ht.1]) (by rw [length_bs, ht.2.1]),
   getV_seg (a := u64 t.epoch :: (bs t.prev ++ bs t.tree)) (b := bs t.next) (c := []) (by simp [rtC]) (by simp [length_bs, ht.1, ht.2.1]) (by rw [length_bs, ht.2.2])⟩

theorem run_eq_rt {w : World} {a b : Rt} (ha : a.ok) (hb : b.ok) : (Op.equal 55 (rtV a) (rtV b)).run Try.prog w = .ok (decide (a = b)) w := by
  unfold Op.equal
  rw [show Op.maxDepth = 9999 + 1 from rfl]
  have h := run_equalIn_struct (P := Try.prog) w 9999 55 (rtC a).toArray (rtC b).toArray (by unfold Program.fieldsOf; rw [Try.underlying55]) (by kernel_rfl)
  refine h.trans ?_
  simp only [Program.fieldsOf, Try.underlying55]
  obtain ⟨d, hd⟩ : ∃ d, 9999 = d + 2 := ⟨9997, rfl⟩
  rw [hd]
  have pa1 : (part 24 (rtC a).toArray 0).run Try.prog w = .ok (u64 a.epoch) w := part_of TF.t24 rfl
  have pb1 : (part 24 (rtC b).toArray 0).run Try.prog w = .ok (u64 b.epoch) w := part_of TF.t24 rfl
  have pa2 : (part 23 (rtC a).toArray 1).run Try.prog w = .ok (arr a.prev) w := part_of TF.t23 (getRt ha).1
  have pb2 : (part 23 (rtC b).toArray 1).run Try.prog w = .ok (arr b.prev) w := part_of TF.t23 (getRt hb).1
  have pa3 : (part 23 (rtC a).toArray 33).run Try.prog w = .ok (arr a.tree) w := part_of TF.t23 (getRt ha).2.1
  have pb3 : (part 23 (rtC b).toArray 33).run Try.prog w = .ok (arr b.tree) w := part_of TF.t23 (getRt hb).2.1
  have pa4 : (part 23 (rtC a).toArray 65).run Try.prog w = .ok (arr a.next) w := part_of TF.t23 (getRt ha).2.2
  have pb4 : (part 23 (rtC b).toArray 65).run Try.prog w = .ok (arr b.next) w := part_of TF.t23 (getRt hb).2.2
  have q1 : (Op.equalIn (d + 2) 24 (u64 a.epoch) (u64 b.epoch)).run Try.prog w = .ok ((a.epoch.toNat : Int) == (b.epoch.toNat : Int)) w := run_equalIn_int w (d + 1) 24 .u64 .u64 _ _ Try.underlying24
  refine Eq.trans (eqF_cons (a := u64 a.epoch) (b := u64 b.epoch) (r := (a.epoch.toNat : Int) == (b.epoch.toNat : Int)) (r' := decide (a.prev = b.prev) && (decide (a.tree = b.tree) && (decide (a.next = b.next) && true))) ?_ ?_ ?_ ?_ ?_) ?_
  · decide
  · exact pa1
  · exact pb1
  · exact q1
  · refine eqF_cons (a := arr a.prev) (b := arr b.prev) ?_ ?_ ?_ ?_ ?_
    · decide
    · exact pa2
    · exact pb2
    · exact eqIn_dig (d := d) ha.1 hb.1
    · refine eqF_cons (a := arr a.tree) (b := arr b.tree) ?_ ?_ ?_ ?_ ?_
      · decide
      · exact pa3
      · exact pb3
      · exact eqIn_dig (d := d) ha.2.1 hb.2.1
      · refine eqF_cons (a := arr a.next) (b := arr b.next) ?_ ?_ ?_ ?_ eqF_nil
        · decide
        · exact pa4
        · exact pb4
        · exact eqIn_dig (d := d) ha.2.2 hb.2.2
  refine congrArg (fun z => Result.ok z w) ?_
  obtain ⟨e1, r1, k1, l1⟩ := a
  obtain ⟨e2, r2, k2, l2⟩ := b
  have h1 : ((e1.toNat : Int) == (e2.toNat : Int)) = decide (e1 = e2) := by
    rw [Bool.eq_iff_iff]
    simp only [beq_iff_eq, decide_eq_true_eq]
    exact u64_ne
  simp only [h1]
  rw [Bool.eq_iff_iff]
  simp

section
variable {r : Fr} {w : World} {ty U : TypeId} {x y : Operand}
theorem v_neHd {a b : Hd} (hx : ev r x = hdV a) (hy : ev r y = hdV b) (ha : a.ok) (hb : b.ok) : Val Try.prog (.binOp .neq 26 x y U) ty r w (.bool (decide (¬ a = b))) w := by
  intro _ _ _ _
  have hg := run_eqGuard_agg (P := Try.prog) w .neq 26 x y (hdC a).toArray (hdC b).toArray TF.e26
  have he := run_eq_hd (w := w) ha hb
  unfold hdV at hx hy he
  simp only [execOp, hx, hy, Sem.run_bind, hg, Result.andThen_ok, binOp, he, Sem.run_pure]
  simp
theorem v_neRt {a b : Rt} (hx : ev r x = rtV a) (hy : ev r y = rtV b) (ha : a.ok) (hb : b.ok) : Val Try.prog (.binOp .neq 55 x y U) ty r w (.bool (decide (¬ a = b))) w := by
  intro _ _ _ _
  have hg := run_eqGuard_agg (P := Try.prog) w .neq 55 x y (rtC a).toArray (rtC b).toArray TF.e55
  have he := run_eq_rt (w := w) ha hb
  unfold rtV at hx hy he
  simp only [execOp, hx, hy, Sem.run_bind, hg, Result.andThen_ok, binOp, he, Sem.run_pure]
  simp
end
end Go.Proofs.Ytjjpakjgppmmdaa

/-
  Lists of parts of several cells; lists of roots; views.
-/
namespace Go.Proofs.Ytjjpakjgppmmdaa
open Go Go.RowKit K SH PT

section lists
variable {α : Type} {c : α → List Value} {size : Nat}

/-- A slice of such parts lies there. -/
structure LsM (m : Mem) (v : Value) (c : α → List Value) (size : Nat) (L : List α) : Prop where
  row : SlM m v size L.length (L.flatMap c)
  len : ∀ x ∈ L, (c x).length = size

theorem flat_len : ∀ {L : List α}, (∀ x ∈ L, (c x).length = size) → (L.flatMap c).length = L.length * size
  | [], _ => by simp
  | x :: L, h => by
    have h1 := h x (by simp)
    have h2 := flat_len (L := L) fun y hy => h y (by simp [hy])
    rw [List.flatMap_cons, List.length_append, h1, h2, List.length_cons, Nat.succ_mul]
    omega

theorem cellsAt_flat : ∀ {L : List α}, (∀ x ∈ L, (c x).length = size) → ∀ {i : Nat} (hi : i < L.length), cellsAt (L.flatMap c) size i = c L[i]
  | [], _, _, hi => by simp at hi
  | x :: L, h, 0, _ => by
    have h1 := h x (by simp)
    simp only [cellsAt, List.flatMap_cons, Nat.zero_mul, List.drop_zero, List.getElem_cons_zero]
    rw [List.take_left' h1]
  | x :: L, h, i + 1, hi => by
    have h1 := h x (by simp)
    have h2 := cellsAt_flat (L := L) (fun y hy => h y (by simp [hy])) (i := i) (by simp at hi; omega)
    rw [List.getElem_cons_succ, ← h2]
    simp only [cellsAt, List.flatMap_cons]
    rw [show (i + 1) * size = (c x).length + i * size by rw [h1, Nat.succ_mul]; omega, List.drop_append, List.drop_eq_nil_of_le (by omega), List.nil_append, Nat.add_sub_cancel_left]

theorem LsM.mono {m m' : Mem} {v : Value} {L : List α} (h : LsM m v c size L) (hm : ∀ k o, m k = some o → m' k = some o) : LsM m' v c size L := ⟨h.row.mono hm, h.len⟩
theorem LsM.nil {m : Mem} : LsM m (.slice none 0 0) c size [] := ⟨SlM.nil, by simp⟩
theorem LsM.sl {m : Mem} {v : Value} {L : List α} (h : LsM m v c size L) : ∃ a cap, v = .slice a L.length cap := by
  obtain ⟨_, a, cap, rfl, _⟩ := h.row
  exact ⟨a, cap, rfl⟩
theorem LsM.rd {P : Program} {m : Mem} {a : Option Addr} {k cap : Nat} {L : List α} (h : LsM m (.slice a k cap) c size L) {b o i : Nat} (ha : a = some ⟨b, o, none⟩) (hi : i < L.length) (hs : 0 < size) {T : TypeId} {agg : Bool} {sz bytes off : Nat} {v' : Value} (tf : TyF P T agg sz bytes) (hv : getV agg sz (c L[i]).toArray off = some v') {w : World} (him : Im m w) :
    Reads P w T ⟨b, o + i * size + off, none⟩ v' := by
  obtain ⟨b', o', cap', hv', _, hr⟩ := h.row.elem P (i := i) hi hs
  simp only [Value.slice.injEq] at hv'
  rw [ha] at hv'
  obtain ⟨he, _, _⟩ := hv'
  cases he
  exact hr him tf (by rw [cellsAt_flat h.len hi]; exact hv)
theorem LsM.ptr {m : Mem} {a : Option Addr} {k cap : Nat} {L : List α} (h : LsM m (.slice a k cap) c size L) (hi : 0 < L.length) (hs : 0 < size) : ∃ b o, a = some ⟨b, o, none⟩ := by
  obtain ⟨b, o, cap', hv, _, _⟩ := h.row.elem Try.prog (i := 0) hi hs
  simp only [Value.slice.injEq] at hv
  exact ⟨b, o, hv.1⟩

abbrev lsE (E : TypeId) (size : Nat) (c : α → List Value) (v : Value) (L : List α) : Ent := rowE v E size L.length (L.flatMap c)

variable {P : Program} {n : Nat} {ops : Array Oper} {Q : Po} {rest : List Oper} {r : Fr} {w : World} {d : Nat} {ty : TypeId} {pos : String} {after : Array Edge} {m0 m : Mem} {F : List Nat} {w0 : World} {Es : List Ent}

theorem wl_lsOne {T E : TypeId} {bytes : Nat} {z : Value} {x : Operand} (cv : List Value) (hT : P.underlying T = some (.slice E)) (tf : TyF P E true size bytes) (hz : TyZ P E z) (hs : 0 < size) (hs1 : size ≤ 16777216) (hl : cv.length = size) (hx : ev r x = .agg cv.toArray) (st : St m0 m F w0 w Es) (hd : Nat.blt d n = true)
    (k : ∀ b w', St m0 m F w0 w' (K.blk b cv.toArray E :: Es) → WL P n ops Q rest (upd d (.slice (some ⟨b, 0, none⟩) 1 1) r) w') :
    WL P n ops Q (⟨some d, .buildSlice T 1 #[(0, x)], ty, pos, after, none⟩ :: rest) r w := by
  refine wl_buildSlice (c' := cv.toArray) [(0, .agg cv.toArray)] hT tf hz (by omega) (by omega) (by simp [hx]) ⟨0, size, by simp, by simp [Value.cells, hl], by simp [size_madeCells], ?_⟩ st hd k
  exact setSeg_all (by simp [size_madeCells, Value.cells, hl])

theorem wl_lsApp (i : Nat) {T E : TypeId} {agg : Bool} {bytes b cap : Nat} {z v : Value} {s y : Operand} {L : List α} {e : α} (st : St m0 m F w0 w (K.blk b (c e).toArray E :: Es)) (hi : Es[i]? = some (lsE E size c v L)) (hT : P.underlying T = some (.slice E)) (tf : TyF P E agg size bytes) (hz : TyZ P E z) (hzs : z.cells.size = size) (hl : (c e).length = size) (hone : ∀ u ∈ c e, u.oneCell' = true)
    (hs : ev r s = v) (hy : ev r y = .slice (some ⟨b, 0, none⟩) 1 cap) (hb : (L.length + 1) * bytes ≤ 140737488355328) (h63 : L.length + 1 ≤ 9223372036854775807) (hd : Nat.blt d n = true)
    (k : ∀ v' w', St m0 m F w0 w' (Es.set i (lsE E size c v' (L ++ [e]))) → v'.oneCell' = true → WL P n ops Q rest (upd d v' r) w') :
    WL P n ops Q (⟨some d, .call ⟨.builtin .append, #[s, y], #[T, T]⟩, ty, pos, after, none⟩ :: rest) r w := by
  refine wl_append (news := c e) (i + 1) st hi hT hT (.inr ⟨_, rfl⟩) tf hz hzs hs hy (st.srcArr (off := 0) 0 rfl (by rw [hl]; omega) (fun j u hj => by simpa using hj) hone) h63 hb hd ?_
  intro v' w' _ st'
  have e1 : L.flatMap c ++ c e = (L ++ [e]).flatMap c := by simp
  have e2 : L.length + 1 = (L ++ [e]).length := by simp
  have st2 := st'.drop 0
  rw [e1, e2] at st2
  have st3 : St m0 m F w0 w' (Es.set i (lsE E size c v' (L ++ [e]))) := st2
  have hlt : i < Es.length := by
    rcases Nat.lt_or_ge i Es.length with h | h
    · exact h
    · rw [List.getElem?_eq_none h] at hi; cases hi
  have hrow : (lsE E size c v' (L ++ [e])).holds w' := st3.at (i := i) (by simp [hlt])
  exact k v' w' st3 (row_one hrow)

theorem K.St.keepLs (st : St m0 m [] w0 w Es) {i : Nat} {E : TypeId} {v : Value} {L : List α} (hi : Es[i]? = some (lsE E size c v L)) (hL : ∀ x ∈ L, (c x).length = size) :
    ∃ m', Grow m m' w0.heap.size ∧ LsM m' v c size L ∧ St m0 m' [] w0 w (Es.eraseIdx i) := by
  obtain ⟨m2, hg2, hm2, st2⟩ := st.freezeR hi (by simp)
  exact ⟨m2, hg2, ⟨row_SlM (m := m2) (st.at hi) hm2, hL⟩, st2⟩

/-- A slice with nothing in it, in new memory. -/
theorem wl_buildSlice0 {T E : TypeId} {agg : Bool} {bytes : Nat} (hT : P.underlying T = some (.slice E)) (tf : TyF P E agg size bytes) (st : St m0 m F w0 w Es) (hd : Nat.blt d n = true)
    (k : ∀ v w', St m0 m F w0 w' (rowE v E size 0 [] :: Es) → WL P n ops Q rest (upd d v r) w') :
    WL P n ops Q (⟨some d, .buildSlice T 0 #[], ty, pos, after, none⟩ :: rest) r w := by
  have hst : St m0 m F w0 (w.alloc (.cells #[] E)) (rowE (.slice (some ⟨w.heap.size, 0, none⟩) 0 0) E size 0 [] :: Es) := by
    have st1 := st.new (E := K.blk w.heap.size #[] E) (touch_alloc w _) (heap_alloc_new w _)
    exact st1.rowShut 0 (b := w.heap.size) (k := 0) (cap := 0) (size := size) (xs := []) rfl (Nat.le_refl _) (by simp) (by omega) (by simp)
  refine wl_val (v := .slice (some ⟨w.heap.size, 0, none⟩) 0 0) (w' := w.alloc (.cells #[] E)) ?_ hd (k _ _ hst)
  intro _ _ _ _
  simp [execOp, Instr.buildSlice, run_underlying hT, tf.sz, newRow, Instr.fill]
  have e : (Array.map (fun _ => (default : Value)) (Array.range 0)) = #[] := by apply Array.ext'; simp
  rw [e]

theorem v_eq_nilS {T E U : TypeId} {x y : Operand} {a : Option Addr} {l k : Nat} (hT : P.underlying T = some (.slice E)) (hx : ev r x = .slice a l k) (hy : ev r y = .slice none 0 0) : Val P (.binOp .eql T x y U) ty r w (.bool a.isNone) w := by
  intro _ _ _ _
  have h : (Op.equal T (.slice a l k) (.slice none 0 0)).run P w = .ok a.isNone w := by
    unfold Op.equal
    rw [show Op.maxDepth = 9999 + 1 from rfl, Op.equalIn]
    simp only [Sem.run_bind, run_underlying hT, Result.andThen_ok]
    cases a <;> rfl
  simp [execOp, eqGuard, binOp, hx, hy, h]
end lists

structure Vw where
  pin : By
  head : Hd
  roots : List Rt

def vwC (pin : By) (h : Hd) (rv : Value) : List Value := bs pin ++ (hdC h ++ [rv])
abbrev RtsM (m : Mem) (v : Value) (L : List Rt) : Prop := LsM m v rtC 97 L
def VwM (m : Mem) (v : Value) (x : Vw) : Prop := ∃ rv, v = .agg (vwC x.pin x.head rv).toArray ∧ RtsM m rv x.roots ∧ x.pin.length = 32 ∧ x.head.ok ∧ ∀ t ∈ x.roots, t.ok
theorem VwM.mono {m m' : Mem} {v : Value} {x : Vw} (h : VwM m v x) (hm : ∀ k o, m k = some o → m' k = some o) : VwM m' v x := by
  obtain ⟨rv, h1, h2, h3⟩ := h
  exact ⟨rv, h1, h2.mono hm, h3⟩
def vw0 : Vw := ⟨z32, hd0, []⟩

section
variable {pin : By} {h : Hd} {rv : Value} (hp : pin.length = 32) (hh : h.ok)
include hp hh in
theorem length_vwC : (vwC pin h rv).length = 98 := by simp [vwC, length_bs, hp, length_hdC hh]
include hp in
theorem vw_p : getV true 32 (vwC pin h rv).toArray 0 = some (arr pin) := getV_seg (a := []) (b := bs pin) (c := hdC h ++ [rv]) (by simp [vwC]) rfl (by rw [length_bs, hp])
include hp hh in
theorem vw_h : getV true 65 (vwC pin h rv).toArray 32 = some (hdV h) := getV_seg (a := bs pin) (b := hdC h) (c := [rv]) (by simp [vwC]) (by rw [length_bs, hp]) (length_hdC hh)
include hp hh in
theorem vw_r : getV false 1 (vwC pin h rv).toArray 97 = some rv := getV_lst (a := bs pin ++ hdC h) (b := []) (c := []) (by simp [vwC]) (by simp [length_bs, hp, length_hdC hh])
theorem one_vwC (hr : rv.oneCell' = true) : ∀ u ∈ vwC pin h rv, u.oneCell' = true := by
  intro u hu
  simp only [vwC, List.mem_append, List.mem_singleton] at hu
  rcases hu with h | h | rfl
  · exact one_bs _ u h
  · exact one_hdC u h
  · exact hr
include hp hh in
theorem set_vwH {g : Hd} (hg : g.ok) : setSeg (vwC pin h rv).toArray 32 (hdC g) = (vwC pin g rv).toArray := by
  have := setSeg_mid (a := bs pin) (b := hdC h) (c := [rv]) (l := hdC g) (o := 32) (by rw [length_bs, hp]) (by rw [length_hdC hh, length_hdC hg])
  simpa [vwC] using this
include hp hh in
theorem set_vwR {rv' : Value} : (vwC pin h rv).toArray.setIfInBounds 97 rv' = (vwC pin h rv').toArray := by
  have e : vwC pin h rv = (bs pin ++ hdC h) ++ rv :: [] := by simp [vwC]
  rw [e, set_app (by simp [length_bs, hp, length_hdC hh])]
  simp [vwC]
end

theorem fill_vw {pin : By} {h : Hd} {rv : Value} (hp : pin.length = 32) (hh : h.ok) (hr : rv.oneCell' = true) : FillR (#[(0, 32), (32, 65), (97, 1)][·]?) (Value.agg (List.replicate 32 (Value.int .u8 0) ++ ([Value.int .u64 0] ++ List.replicate 32 (Value.int .u8 0) ++ List.replicate 32 (Value.int .u8 0)) ++ [Value.slice none 0 0]).toArray).cells [(0, arr pin), (1, hdV h), (2, rv)] (vwC pin h rv).toArray := by
  refine fill_one [] (bs z32) (hdC hd0 ++ [.slice none 0 0]) rfl rfl (by rw [size_arr, hp]; rfl) ?_
  refine fill_one (bs pin) (hdC hd0) [.slice none 0 0] (by simp [arr, Value.cells]) (by simp [length_bs, hp]; rfl) (by simp [hdV, Value.cells, length_hdC hh]; rfl) ?_
  refine fill_one (bs pin ++ hdC h) [.slice none 0 0] [] (by simp [hdV, Value.cells]) (by simp [length_bs, hp, length_hdC hh]) (by rw [cells_one hr]; rfl) ?_
  rw [cells_one hr]
  simp [FillR, vwC]

section
variable {m : Mem} {wI : World}

/-- A copy of roots in memory of the caller's own. -/
theorem c_clone {v : Value} {L : List Rt} (him : Im m wI) (hv : RtsM m v L) (hL : L.length ≤ 1000000) :
    Ret Try.prog 67 #[v] wI fun v' w' => Tch wI w' [] (lsE 55 97 rtC v' L).foot ∧ (lsE 55 97 rtC v' L).holds w' := by
  have st := St.start him
  obtain ⟨a, cap, rfl⟩ := hv.sl
  refine ret_of Try.call67 Try.func67 rfl Try.ntmps67 Try.results67 rfl ?_
  refine wc_seq ?_
  refine wc_region ?_
  refine wl_val (v_assign' (by conv => (lhs; whnf))) rfl ?_
  refine wl_nil ?_
  refine then_go ?_
  refine wc_seq ?_
  refine wc_seq ?_
  refine wc_region ?_
  refine wl_val (v_move' (by conv => (lhs; whnf))) rfl ?_
  refine wl_val (v_eq_nilS Try.underlying27 rfl rfl) rfl ?_
  refine wl_nil ?_
  refine then_go ?_
  refine wc_cond rfl (fun h4 => ?_) (fun h4 => ?_)
  · refine wc_seq ?_
    refine wc_region ?_
    refine wl_val (v_assign' (by conv => (lhs; whnf))) rfl ?_
    refine wl_nil ?_
    refine then_go ?_
    refine wc_ret (then_ret ?_)
    have hL0 : L = [] := by
      obtain ⟨_, a', c', he, hk, hn, _⟩ := hv.row
      cases he
      have := hn (by simpa using h4)
      exact List.eq_nil_of_length_eq_zero (by omega)
    subst hL0
    have st : St m m [] wI _ [lsE 55 97 rtC (.slice none 0 0) []] := nilRow st 55 97
    have hf := St.finish (Es := []) (l := [_]) st
    exact ret1 (v := .slice none 0 0) rfl ⟨⟨hf.1.os, hf.1.tape, hf.1.output, hf.1.size, hf.1.block, fun k hk => hf.1.out k (by simpa [joinE] using hk)⟩, st.at (i := 0) rfl⟩
  · refine wc_skip ?_
    refine then_go ?_
    refine wc_seq ?_
    refine wc_region ?_
    refine wl_buildSlice0 Try.underlying27 TF.t55 st rfl ?_
    intro v5 w st
    refine wl_val (v_move' (by conv => (lhs; whnf))) rfl ?_
    refine wl_append (news := L.flatMap rtC) 0 st rfl Try.underlying27 Try.underlying27 (.inr ⟨_, rfl⟩) TF.t55 TF.z55 rfl rfl rfl (hv.row.src st.im (fun u hu => by obtain ⟨t, _, h⟩ := List.mem_flatMap.1 hu; exact one_rtC u h)) (by omega) (by omega) rfl ?_
    intro v7 w _ st
    have st : St m m [] wI w [lsE 55 97 rtC v7 L] := by
      have st2 : St m m [] wI w [rowE v7 55 97 (0 + L.length) ([] ++ L.flatMap rtC)] := st
      rw [Nat.zero_add, List.nil_append] at st2
      exact st2
    refine wl_val (v_assign' (by conv => (lhs; whnf))) rfl ?_
    refine wl_nil ?_
    refine then_go ?_
    refine wc_ret ?_
    have hf := St.finish (Es := []) (l := [_]) st
    exact ret1 (v := v7) rfl ⟨⟨hf.1.os, hf.1.tape, hf.1.output, hf.1.size, hf.1.block, fun k hk => hf.1.out k (by simpa [joinE] using hk)⟩, st.at (i := 0) rfl⟩

theorem c_own {v : Value} {x : Vw} (him : Im m wI) (hv : VwM m v x) (hL : x.roots.length ≤ 1000000) :
    Ret Try.prog 44 #[v] wI fun v' w' => ∃ rv, v' = .agg (vwC x.pin x.head rv).toArray ∧ Tch wI w' [] (lsE 55 97 rtC rv x.roots).foot ∧ (lsE 55 97 rtC rv x.roots).holds w' := by
  have st := St.start him
  obtain ⟨rv0, rfl, hrt, hp, hh, hok⟩ := hv
  refine ret_of Try.call44 Try.func44 rfl Try.ntmps44 Try.results44 rfl ?_
  refine wc_seq ?_
  refine wc_region ?_
  refine wl_box (v := .agg (vwC x.pin x.head rv0).toArray) rfl st rfl ?_
  intro b1 w st
  refine wl_alloc TF.z29 st rfl ?_
  intro b2 w st
  refine wl_nil ?_
  refine then_go ?_
  refine wc_seq ?_
  refine wc_region ?_
  refine wl_val (v_fa TF.f29_2 rfl) rfl ?_
  refine wl_val (v_load rfl (st.reads (v := rv0) 1 rfl TF.t27 (vw_r hp hh))) rfl ?_
  refine wl_call rfl (c_clone st.im hrt hL) rfl ?_
  rintro v5 w ⟨t5, hE⟩
  have st := st.new (E := lsE 55 97 rtC v5 x.roots) t5 hE
  have hone := row_one hE
  refine wl_val (v_fa TF.f29_2 rfl) rfl ?_
  refine wl_store1 2 st rfl TF.t27 rfl (by conv => (lhs; whnf)) hone (by rw [show (Value.agg (vwC x.pin x.head rv0).toArray).cells = (vwC x.pin x.head rv0).toArray from rfl, List.size_toArray, length_vwC hp hh]; decide) ?_
  intro w st
  rw [show (Value.agg (vwC x.pin x.head rv0).toArray).cells = (vwC x.pin x.head rv0).toArray from rfl, show 0 + 97 = 97 from rfl, set_vwR hp hh] at st
  refine wl_nil ?_
  refine then_go ?_
  refine wc_seq ?_
  refine wc_region ?_
  refine wl_val (v_load rfl (st.reads (v := .agg (vwC x.pin x.head v5).toArray) 2 rfl TF.t29 (getV_all (by rw [List.size_toArray, length_vwC hp hh])))) rfl ?_
  refine wl_storeW (cs := (vwC x.pin x.head v5).toArray) 1 st rfl TF.t29 rfl rfl (by rw [List.size_toArray, length_vwC hp hh]) rfl (fun u hu => one_vwC hone u (by simpa using hu)) ?_
  intro w st
  refine wl_nil ?_
  refine then_go ?_
  refine wc_ret ?_
  have hrd := st.reads (v := .agg (vwC x.pin x.head v5).toArray) 1 rfl TF.t29 (getV_all (by rw [List.size_toArray, length_vwC hp hh]))
  have st := st.keepOnly (l := [lsE 55 97 rtC v5 x.roots]) (by simp)
  have hf := St.finish (Es := []) (l := [_]) st
  exact ret1c rfl hrd ⟨v5, rfl, ⟨hf.1.os, hf.1.tape, hf.1.output, hf.1.size, hf.1.block, fun k hk => hf.1.out k (by simpa [joinE] using hk)⟩, st.at (i := 0) rfl⟩
end
end Go.Proofs.Ytjjpakjgppmmdaa
