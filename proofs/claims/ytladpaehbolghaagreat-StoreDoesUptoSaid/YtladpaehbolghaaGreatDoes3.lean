/-
  Several texts as one: Tb La Dp Ja Ba Jb Gb Jc Gc Zj Zk Bb Oa Jd Je Jf.
-/
import Derived.Shelf.SlSortCmp.NoneTotal
import Derived.Lib.Bytealg
import Derived.Test.YtladpaehbolghaaGreatDoes2

namespace Go.Proofs.YtladpaehbolghaaGreat
open Go Go.RowKit K SH
section
variable {P : Program} {n : Nat} {ops : Array Oper} {Q : Po} {rest : List Oper} {r : Fr} {w : World} {d : Nat} {ty : TypeId} {pos : String} {after : Array Edge} {m0 m : Mem} {F : List Nat} {w0 : World} {Es : List Ent}
theorem wl_pcs2 {x y : Operand} {v1 v2 : Value} {l1 l2 : List UInt8} (st : St m0 m [] w0 w Es) (hx : ev r x = v1) (hy : ev r y = v2) (h1 : SlM m v1 1 l1.length (bs l1)) (h2 : SlM m v2 1 l2.length (bs l2)) (hd : Nat.blt d n = true)
  (kk : ∀ m' v' w', (∀ k o, m k = some o → m' k = some o) → St m0 m' [] w0 w' Es → PcsM m' v' [(l1, v1), (l2, v2)] → WL Tryz.prog n ops Q rest (upd d v' r) w') :
  WL Tryz.prog n ops Q (⟨some d, .buildSlice 41 2 #[(0, x), (1, y)], ty, pos, after, none⟩ :: rest) r w := by
 have o1 : v1.oneCell' = true := by obtain ⟨_, a, c, rfl, _⟩ := h1; rfl
 have o2 : v2.oneCell' = true := by obtain ⟨_, a, c, rfl, _⟩ := h2; rfl
 refine wl_buildSlice (c' := #[v1, v2]) [(0, v1), (1, v2)] Tryz.underlying41 TF.t23 TF.z23 (by decide) (by decide) (by simp [hx, hy]) (fill_one [] [.slice none 0 0] [.slice none 0 0] (by rw [show (Value.slice none 0 0).cells = Array.replicate (0 + 1) (Value.slice none 0 0) from rfl, madeCells_rep]; rfl) rfl (by rw [cells_one o1]; rfl) ?_) st hd ?_
 ·rw [cells_one o1]
  refine fill_one [v1] [.slice none 0 0] [] rfl rfl (by rw [cells_one o2]; rfl) ?_
  rw [cells_one o2]
  rfl
 ·intro b w' st'
  obtain ⟨m1, hg1, hm1, st1⟩ := st'.freeze (i := 0) rfl (by simp)
  refine kk m1 _ w' hg1.le st1 ⟨SlM.of hm1 (by simp) (Nat.le_refl _) (fun j u hj => by simpa using hj), ?_⟩
  intro z hz
  simp only [List.mem_cons, List.not_mem_nil, or_false] at hz
  rcases hz with rfl | rfl
  ·exact h1.mono hg1.le
  ·exact h2.mono hg1.le
end
section
variable {m : Mem} {wI : World}
theorem c_join {pv : Value} {L : List (List UInt8 × Value)} (him : Im m wI) (hp : PcsM m pv L) (hb : (joinB L).length ≤ 1099511627776) (hLl : L.length ≤ 1099511627776) :
  Ret Tryz.prog 69 #[pv] wI fun v w' => Out m wI w' fun m' => SlM m' v 1 (joinB L).length (bs (joinB L)) := by
 have st := St.start him
 have hp0 := hp
 obtain ⟨⟨_, pa, pc, rfl, _⟩, _⟩ := hp
 refine ret_of Tryz.call69 Tryz.func69 rfl Tryz.ntmps69 Tryz.results69 rfl ?_
 refine wc_seq ?_
 refine wc_region ?_
 refine wl_val (v_assign' (by conv => (lhs; whnf))) rfl ?_
 refine wl_nil ?_
 refine then_go ?_
 refine wc_seq ?_
 refine wc_region ?_
 refine wl_val (v_assign' (by conv => (lhs; whnf))) rfl ?_
 refine wl_nil ?_
 refine then_go ?_
 refine wc_seq ?_
 refine wc_seq ?_
 refine wc_region ?_
 refine wl_val (v_assign' (by conv => (lhs; whnf))) rfl ?_
 refine wl_nil ?_
 refine then_go ?_
 refine wc_block ?_
 have st := nilRow st 5 1
 change St _ _ _ _ _ [rowE _ _ 1 (joinB (L.take 0)).length (bs (joinB (L.take 0)))] at st
 refine wc_loop (S := Nat) (fun q r w' => ∃ i v, q + i = L.length ∧ r 0 = .slice pa L.length pc ∧ r 3 = v ∧ r 4 = .int .i64 i ∧ St m m [] wI w' [rowE v 5 1 (joinB (L.take i)).length (bs (joinB (L.take i)))]) id L.length ⟨0, _, by omega, rfl, rfl, rfl, st⟩ ?_
 rintro q r w2 ⟨i, v, hqi, h0, h3, h4, st⟩
 refine wc_o 0 h0 (wc_o 3 h3 (wc_o 4 h4 ?_))
 refine wc_seq ?_
 refine wc_seq ?_
 refine wc_region ?_
 refine wl_val (v_move' (by conv => (lhs; whnf))) rfl ?_
 refine wl_val (v_move' (by conv => (lhs; whnf))) rfl ?_
 refine wl_val (v_len_s Tryz.underlying41 rfl) rfl ?_
 refine wl_val (v_lss rfl rfl) rfl ?_
 refine wl_nil ?_
 refine then_go ?_
 refine wc_if rfl (fun h8 => ?_) (fun h8 => ?_)
 ·refine wc_skip ?_
  refine then_go ?_
  refine wc_seq ?_
  refine wc_block ?_
  have hi : i < L.length := by omega
  have hjl2 := joinB_le (L := L) (i + 1)
  obtain ⟨lb, lo, lcap, hlv, hel, hrd⟩ := hp0.elem hi
  simp only [Value.slice.injEq] at hlv
  obtain ⟨hpa, _, _⟩ := hlv
  rw [hpa]
  rw [joinB_take hi, List.length_append] at hjl2
  refine wc_region ?_
  refine wl_val (v_move' (by conv => (lhs; whnf))) rfl ?_
  refine wl_val (v_move' (by conv => (lhs; whnf))) rfl ?_
  refine wl_val (v_move' (by conv => (lhs; whnf))) rfl ?_
  refine wl_val (v_ias i Tryz.underlying41 TF.t23 rfl rfl (by first | rfl | omega) (by first | omega | (dsimp only at *; omega))) rfl ?_
  refine wl_val (v_load rfl (hrd st.im)) rfl ?_
  refine wl_appB (l2 := L[i].1) st Tryz.underlying23 Tryz.underlying23 (.inr ⟨_, rfl⟩) TF.t5 TF.z5 rfl rfl (hel.src st.im (one_bs _)) (by omega) (by omega) rfl ?_
  intro v16 w st hv16
  refine wl_val (v_assign' (by conv => (lhs; whnf))) rfl ?_
  refine wl_nil ?_
  refine block_go (then_go ?_)
  refine wc_region ?_
  refine wl_val (v_move' (by conv => (lhs; whnf))) rfl ?_
  refine wl_val (v_add' rfl rfl rfl (by first | omega | (dsimp only at *; omega)) (by first | omega | (dsimp only at *; omega))) rfl ?_
  refine wl_val (v_assign' (by conv => (lhs; whnf))) rfl ?_
  refine wl_nil ?_
  refine then_go ?_
  refine ⟨q - 1, by simp; omega, i + 1, v16, by omega, rfl, rfl, rfl, ?_⟩
  rw [joinB_take hi]
  exact st
 ·refine wc_exit (then_exit (then_exit (block_hit ?_)))
  refine then_go ?_
  refine wc_seq ?_
  refine wc_region ?_
  refine wl_val (v_move' (by conv => (lhs; whnf))) rfl ?_
  refine wl_val (v_assign' (by conv => (lhs; whnf))) rfl ?_
  refine wl_nil ?_
  refine then_go ?_
  refine wc_ret ?_
  have hiL : i = L.length := by omega
  subst hiL
  rw [List.take_length] at st
  exact ret1 rfl st.bytesOut
theorem c_tagsof {bv : Value} {b : List UInt8} (him : Im m wI) (hb : SlM m bv 1 b.length (bs b)) (hl : b.length ≤ 1099511627776) :
  Ret Tryz.prog 93 #[bv] wI fun v w' => Tch wI w' [] [] ∧ v = arr (sum b) := by
 have st := St.start him
 refine ret_of Tryz.call93 Tryz.func93 rfl Tryz.ntmps93 Tryz.results93 rfl ?_
 refine wc_seq ?_
 refine wc_region ?_
 refine wl_alloc TF.z141 st rfl ?_
 intro b2 w st
 refine wl_nil ?_
 refine then_go ?_
 refine wc_seq ?_
 refine wc_region ?_
 refine wl_val (v_move' (by conv => (lhs; whnf))) rfl ?_
 refine wl_call rfl (c_sum st.im hb hl) rfl ?_
 rintro v4 w ⟨t, rfl⟩
 have st := st.pure t
 refine wl_storeW (cs := (bs (sum b)).toArray) 0 st rfl TF.t141 rfl rfl (by simp [bs, length_sum]) rfl (by simpa using one_bs _) ?_
 intro w st
 refine wl_nil ?_
 refine then_go ?_
 refine wc_ret ?_
 exact ret1c rfl (st.reads 0 rfl TF.t141 (getV_all (by simp [bs, length_sum]))) ⟨(st.keepOnly (l := []) (List.nil_sublist _)).touch, rfl⟩
theorem c_ref3of {bv : Value} {b : List UInt8} (him : Im m wI) (hb : SlM m bv 1 b.length (bs b)) (hl : b.length ≤ 1099511627776) :
  Ret Tryz.prog 100 #[bv] wI fun v w' => Tch wI w' [] [] ∧ v = arr (sum b) := by
 have st := St.start him
 refine ret_of Tryz.call100 Tryz.func100 rfl Tryz.ntmps100 Tryz.results100 rfl ?_
 refine wc_seq ?_
 refine wc_region ?_
 refine wl_alloc TF.z141 st rfl ?_
 intro b2 w st
 refine wl_nil ?_
 refine then_go ?_
 refine wc_seq ?_
 refine wc_region ?_
 refine wl_val (v_move' (by conv => (lhs; whnf))) rfl ?_
 refine wl_call rfl (c_rsum st.im hb hl) rfl ?_
 rintro v4 w ⟨t, rfl⟩
 have st := st.pure t
 refine wl_storeW (cs := (bs (sum b)).toArray) 0 st rfl TF.t141 rfl rfl (by simp [bs, length_sum]) rfl (by simpa using one_bs _) ?_
 intro w st
 refine wl_nil ?_
 refine then_go ?_
 refine wc_ret ?_
 exact ret1c rfl (st.reads 0 rfl TF.t141 (getV_all (by simp [bs, length_sum]))) ⟨(st.keepOnly (l := []) (List.nil_sublist _)).touch, rfl⟩
end
end Go.Proofs.YtladpaehbolghaaGreat

namespace Go.Proofs.YtladpaehbolghaaGreat
open Go Go.RowKit K SH
def num8 (n : UInt64) : List UInt8 := (List.range 8).map fun i => UInt8.ofNat (n.toNat / 2 ^ (56 - 8 * i))
theorem length_num8 (n : UInt64) : (num8 n).length = 8 := by simp [num8]
theorem fill_ones {z : Value} (hz : z.oneCell' = true) : ∀ (vs pre : List Value), (∀ v ∈ vs, v.oneCell' = true) →
  FillR (fun i => some (i * 1, 1)) (pre ++ List.replicate vs.length z).toArray ((vs.zipIdx pre.length).map fun p : Value × Nat => (p.2, p.1)) (pre ++ vs).toArray
 | [], pre, _ => by simp [FillR]
 | v :: vs, pre, h => by
  have hv := h v (by simp)
  simp only [List.zipIdx_cons, List.map_cons]
  refine fill_one pre [z] (List.replicate vs.length z) (by simp [List.replicate_succ]) (by simp) (by rw [cells_one hv]; rfl) ?_
  rw [cells_one hv]
  have ih := fill_ones hz vs (pre ++ [v]) fun u hu => h u (by simp [hu])
  simpa using ih
section
variable {P : Program} {n : Nat} {ops : Array Oper} {Q : Po} {rest : List Oper} {r : Fr} {w : World} {d : Nat} {ty : TypeId} {pos : String} {after : Array Edge} {m0 m : Mem} {F : List Nat} {w0 : World} {Es : List Ent}
theorem wl_pcsN {k : Nat} {parts : Array (Nat × Operand)} (L : List (List UInt8 × Value)) (st : St m0 m [] w0 w Es) (hk : L.length = k) (hk0 : 0 < k) (hk1 : k ≤ 1000) (hvs : (parts.toList.map fun p => (p.1, ev r p.2)) = ((L.map fun x => x.2).zipIdx.map fun p : Value × Nat => (p.2, p.1)))
  (hL : ∀ x ∈ L, SlM m x.2 1 x.1.length (bs x.1)) (hd : Nat.blt d n = true)
  (kk : ∀ m' v' w', (∀ k o, m k = some o → m' k = some o) → St m0 m' [] w0 w' Es → PcsM m' v' L → WL Tryz.prog n ops Q rest (upd d v' r) w') :
  WL Tryz.prog n ops Q (⟨some d, .buildSlice 41 k parts, ty, pos, after, none⟩ :: rest) r w := by
 have hone : ∀ v ∈ L.map (·.2), v.oneCell' = true := by
  intro v hv
  obtain ⟨x, hx, rfl⟩ := List.mem_map.1 hv
  obtain ⟨_, a, c, h, _⟩ := hL x hx
  rw [h]
  rfl
 have hfill := fill_ones (z := .slice none 0 0) rfl (L.map (·.2)) [] hone
 refine wl_buildSlice (c' := (L.map (·.2)).toArray) _ Tryz.underlying41 TF.t23 TF.z23 (by omega) (by omega) hvs ?_ st hd ?_
 ·have e : madeCells (Value.slice none 0 0).cells (k * 1) = ([] ++ List.replicate (L.map fun x : List UInt8 × Value => x.2).length (Value.slice none 0 0)).toArray := by
   rw [show (Value.slice none 0 0).cells = Array.replicate (0 + 1) (Value.slice none 0 0) from rfl, madeCells_rep]
   simp [hk]
  rw [e]
  exact hfill
 ·intro b w' st'
  obtain ⟨m1, hg1, hm1, st1⟩ := st'.freeze (i := 0) rfl (by simp)
  refine kk m1 _ w' hg1.le st1 ⟨?_, fun z hz => (hL z hz).mono hg1.le⟩
  rw [← hk]
  exact SlM.of hm1 (by simp) (Nat.le_refl _) (fun j u hj => by simpa using hj)
variable {T U : TypeId} {x y : Operand}
theorem v_quo64 {p q : UInt64} (hx : ev r x = u64 p) (hy : ev r y = u64 q) (h0 : 0 < q.toNat) : Val P (.binOp .quo T x y U) ty r w (u64 (p / q)) w := by
 have h := v_quo (P := P) (w := w) (ty := ty) (T := T) (U := U) hx hy (by omega)
 have e : IntKind.u64.wrap ((p.toNat : Int).tdiv q.toNat) = ((p / q).toNat : Int) := by
  rw [Int.tdiv_eq_ediv_of_nonneg (by omega), ← Int.natCast_ediv, wrap_u64_small, UInt64.toNat_div]
  exact Nat.lt_of_le_of_lt (Nat.div_le_self _ _) p.toNat_lt
 rw [e] at h
 exact h
end
section
variable {m : Mem} {wI : World}
theorem num8_at {n : UInt64} {k : Nat} (hk : k < 8) : UInt8.ofNat (UInt64.ofNat (n.toNat / 256 ^ k) % 256).toNat = (num8 n)[7 - k]'(by rw [length_num8]; omega) := by
 have e : 2 ^ (56 - 8 * (7 - k)) = 256 ^ k := by
  rw [show 56 - 8 * (7 - k) = 8 * k by omega, Nat.pow_mul]
 simp only [num8, List.getElem_map, List.getElem_range]
 rw [e, UInt64.toNat_mod, UInt64.toNat_ofNat', Nat.mod_eq_of_lt (Nat.lt_of_le_of_lt (Nat.div_le_self _ _) n.toNat_lt)]
 rw [← UInt8.toNat_inj, UInt8.toNat_ofNat', UInt8.toNat_ofNat']
 simp
theorem div_step {n : UInt64} {k : Nat} : UInt64.ofNat (n.toNat / 256 ^ k) / 256 = UInt64.ofNat (n.toNat / 256 ^ (k + 1)) := by
 rw [← UInt64.toNat_inj, UInt64.toNat_div, UInt64.toNat_ofNat', UInt64.toNat_ofNat', Nat.mod_eq_of_lt (Nat.lt_of_le_of_lt (Nat.div_le_self _ _) n.toNat_lt), Nat.mod_eq_of_lt (Nat.lt_of_le_of_lt (Nat.div_le_self _ _) n.toNat_lt), Nat.pow_succ]
 exact Nat.div_div_eq_div_mul _ _ _
theorem c_rnumber {n : UInt64} (him : Im m wI) : Ret Tryz.prog 103 #[u64 n] wI fun v w' => Out m wI w' fun m' => SlM m' v 1 (num8 n).length (bs (num8 n)) := by
 have st := St.start him
 refine ret_of Tryz.call103 Tryz.func103 rfl Tryz.ntmps103 Tryz.results103 rfl ?_
 refine wc_seq ?_
 refine wc_region ?_
 refine wl_val (v_assign' (by conv => (lhs; whnf))) rfl ?_
 refine wl_nil ?_
 refine then_go ?_
 refine wc_seq ?_
 refine wc_region ?_
 refine wl_make (l := 8) (c := 8) Tryz.underlying23 TF.t5 TF.z5 rfl rfl rfl rfl (by omega) (by omega) (by omega) (by omega) st rfl ?_
 intro b5 w st
 have st : St m m [] wI w [K.blk b5 (List.replicate 8 (u8 0) ++ bs ((num8 n).drop 8)).toArray 5] := by
  have e : madeCells (Value.int .u8 0).cells (8 * 1) = (List.replicate 8 (u8 0)).toArray := by
   rw [show (Value.int .u8 0).cells = Array.replicate (0 + 1) (Value.int .u8 0) from rfl, madeCells_rep]
   rfl
  rw [List.drop_eq_nil_of_le (by rw [length_num8]; omega)]
  rw [e] at st
  simpa [bs] using st
 refine wl_val (v_assign' (by conv => (lhs; whnf))) rfl ?_
 refine wl_nil ?_
 refine then_go ?_
 refine wc_seq ?_
 refine wc_seq ?_
 refine wc_region ?_
 refine wl_val (v_assign' (by conv => (lhs; whnf))) rfl ?_
 refine wl_nil ?_
 refine then_go ?_
 refine wc_block ?_
 refine wc_loop (S := Nat) (fun q r w' => ∃ (k : Nat), q + k = 8 ∧ r 0 = u64 (UInt64.ofNat (n.toNat / 256 ^ k)) ∧ r 3 = .slice (some ⟨b5, 0, none⟩) 8 8 ∧ r 4 = .int .i64 (7 - (k : Int)) ∧ St m m [] wI w' [K.blk b5 (List.replicate (8 - k) (u8 0) ++ bs ((num8 n).drop (8 - k))).toArray 5]) id 8 ⟨0, rfl, by rw [Nat.pow_zero, Nat.div_one, UInt64.ofNat_toNat]; rfl, rfl, rfl, st⟩ ?_
 rintro q r w2 ⟨k, hqk, h0, h3, h4, st⟩
 refine wc_o 0 h0 (wc_o 3 h3 (wc_o 4 h4 ?_))
 refine wc_seq ?_
 refine wc_seq ?_
 refine wc_region ?_
 refine wl_val (v_move' (by conv => (lhs; whnf))) rfl ?_
 refine wl_val (v_geq rfl rfl) rfl ?_
 refine wl_nil ?_
 refine then_go ?_
 refine wc_if rfl (fun h7 => ?_) (fun h7 => ?_)
 ·refine wc_skip ?_
  refine then_go ?_
  refine wc_seq ?_
  refine wc_block ?_
  refine wc_seq ?_
  have hk : k < 8 := by omega
  have hb := num8_at (n := n) hk
  have hq := div_step (n := n) (k := k)
  have hni : 7 - k < (num8 n).length := by rw [length_num8]; omega
  refine wc_region ?_
  refine wl_val (v_move' (by conv => (lhs; whnf))) rfl ?_
  refine wl_val (v_move' (by conv => (lhs; whnf))) rfl ?_
  refine wl_val (v_move' (by conv => (lhs; whnf))) rfl ?_
  refine wl_val (v_rem64 (q := 256) rfl rfl (by decide)) rfl ?_
  refine wl_val (v_conv64_8 Tryz.underlying47 Tryz.underlying5 rfl) rfl ?_
  refine wl_val (v_ias (7 - k) Tryz.underlying23 TF.t5 rfl rfl (by first | rfl | omega) (by first | omega | (dsimp only at *; omega))) rfl ?_
  refine wl_store1 (off := 0 + (7 - k) * 1) 0 st rfl TF.t5 rfl (by conv => (lhs; whnf)) rfl (by simp [length_bs, length_num8]; omega) ?_
  intro w st
  refine wl_nil ?_
  refine then_go ?_
  refine wc_region ?_
  refine wl_val (v_move' (by conv => (lhs; whnf))) rfl ?_
  refine wl_val (v_quo64 (q := 256) rfl rfl (by decide)) rfl ?_
  refine wl_val (v_assign' (by conv => (lhs; whnf))) rfl ?_
  refine wl_nil ?_
  refine block_go (then_go ?_)
  refine wc_region ?_
  refine wl_val (v_move' (by conv => (lhs; whnf))) rfl ?_
  refine wl_val (v_sub' (c := 7 - ((k + 1 : Nat) : Int)) rfl rfl (by omega) (by omega) (by omega)) rfl ?_
  refine wl_val (v_assign' (by conv => (lhs; whnf))) rfl ?_
  refine wl_nil ?_
  refine then_go ?_
  refine ⟨q - 1, by simp; omega, k + 1, by omega, by rw [← hq]; rfl, rfl, rfl, ?_⟩
  have e8 : 8 - k = (7 - k) + 1 := by omega
  rw [e8, List.replicate_succ'] at st
  change St _ _ _ _ _ [K.blk b5 (((List.replicate (7 - k) (u8 0) ++ [u8 0] ++ bs ((num8 n).drop (7 - k + 1))).toArray).setIfInBounds (0 + (7 - k) * 1) (u8 _)) _] at st
  rw [List.append_assoc, List.singleton_append, set_app (by simp), hb] at st
  rw [show 8 - (k + 1) = 7 - k by omega, List.drop_eq_getElem_cons hni]
  exact st
 ·refine wc_exit (then_exit (then_exit (block_hit ?_)))
  refine then_go ?_
  refine wc_seq ?_
  refine wc_region ?_
  refine wl_val (v_move' (by conv => (lhs; whnf))) rfl ?_
  refine wl_val (v_assign' (by conv => (lhs; whnf))) rfl ?_
  refine wl_nil ?_
  refine then_go ?_
  refine wc_ret ?_
  have hk8 : k = 8 := by omega
  subst hk8
  obtain ⟨m1, hg1, hm1, st⟩ := st.freeze (i := 0) rfl (by simp)
  have hs : SlM m1 (.slice (some ⟨b5, 0, none⟩) 8 8) 1 (num8 n).length (bs (num8 n)) := by
   have := SlM.ofBlock (o := 0) (cap := 8) (l := num8 n) (pre := []) (post := []) hm1 (by simp) rfl (by rw [length_num8]; omega)
   rw [length_num8] at this ⊢
   exact this
  exact ret1 rfl ((st.keepOnly (l := []) (List.nil_sublist _)).out hs)
structure Rt where
 epoch : UInt64
 prev : List UInt8
 tree : List UInt8
 next : List UInt8
deriving DecidableEq
def Rt.ok (t : Rt) : Prop := t.prev.length = 32 ∧ t.tree.length = 32 ∧ t.next.length = 32
end
end Go.Proofs.YtladpaehbolghaaGreat

namespace Go.Proofs.YtladpaehbolghaaGreat
namespace DK
abbrev By := List UInt8
def splice (S : By) (o : Nat) (l : By) : By := S.take o ++ l ++ S.drop (o + l.length)
theorem length_splice {S l : By} {o : Nat} (h : o + l.length ≤ S.length) : (splice S o l).length = S.length := by
 simp [splice]; omega
def sec (S : By) (i : Nat) : By := (S.drop (64 * i)).take 64
structure DS where
 S : By
 wt : List (Nat × By)
 fuse : Int
 down : Bool
structure DS.ok (d : DS) (n : Nat) : Prop where
 pos : 1 ≤ n
 len : d.S.length = 64 * n
 le : n ≤ 16384
 wt : ∀ x ∈ d.wt, x.1 < n ∧ x.2.length = 64
def dump (d : DS) : By := d.wt.foldl (fun S x => splice S (64 * x.1) x.2) d.S
def burn (d : DS) : DS := { d with down := decide (d.fuse = 0), fuse := if 0 < d.fuse then d.fuse - 1 else d.fuse }
def writeD (d : DS) (n : Nat) (i : Int) (l : By) : DS × Int :=
 if d.down then (d, 14) else if i < 0 ∨ i ≥ n then (d, 2) else if l.length ≠ 64 then (d, 1) else
  let d' := burn { d with wt := d.wt ++ [(i.toNat, l)] }
  (d', if d'.down then 14 else 0)
def syncD (d : DS) : DS × Int :=
 if d.down then (d, 14) else if d.fuse = 0 then (burn d, 14) else ({ burn d with S := dump d, wt := [] }, 0)
def newD (n : Nat) : DS := ⟨List.replicate (64 * n) 0, [], -1, false⟩
theorem splice_nil (S : By) (o : Nat) : splice S o [] = S := by simp [splice]
end DK
end Go.Proofs.YtladpaehbolghaaGreat

namespace Go.Proofs.YtladpaehbolghaaGreat
open Go Go.RowKit K SH DK
namespace JR
def pad64 (l : By) : By := l ++ List.replicate ((64 - l.length % 64) % 64) 0
def recL (n : Nat) : Nat := (n + 120) / 64 * 64
theorem length_pad64 (l : By) : (pad64 l).length = (l.length + 63) / 64 * 64 := by
 simp only [pad64, List.length_append, List.length_replicate]
 omega
def headB (g : UInt64) : By := pad64 (72 :: (num8 g ++ sum (72 :: num8 g)))
def textB (g s : UInt64) (b : By) : By := 74 :: (num8 g ++ (num8 s ++ b))
def recB (g s : UInt64) (b : By) : By := pad64 (74 :: (num8 g ++ (num8 s ++ (sum (textB g s b) ++ (num8 (UInt64.ofNat b.length) ++ b)))))
theorem length_headB (g : UInt64) : (headB g).length = 64 := by
 rw [headB, length_pad64]
 simp [length_num8, length_sum]
theorem length_textB (g s : UInt64) (b : By) : (textB g s b).length = 17 + b.length := by
 simp [textB, length_num8]; omega
theorem length_recB (g s : UInt64) (b : By) : (recB g s b).length = recL b.length := by
 rw [recB, length_pad64, recL]
 simp only [List.length_cons, List.length_append, length_num8, length_sum]
 omega
def rdN (b : By) : Nat := (b.take 8).foldl (fun n c => n * 256 + c.toNat) 0
def rd8 (b : By) : UInt64 := (b.take 8).foldl (fun n c => n * 256 + UInt64.ofNat c.toNat) 0
theorem fold_rd : ∀ (l : By) (n : Nat) (m : UInt64), m = UInt64.ofNat n → l.foldl (fun n c => n * 256 + UInt64.ofNat c.toNat) m = UInt64.ofNat (l.foldl (fun n c => n * 256 + c.toNat) n)
 | [], _, _, h => h
 | c :: l, n, m, h => by
  refine fold_rd l _ _ ?_
  rw [h, ← UInt64.toNat_inj]
  simp
theorem rd8_eq (b : By) : rd8 b = UInt64.ofNat (rdN b) := fold_rd _ 0 0 rfl
theorem num8_list (g : UInt64) : num8 g = [UInt8.ofNat (g.toNat / 2 ^ 56), UInt8.ofNat (g.toNat / 2 ^ 48), UInt8.ofNat (g.toNat / 2 ^ 40), UInt8.ofNat (g.toNat / 2 ^ 32), UInt8.ofNat (g.toNat / 2 ^ 24), UInt8.ofNat (g.toNat / 2 ^ 16), UInt8.ofNat (g.toNat / 2 ^ 8), UInt8.ofNat (g.toNat / 2 ^ 0)] := rfl
theorem rd8_num8 (g : UInt64) (t : By) : rd8 (num8 g ++ t) = g := by
 have e : (num8 g ++ t).take 8 = num8 g := List.take_left' (length_num8 g)
 have hg := g.toNat_lt
 rw [rd8_eq, rdN, e, num8_list]
 simp only [List.foldl_cons, List.foldl_nil, UInt8.toNat_ofNat']
 rw [← UInt64.toNat_inj, UInt64.toNat_ofNat']
 omega
def nextF (g s : UInt64) (b : By) : Option By :=
 if b.length < 64 then none else
 if (rd8 (b.drop 49)).toNat < 1 ∨ b.length - 57 < (rd8 (b.drop 49)).toNat then none else
 if (recB g s ((b.drop 57).take (rd8 (b.drop 49)).toNat)).length ≤ b.length ∧ recB g s ((b.drop 57).take (rd8 (b.drop 49)).toNat) = b.take (recB g s ((b.drop 57).take (rd8 (b.drop 49)).toNat)).length then some ((b.drop 57).take (rd8 (b.drop 49)).toNat) else none
theorem nextF_len {g s : UInt64} {b x : By} (h : nextF g s b = some x) : 1 ≤ x.length ∧ recL x.length ≤ b.length ∧ b.take (recL x.length) = recB g s x ∧ 64 ≤ recL x.length ∧ x.length ≤ b.length := by
 unfold nextF at h
 split at h
 ·cases h
 ·split at h
  ·cases h
  ·split at h
   ·rename_i h1 h2 h3
    cases h
    have hl : ((b.drop 57).take (rd8 (b.drop 49)).toNat).length = (rd8 (b.drop 49)).toNat := by rw [List.length_take, List.length_drop]; omega
    rw [length_recB] at h3
    refine ⟨by omega, h3.1, h3.2.symm, ?_, by omega⟩
    rw [hl, recL]
    omega
   ·cases h
theorem nextF_rec {g s : UInt64} {x t : By} (h1 : 1 ≤ x.length) (h2 : x.length < 18446744073709551616) : nextF g s (recB g s x ++ t) = some x := by
 have hlen : (recB g s x ++ t).length = recL x.length + t.length := by rw [List.length_append, length_recB]
 have hn : (UInt64.ofNat x.length).toNat = x.length := by rw [UInt64.toNat_ofNat', Nat.mod_eq_of_lt h2]
 obtain ⟨z, hz⟩ : ∃ z, recB g s x = 74 :: (num8 g ++ (num8 s ++ (sum (textB g s x) ++ (num8 (UInt64.ofNat x.length) ++ (x ++ z))))) := ⟨_, by simp only [recB, pad64, List.cons_append, List.append_assoc]; rfl⟩
 have e49 : (recB g s x ++ t).drop 49 = num8 (UInt64.ofNat x.length) ++ (x ++ (z ++ t)) := by
  rw [hz]
  have e : (74 :: (num8 g ++ (num8 s ++ (sum (textB g s x) ++ (num8 (UInt64.ofNat x.length) ++ (x ++ z)))))) ++ t = (74 :: (num8 g ++ (num8 s ++ sum (textB g s x)))) ++ (num8 (UInt64.ofNat x.length) ++ (x ++ (z ++ t))) := by simp
  rw [e]
  exact List.drop_left' (by simp [length_num8, length_sum])
 have e57 : (recB g s x ++ t).drop 57 = x ++ (z ++ t) := by
  have : (recB g s x ++ t).drop 57 = ((recB g s x ++ t).drop 49).drop 8 := by rw [List.drop_drop]
  rw [this, e49]
  exact List.drop_left' (length_num8 _)
 have er : rd8 ((recB g s x ++ t).drop 49) = UInt64.ofNat x.length := by rw [e49]; exact rd8_num8 _ _
 have ex : ((recB g s x ++ t).drop 57).take (rd8 ((recB g s x ++ t).drop 49)).toNat = x := by rw [er, hn, e57]; exact List.take_left' rfl
 unfold nextF
 rw [if_neg (by rw [hlen, recL]; omega), if_neg (by rw [er, hn, hlen, recL]; omega), ex, if_pos ⟨by rw [hlen, length_recB]; omega, by rw [List.take_left' rfl]⟩]
theorem nextF_zero {g s : UInt64} {b : By} (h : (rd8 (b.drop 49)).toNat = 0) : nextF g s b = none := by
 unfold nextF
 split
 ·rfl
 ·rw [if_pos (by omega)]
theorem nextF_short {g s : UInt64} {b : By} (h : b.length < 64) : nextF g s b = none := by
 unfold nextF
 rw [if_pos h]
theorem rd8_zero {k : Nat} : rd8 (List.replicate k 0) = 0 := by
 rw [rd8, List.take_replicate]
 induction min 8 k with
 | zero => rfl
 | succ n ih => rw [List.replicate_succ, List.foldl_cons]; exact ih
def recsF (g : UInt64) : Nat → Nat → By → List By
 | 0, _, _ => []
 | f + 1, k, b => match nextF g (UInt64.ofNat k) b with
  | none => []
  | some x => x :: recsF g f (k + 1) (b.drop (recL x.length))
theorem recsF_none {g : UInt64} {f k : Nat} {b : By} (h : nextF g (UInt64.ofNat k) b = none) : recsF g f k b = [] := by
 cases f with
 | zero => rfl
 | succ f => rw [recsF, h]
theorem recsF_some {g : UInt64} {f k : Nat} {b x : By} (h : nextF g (UInt64.ofNat k) b = some x) : recsF g (f + 1) k b = x :: recsF g f (k + 1) (b.drop (recL x.length)) := by rw [recsF, h]
def sizeL (l : List By) : Nat := (l.map fun x => recL x.length).sum
theorem sizeL_snoc {l : List By} {x : By} : sizeL (l ++ [x]) = sizeL l + recL x.length := by simp [sizeL]
theorem sizeL_cons {l : List By} {x : By} : sizeL (x :: l) = recL x.length + sizeL l := by simp [sizeL]
theorem sizeL_ge {l : List By} : l.length * 64 ≤ sizeL l := by
 induction l with
 | nil => simp
 | cons x l ih => rw [sizeL_cons, List.length_cons]; unfold recL; omega
theorem sizeL_mod {l : List By} : sizeL l % 64 = 0 := by
 induction l with
 | nil => rfl
 | cons x l ih => rw [sizeL_cons]; unfold recL; omega
def recs (g : UInt64) (half : By) : List By := recsF g half.length 0 (half.drop 64)
def allB (g : UInt64) : Nat → List By → By
 | _, [] => []
 | k, x :: l => recB g (UInt64.ofNat k) x ++ allB g (k + 1) l
theorem length_allB {g : UInt64} : ∀ {k : Nat} {l : List By}, (allB g k l).length = sizeL l
 | _, [] => rfl
 | k, x :: l => by rw [allB, List.length_append, length_recB, length_allB, sizeL_cons]
theorem allB_snoc {g : UInt64} : ∀ {k : Nat} {l : List By} {x : By}, allB g k (l ++ [x]) = allB g k l ++ recB g (UInt64.ofNat (k + l.length)) x
 | k, [], x => by simp [allB]
 | k, y :: l, x => by
  rw [List.cons_append, allB, allB, allB_snoc, List.append_assoc, List.length_cons, show k + 1 + l.length = k + (l.length + 1) by omega]
def Okr (l : List By) : Prop := ∀ x ∈ l, 1 ≤ x.length ∧ x.length ≤ 1048576
theorem recs_all {g : UInt64} : ∀ {l : List By} {f k : Nat} {t : By}, (∀ x ∈ l, 1 ≤ x.length ∧ x.length < 18446744073709551616) → nextF g (UInt64.ofNat (k + l.length)) t = none → l.length ≤ f → recsF g f k (allB g k l ++ t) = l
 | [], f, k, t, _, ht, _ => recsF_none ht
 | x :: l, f, k, t, hl, ht, hf => by
  obtain ⟨f, rfl⟩ : ∃ f', f = f' + 1 := ⟨f - 1, by simp at hf; omega⟩
  obtain ⟨h1, h2⟩ := hl x List.mem_cons_self
  rw [allB, List.append_assoc, recsF_some (nextF_rec h1 h2), List.drop_left' (length_recB _ _ _)]
  rw [recs_all (fun y hy => hl y (List.mem_cons_of_mem _ hy)) (by rw [show k + 1 + l.length = k + (x :: l).length by simp; omega]; exact ht) (by simp at hf; omega)]
theorem recs_there {g : UInt64} : ∀ {f k : Nat} {b : By}, b.length ≤ f → sizeL (recsF g f k b) ≤ b.length ∧ b.take (sizeL (recsF g f k b)) = allB g k (recsF g f k b) ∧ nextF g (UInt64.ofNat (k + (recsF g f k b).length)) (b.drop (sizeL (recsF g f k b))) = none ∧ ∀ x ∈ recsF g f k b, 1 ≤ x.length ∧ x.length ≤ b.length
 | 0, k, b, hb => by
  have : b = [] := List.eq_nil_of_length_eq_zero (by omega)
  subst this
  exact ⟨Nat.le_refl _, rfl, nextF_short (by simp), by simp [recsF]⟩
 | f + 1, k, b, hb => by
  cases h : nextF g (UInt64.ofNat k) b with
  | none =>
   rw [recsF_none h]
   exact ⟨Nat.zero_le _, rfl, by simpa [sizeL] using h, by simp⟩
  | some x =>
   rw [recsF_some h]
   obtain ⟨h1, h2, h3, h4, h5⟩ := nextF_len h
   obtain ⟨i1, i2, i3, i4⟩ := recs_there (g := g) (f := f) (k := k + 1) (b := b.drop (recL x.length)) (by rw [List.length_drop]; omega)
   rw [List.length_drop] at i1 i4
   rw [sizeL_cons]
   refine ⟨by omega, ?_, ?_, fun y hy => ?_⟩
   ·rw [allB, List.take_add, h3, i2]
   ·rw [← List.drop_drop, List.length_cons, show k + ((recsF g f (k + 1) (b.drop (recL x.length))).length + 1) = k + 1 + (recsF g f (k + 1) (b.drop (recL x.length))).length by omega]
    exact i3
   ·rcases List.mem_cons.1 hy with rfl | hy
    ·exact ⟨h1, h5⟩
    ·have := i4 y hy; exact ⟨this.1, by omega⟩
def begF (h : By) : UInt64 := if 0 < (rd8 (h.drop 1)).toNat ∧ h.take 64 = headB (rd8 (h.drop 1)) then rd8 (h.drop 1) else 0
theorem begF_head {g : UInt64} {t : By} (h : 0 < g.toNat) : begF (headB g ++ t) = g := by
 obtain ⟨z, hz⟩ : ∃ z, headB g = 72 :: (num8 g ++ z) := ⟨_, by simp only [headB, pad64, List.cons_append, List.append_assoc]; rfl⟩
 have e : rd8 ((headB g ++ t).drop 1) = g := by
  rw [hz, List.cons_append, List.drop_succ_cons, List.drop_zero, List.append_assoc]
  exact rd8_num8 _ _
 unfold begF
 rw [e, if_pos ⟨h, List.take_left' (length_headB g)⟩]
theorem begF_is {h : By} {g : UInt64} (hb : begF h = g) (h0 : 0 < g.toNat) : h.take 64 = headB g := by
 unfold begF at hb
 split at hb
 ·rename_i h1
  rw [← hb]
  exact h1.2
 ·rw [← hb] at h0; exact absurd h0 (by decide)
def halfB (b : By) (n k : Nat) : By := (b.drop (k * n)).take n
def pickF (b : By) (n : Nat) : Nat × UInt64 := if begF (halfB b n 0) < begF (halfB b n 1) then (1, begF (halfB b n 1)) else (0, begF (halfB b n 0))
def readF (b : By) : UInt64 × List By × Nat :=
 if b.length % 64 ≠ 0 ∨ b.length < 512 then (0, [], 1) else
 if (pickF b (b.length / 64 / 2 * 64)).2 = 0 then (0, [], 0) else
 ((pickF b (b.length / 64 / 2 * 64)).2, recs (pickF b (b.length / 64 / 2 * 64)).2 (halfB b (b.length / 64 / 2 * 64) (pickF b (b.length / 64 / 2 * 64)).1), 0)
end JR
end Go.Proofs.YtladpaehbolghaaGreat

namespace Go.Proofs.YtladpaehbolghaaGreat
open Go Go.RowKit K SH
theorem ret3 {P : Program} {R : Value → World → Prop} {r : Fr} {w : World} {t u s : Nat} {v v' v'' : Value} (ht : r t = v) (hu : r u = v') (hs : r s = v'') (h : R (.tuple #[v, v', v'']) w) : bodyQ P [.tmp t, .tmp u, .tmp s] R .ret r w :=
 ⟨[v, v', v''], ⟨ht, hu, hs, trivial⟩, h⟩
section
variable {m : Mem} {wI : World}
theorem c_same17 {av bv : Value} {a b : List UInt8} (him : Im m wI) (ha : SlM m av 1 a.length (bs a)) (hb : SlM m bv 1 b.length (bs b)) :
  Ret Tryz.prog 15 #[av, bv] wI fun v w' => Tch wI w' [] [] ∧ v = .bool (decide (a = b)) := by
 refine ret_of Tryz.call15 Tryz.func15 rfl Tryz.ntmps15 Tryz.results15 rfl ?_
 refine wc_seq ?_
 refine wc_region ?_
 refine wl_val (v_assign' (by conv => (lhs; whnf))) rfl ?_
 refine wl_nil ?_
 refine then_go ?_
 refine wc_seq ?_
 refine wc_region ?_
 refine wl_val (v_move' (by conv => (lhs; whnf))) rfl ?_
 refine wl_val (v_b2s Tryz.underlying23 Tryz.underlying5 Tryz.underlying9 him ha rfl) rfl ?_
 refine wl_val (v_move' (by conv => (lhs; whnf))) rfl ?_
 refine wl_val (v_b2s Tryz.underlying23 Tryz.underlying5 Tryz.underlying9 him hb rfl) rfl ?_
 refine wl_val (v_eqs rfl rfl) rfl ?_
 refine wl_val (v_assign' (by conv => (lhs; whnf))) rfl ?_
 refine wl_nil ?_
 refine then_go ?_
 refine wc_ret ?_
 exact ret1 rfl ⟨Tch.refl _ _, rfl⟩
theorem c_sametexts {av bv : Value} {A B : List (List UInt8 × Value)} (him : Im m wI) (ha : PcsM m av A) (hb : PcsM m bv B) (hAB : A.map (·.1) = B.map (·.1)) (hA : A.length ≤ 1000000000) :
  Ret Tryz.prog 59 #[av, bv] wI fun v w' => Tch wI w' [] [] ∧ v = .bool true := by
 have st := St.start him
 have hlen : A.length = B.length := by have := congrArg List.length hAB; simpa using this
 obtain ⟨na, nc, hlv⟩ : ∃ a c, av = .slice a A.length c := by obtain ⟨⟨_, a, c, h, _⟩, _⟩ := ha; exact ⟨a, c, h⟩
 obtain ⟨nb, nd, hlb⟩ : ∃ a c, bv = .slice a B.length c := by obtain ⟨⟨_, a, c, h, _⟩, _⟩ := hb; exact ⟨a, c, h⟩
 subst hlv hlb
 refine ret_of Tryz.call59 Tryz.func59 rfl Tryz.ntmps59 Tryz.results59 rfl ?_
 refine wc_seq ?_
 refine wc_region ?_
 refine wl_val (v_assign' (by conv => (lhs; whnf))) rfl ?_
 refine wl_nil ?_
 refine then_go ?_
 refine wc_seq ?_
 refine wc_seq ?_
 refine wc_region ?_
 refine wl_val (v_move' (by conv => (lhs; whnf))) rfl ?_
 refine wl_val (v_len_s Tryz.underlying41 rfl) rfl ?_
 refine wl_val (v_move' (by conv => (lhs; whnf))) rfl ?_
 refine wl_val (v_len_s Tryz.underlying41 rfl) rfl ?_
 refine wl_val (v_neqF (a := (A.length : Int)) (b := (B.length : Int)) (by omega) rfl rfl) rfl ?_
 refine wl_nil ?_
 refine then_go ?_
 refine wc_false rfl ?_
 refine wc_skip ?_
 refine then_go ?_
 refine wc_seq ?_
 refine wc_seq ?_
 refine wc_region ?_
 refine wl_val (v_assign' (by conv => (lhs; whnf))) rfl ?_
 refine wl_nil ?_
 refine then_go ?_
 refine wc_block ?_
 refine wc_loop (S := Nat) (fun q r w' => ∃ (i : Nat), q + i = A.length ∧ r 0 = .slice na A.length nc ∧ r 1 = .slice nb B.length nd ∧ r 5 = .int .i64 i ∧ St m m [] wI w' []) id A.length ⟨0, by omega, rfl, rfl, rfl, st⟩ ?_
 clear st
 rintro q r w2 ⟨i, hqi, g0, g1, g5, st⟩
 refine wc_o 0 g0 (wc_o 1 g1 (wc_o 5 g5 ?_))
 refine wc_seq ?_
 refine wc_seq ?_
 refine wc_region ?_
 refine wl_val (v_move' (by conv => (lhs; whnf))) rfl ?_
 refine wl_val (v_move' (by conv => (lhs; whnf))) rfl ?_
 refine wl_val (v_len_s Tryz.underlying41 rfl) rfl ?_
 refine wl_val (v_lss rfl rfl) rfl ?_
 refine wl_nil ?_
 refine then_go ?_
 refine wc_if rfl (fun h14 => ?_) (fun h14 => ?_)
 ·refine wc_skip ?_
  refine then_go ?_
  refine wc_seq ?_
  refine wc_block ?_
  refine wc_seq ?_
  have hi : i < A.length := by omega
  have hj : i < B.length := by omega
  obtain ⟨ab, ao, _, hav, hs0, hra⟩ := ha.elem hi
  obtain ⟨bb, bo, _, hbv, hs1, hrb⟩ := hb.elem hj
  cases hav
  cases hbv
  have heq : A[i].1 = B[i].1 := by
   have := congrArg (fun l => l[i]?) hAB
   simpa [hi, hj] using this
  refine wc_draw TF.mixed ?_
  have st := st.pure (touch_drew _)
  refine fl_val 0 rfl (fun _ => (v_move' (by conv => (lhs; whnf)))) rfl (by kernel_rfl) ?_
  refine fl_val 1 rfl (fun _ => (v_move' (by conv => (lhs; whnf)))) rfl (by kernel_rfl) ?_
  refine fl_val 2 rfl (fun _ => (v_ias i Tryz.underlying41 TF.t23 rfl rfl (by first | rfl | omega) (by first | omega | (dsimp only at *; omega)))) rfl (by kernel_rfl) ?_
  refine fl_ld 3 rfl (v_load rfl (hra st.im)) (by kernel_rfl) ?_
  refine fl_val 4 rfl (fun _ => (v_move' (by conv => (lhs; whnf)))) rfl (by kernel_rfl) ?_
  refine fl_val 5 rfl (fun _ => (v_move' (by conv => (lhs; whnf)))) rfl (by kernel_rfl) ?_
  refine fl_val 6 rfl (fun _ => (v_ias i Tryz.underlying41 TF.t23 rfl rfl (by first | rfl | omega) (by first | omega | (dsimp only at *; omega)))) rfl (by kernel_rfl) ?_
  refine fl_ld 7 rfl (v_load rfl (hrb st.im)) (by kernel_rfl) ?_
  refine fl_eff1 8 [6, 5, 4, 2, 1, 0] [] (by kernel_rfl) ⟨obl_ld rfl rfl rfl (v_load rfl (hrb st.im)), obl_ld rfl rfl rfl (v_load rfl (hra st.im)), trivial⟩ rfl ?_
  refine wl_call rfl (c_same17 st.im hs0 hs1) rfl ?_
  rintro v25 w ⟨t25, rfl⟩
  have st := st.pure t25
  refine wl_nil ⟨rfl, ?_⟩
  refine fl_val 9 rfl (fun _ => (v_not rfl)) rfl (by kernel_rfl) ?_
  refine fl_nil (by kernel_rfl) trivial ?_
  refine then_go ?_
  refine wc_false (by rw [heq]; simp; rfl) ?_
  refine wc_skip ?_
  refine block_go (then_go ?_)
  refine wc_region ?_
  refine wl_val (v_move' (by conv => (lhs; whnf))) rfl ?_
  refine wl_val (v_add' (c := ((i + 1 : Nat) : Int)) rfl rfl (by omega) (by omega) (by omega)) rfl ?_
  refine wl_val (v_assign' (by conv => (lhs; whnf))) rfl ?_
  refine wl_nil ?_
  refine then_go ?_
  exact ⟨q - 1, by simp; omega, i + 1, by omega, rfl, rfl, rfl, st⟩
 ·refine wc_exit (then_exit (then_exit (block_hit ?_)))
  refine then_go ?_
  refine wc_seq ?_
  refine wc_region ?_
  refine wl_val (v_assign' (by conv => (lhs; whnf))) rfl ?_
  refine wl_nil ?_
  refine then_go ?_
  refine wc_ret ?_
  exact ret1 rfl ⟨st.touch, rfl⟩
theorem c_bclone {v : Value} {l : List UInt8} (him : Im m wI) (hv : SlM m v 1 l.length (bs l)) (hL : l.length ≤ 1099511627776) :
  Ret Tryz.prog 62 #[v] wI fun v' w' => Out m wI w' fun m' => SlM m' v' 1 l.length (bs l) := by
 have st := St.start him
 obtain ⟨_, a, cap, rfl, _⟩ := id hv
 refine ret_of Tryz.call62 Tryz.func62 rfl Tryz.ntmps62 Tryz.results62 rfl ?_
 refine wc_seq ?_
 refine wc_region ?_
 refine wl_val (v_assign' (by conv => (lhs; whnf))) rfl ?_
 refine wl_nil ?_
 refine then_go ?_
 refine wc_seq ?_
 refine wc_seq ?_
 refine wc_region ?_
 refine wl_val (v_move' (by conv => (lhs; whnf))) rfl ?_
 refine wl_val (v_eq_nilS Tryz.underlying23 rfl rfl) rfl ?_
 refine wl_nil ?_
 refine then_go ?_
 refine wc_cond rfl (fun h4 => ?_) (fun h4 => ?_)
 ·refine wc_seq ?_
  refine wc_region ?_
  refine wl_val (v_assign' (by conv => (lhs; whnf))) rfl ?_
  refine wl_nil ?_
  refine then_go ?_
  refine wc_ret (then_ret ?_)
  have hL0 : l = [] := by
   obtain ⟨_, a', c', he, hk, hn, _⟩ := hv
   cases he
   have := hn (by simpa using h4)
   exact List.eq_nil_of_length_eq_zero (by omega)
  subst hL0
  exact ret1 rfl (st.out SlM.nil)
 ·refine wc_skip ?_
  refine then_go ?_
  refine wc_seq ?_
  refine wc_region ?_
  refine wl_buildSlice0 (size := 1) Tryz.underlying23 TF.t5 st rfl ?_
  intro v5 w st
  have st : St m m [] wI w [rowE v5 5 1 ([] : List UInt8).length (bs [])] := st
  refine wl_val (v_move' (by conv => (lhs; whnf))) rfl ?_
  refine wl_appB (l2 := l) st Tryz.underlying23 Tryz.underlying23 (.inr ⟨_, rfl⟩) TF.t5 TF.z5 rfl rfl (hv.src st.im (one_bs _)) (by simp; omega) (by simp; omega) rfl ?_
  intro v7 w st hv7
  refine wl_val (v_assign' (by conv => (lhs; whnf))) rfl ?_
  refine wl_nil ?_
  refine then_go ?_
  refine wc_ret ?_
  exact ret1 rfl st.bytesOut
theorem c_bequal {av bv : Value} {a b : List UInt8} (him : Im m wI) (ha : SlM m av 1 a.length (bs a)) (hb : SlM m bv 1 b.length (bs b)) :
  Ret Tryz.prog 116 #[av, bv] wI fun v w' => Tch wI w' [] [] ∧ v = .bool (decide (a = b)) := by
 have st := St.start him
 refine ret_of Tryz.call116 Tryz.func116 rfl Tryz.ntmps116 Tryz.results116 rfl ?_
 refine wc_seq ?_
 refine wc_region ?_
 refine wl_val (v_assign' (by conv => (lhs; whnf))) rfl ?_
 refine wl_nil ?_
 refine then_go ?_
 refine wc_seq ?_
 refine wc_region ?_
 refine wl_val (v_move' (by conv => (lhs; whnf))) rfl ?_
 refine wl_val (v_b2s Tryz.underlying23 Tryz.underlying5 Tryz.underlying9 st.im ha rfl) rfl ?_
 refine wl_val (v_move' (by conv => (lhs; whnf))) rfl ?_
 refine wl_val (v_b2s Tryz.underlying23 Tryz.underlying5 Tryz.underlying9 st.im hb rfl) rfl ?_
 refine wl_val (v_eqs rfl rfl) rfl ?_
 refine wl_val (v_assign' (by conv => (lhs; whnf))) rfl ?_
 refine wl_nil ?_
 refine then_go ?_
 refine wc_ret ?_
 exact ret1 rfl ⟨st.touch, rfl⟩
end
end Go.Proofs.YtladpaehbolghaaGreat

namespace Go.Proofs.YtladpaehbolghaaGreat
open Go Go.RowKit K SH DK JR
section
variable {P : Program} {r : Fr} {w : World} {ty T U : TypeId} {x y : Operand} {p q : UInt64}
theorem bv64 (a : UInt64) : BitVec.ofInt 64 (a.toNat : Int) = a.toBitVec := by
 apply BitVec.eq_of_toNat_eq
 rw [BitVec.ofInt_natCast, BitVec.toNat_ofNat, Nat.mod_eq_of_lt a.toNat_lt]
 rfl
theorem v_or64 (hx : ev r x = u64 p) (hy : ev r y = u64 q) : Val P (.binOp .or T x y U) ty r w (u64 (p ||| q)) w := by
 have h := v_or (P := P) (w := w) (ty := ty) (T := T) (U := U) hx hy
 rw [show IntKind.u64.bits = 64 from rfl, bv64, bv64, wrap_u64] at h
 rw [show p ||| q = UInt64.ofNat (p.toBitVec ||| q.toBitVec).toNat by
  apply UInt64.toNat_inj.mp
  rw [UInt64.toNat_ofNat', Nat.mod_eq_of_lt (p.toBitVec ||| q.toBitVec).isLt]
  rfl]
 exact h
theorem v_lss64 (hx : ev r x = u64 p) (hy : ev r y = u64 q) : Val P (.binOp .lss T x y U) ty r w (.bool (decide (p.toNat < q.toNat))) w := wl_valD (v_lss hx hy) (by simp)
theorem v_gtr64 (hx : ev r x = u64 p) (hy : ev r y = u64 q) : Val P (.binOp .gtr T x y U) ty r w (.bool (decide (q.toNat < p.toNat))) w := wl_valD (v_gtr hx hy) (by simp)
theorem v_eql64 (hx : ev r x = u64 p) (hy : ev r y = u64 q) : Val P (.binOp .eql T x y U) ty r w (.bool (decide (p = q))) w := wl_valD (v_eql hx hy) (by rw [decide_eq_decide, ← UInt64.toNat_inj]; omega)
theorem v_conv64i {D : TypeDesc} (hT : P.underlying T = some D) (hU : P.underlying U = some (.int .i64)) (hx : ev r x = u64 p) (hp : p.toNat < 9223372036854775808) : Val P (.convert T U x) ty r w (.int .i64 p.toNat) w := by
 have h := v_conv (P := P) (w := w) (ty := ty) hT hU hx
 rwa [wrap_i64 (by omega) (by omega)] at h
end
theorem shl_or (p : UInt64) (c : UInt8) : shl64 p 8 ||| UInt64.ofNat c.toNat = p * 256 + UInt64.ofNat c.toNat := by
 rw [← UInt64.toNat_inj, UInt64.toNat_or, UInt64.toNat_add, UInt64.toNat_mul]
 unfold shl64
 rw [UInt64.toNat_ofNat', UInt64.toNat_ofNat']
 have hc : c.toNat < 256 := c.toNat_lt
 have e : p.toNat * 2 ^ 8 % 2 ^ 64 = (p.toNat % 2 ^ 56) <<< 8 := by
  rw [Nat.shiftLeft_eq]
  omega
 have hc2 : c.toNat % 2 ^ 64 = c.toNat := by omega
 rw [e, hc2, ← Nat.shiftLeft_add_eq_or_of_lt (by omega : c.toNat < 2 ^ 8), Nat.shiftLeft_eq]
 rw [show (256 : UInt64).toNat = 256 from rfl]
 omega
abbrev byE (v : Value) (l : List UInt8) : Ent := rowE v 5 1 l.length (bs l)
theorem byE_SlM {m0 m : Mem} {F : List Nat} {w0 w : World} {Es : List Ent} {v : Value} {l : List UInt8} (st : St m0 m F w0 w Es) (i : Nat) (hi : Es[i]? = some (byE v l)) : SlM (heapM w) v 1 l.length (bs l) := row_SlM (m := heapM w) (st.at hi) (fun _ _ _ h => h)
theorem byE_one {m0 m : Mem} {F : List Nat} {w0 w : World} {Es : List Ent} {v : Value} {l : List UInt8} (st : St m0 m F w0 w Es) (i : Nat) (hi : Es[i]? = some (byE v l)) : v.oneCell' = true := SlM.one1 (byE_SlM st i hi)
section
variable {m0 m : Mem} {F : List Nat} {w0 w : World} {Es : List Ent}
theorem c_jnumber {n : UInt64} (st : St m0 m F w0 w Es) : Ret Tryz.prog 95 #[u64 n] w fun v w' => St m0 m F w0 w' (byE v (num8 n) :: Es) := by
 refine ret_of Tryz.call95 Tryz.func95 rfl Tryz.ntmps95 Tryz.results95 rfl ?_
 refine wc_seq ?_
 refine wc_region ?_
 refine wl_val (v_assign' (by conv => (lhs; whnf))) rfl ?_
 refine wl_nil ?_
 refine then_go ?_
 refine wc_seq ?_
 refine wc_region ?_
 refine wl_make (l := 8) (c := 8) Tryz.underlying23 TF.t5 TF.z5 rfl rfl rfl rfl (by omega) (by omega) (by omega) (by omega) st rfl ?_
 intro b5 w st
 have st : St m0 m F w0 w (K.blk b5 (bs ((num8 n).take 0) ++ List.replicate (8 - 0) (u8 0)).toArray 5 :: Es) := by
  have e : madeCells (Value.int .u8 0).cells (8 * 1) = (List.replicate 8 (u8 0)).toArray := by
   rw [show (Value.int .u8 0).cells = Array.replicate (0 + 1) (Value.int .u8 0) from rfl, madeCells_rep]
   rfl
  rw [e] at st
  exact st
 refine wl_val (v_assign' (by conv => (lhs; whnf))) rfl ?_
 refine wl_nil ?_
 refine then_go ?_
 refine wc_seq ?_
 refine wc_seq ?_
 refine wc_region ?_
 refine wl_val (v_move' (by conv => (lhs; whnf))) rfl ?_
 refine wl_val (v_len_s Tryz.underlying23 rfl) rfl ?_
 refine wl_val (v_move' (by conv => (lhs; whnf))) rfl ?_
 refine wl_nil ?_
 refine then_go ?_
 refine wc_block ?_
 refine wc_loop (S := Nat) (fun q r w' => ∃ i, q + i = 8 ∧ r 0 = u64 n ∧ r 3 = .slice (some ⟨b5, 0, none⟩) 8 8 ∧ r 7 = .int .i64 8 ∧ r 8 = .int .i64 i ∧ St m0 m F w0 w' (K.blk b5 (bs ((num8 n).take i) ++ List.replicate (8 - i) (u8 0)).toArray 5 :: Es)) id 8 ⟨0, rfl, rfl, rfl, rfl, rfl, st⟩ ?_
 clear st
 rintro q r w2 ⟨i, hqi, h0, h3, h7, h8, st⟩
 refine wc_o 0 h0 (wc_o 3 h3 (wc_o 7 h7 (wc_o 8 h8 ?_)))
 refine wc_seq ?_
 refine wc_region ?_
 refine wl_val (v_lss rfl rfl) rfl ?_
 refine wl_nil ?_
 refine then_go ?_
 refine wc_seq ?_
 refine wc_if rfl (fun h9 => ?_) (fun h9 => ?_)
 ·refine wc_skip ?_
  refine then_go ?_
  refine wc_seq ?_
  refine wc_block ?_
  refine wc_seq ?_
  refine wc_region ?_
  refine wl_val (v_move' (by conv => (lhs; whnf))) rfl ?_
  refine wl_val (v_assign' (by conv => (lhs; whnf))) rfl ?_
  refine wl_nil ?_
  refine then_go ?_
  have hi : i < 8 := by omega
  have hni : i < (num8 n).length := by rw [length_num8]; exact hi
  have hb : UInt8.ofNat (shr64 n (56 - 8 * i)).toNat = (num8 n)[i] := by
   unfold shr64
   rw [UInt64.toNat_ofNat', Nat.mod_eq_of_lt (Nat.lt_of_le_of_lt (Nat.div_le_self _ _) n.toNat_lt)]
   simp [num8]
  refine wc_region ?_
  refine wl_val (v_move' (by conv => (lhs; whnf))) rfl ?_
  refine wl_val (v_move' (by conv => (lhs; whnf))) rfl ?_
  refine wl_val (v_move' (by conv => (lhs; whnf))) rfl ?_
  refine wl_val (v_move' (by conv => (lhs; whnf))) rfl ?_
  refine wl_val (v_mul' (c := ((8 * i : Nat) : Int)) rfl rfl (by omega) (by omega) (by omega)) rfl ?_
  refine wl_val (v_sub' (c := ((56 - 8 * i : Nat) : Int)) rfl rfl (by omega) (by omega) (by omega)) rfl ?_
  refine wl_val (v_shr64 (p := n) (56 - 8 * i) rfl rfl (by omega)) rfl ?_
  refine wl_val (v_conv64_8 Tryz.underlying47 Tryz.underlying5 rfl) rfl ?_
  refine wl_val (v_ias i Tryz.underlying23 TF.t5 rfl rfl (by first | rfl | omega) (by first | omega | (dsimp only at *; omega))) rfl ?_
  refine wl_store1 (off := 0 + i * 1) 0 st rfl TF.t5 rfl (by conv => (lhs; whnf)) rfl (by simp [length_bs, length_num8]; omega) ?_
  intro w st
  refine wl_nil ?_
  refine block_go (then_go ?_)
  refine wc_region ?_
  refine wl_val (v_add' rfl rfl rfl (by first | omega | (dsimp only at *; omega)) (by first | omega | (dsimp only at *; omega))) rfl ?_
  refine wl_val (v_move' (by conv => (lhs; whnf))) rfl ?_
  refine wl_nil ?_
  refine then_go ?_
  refine ⟨q - 1, by simp; omega, i + 1, by omega, rfl, rfl, rfl, rfl, ?_⟩
  rw [show 8 - i = (8 - (i + 1)) + 1 by omega, List.replicate_succ] at st
  change St _ _ _ _ _ (K.blk b5 (((bs ((num8 n).take i) ++ u8 0 :: List.replicate (8 - (i + 1)) (u8 0)).toArray).setIfInBounds (0 + i * 1) (u8 _)) _ :: Es) at st
  rw [set_app (by rw [length_bs, List.length_take, length_num8]; omega), hb] at st
  rw [List.take_succ_eq_append_getElem hni, bs, List.map_append]
  simpa [bs] using st
 ·refine wc_exit (then_exit (then_exit (block_hit ?_)))
  refine then_go ?_
  refine wc_seq ?_
  refine wc_region ?_
  refine wl_val (v_move' (by conv => (lhs; whnf))) rfl ?_
  refine wl_val (v_assign' (by conv => (lhs; whnf))) rfl ?_
  refine wl_nil ?_
  refine then_go ?_
  refine wc_ret ?_
  have hi8 : i = 8 := by omega
  subst hi8
  rw [List.take_of_length_le (by rw [length_num8]; omega)] at st
  exact ret1 rfl (st.rowShut 0 (b := b5) (k := 8) (cap := 8) (size := 1) (xs := bs (num8 n)) rfl (by omega) (by simp [length_bs, length_num8]) (by omega) (by simp [← length_num8 n, ← length_bs (num8 n)]))
theorem c_whole {v : Value} {l : By} (st : St m0 m F w0 w (byE v l :: Es)) (hl : l.length ≤ 1099511627776) : Ret Tryz.prog 94 #[v] w fun v' w' => St m0 m F w0 w' (byE v' (pad64 l) :: Es) := by
 refine ret_of Tryz.call94 Tryz.func94 rfl Tryz.ntmps94 Tryz.results94 rfl ?_
 refine wc_seq ?_
 refine wc_region ?_
 refine wl_val (v_assign' (by conv => (lhs; whnf))) rfl ?_
 refine wl_nil ?_
 refine then_go ?_
 refine wc_seq ?_
 refine wc_block ?_
 refine wc_loop (S := Nat) (fun q r w' => ∃ (i : Nat) (v : Value), q + i = (64 - l.length % 64) % 64 ∧ r 0 = v ∧ St m0 m F w0 w' (byE v (l ++ List.replicate i 0) :: Es)) id ((64 - l.length % 64) % 64) ⟨0, v, by omega, rfl, by simpa using st⟩ ?_
 clear st
 rintro q r w2 ⟨i, v, hqi, h0, st⟩
 obtain ⟨va, vc, hv⟩ := row_sl (st.at (i := 0) rfl)
 subst hv
 refine wc_o 0 h0 ?_
 have hll : (l ++ List.replicate i (0 : UInt8)).length = l.length + i := by simp
 refine wc_seq ?_
 refine wc_seq ?_
 refine wc_region ?_
 refine wl_val (v_move' (by conv => (lhs; whnf))) rfl ?_
 refine wl_val (v_len_s Tryz.underlying23 rfl) rfl ?_
 refine wl_val (v_rem' (c := (((l.length + i) % 64 : Nat) : Int)) rfl rfl (by omega) (by omega) (by rw [hll]; omega)) rfl ?_
 refine wl_val (v_neq rfl rfl) rfl ?_
 refine wl_nil ?_
 refine then_go ?_
 refine wc_if rfl (fun h6 => ?_) (fun h6 => ?_)
 ·refine wc_skip ?_
  refine then_go ?_
  refine wc_block ?_
  refine wc_region ?_
  refine wl_val (v_move' (by conv => (lhs; whnf))) rfl ?_
  refine wl_byte1 0 Tryz.underlying23 TF.t5 TF.z5 rfl st rfl ?_
  intro b8 w st
  refine wl_app1 st Tryz.underlying23 TF.t5 TF.z5 rfl rfl (by omega) (by omega) rfl ?_
  intro v9 w st hv9
  have e9 : l ++ List.replicate i (0 : UInt8) ++ [0] = l ++ List.replicate (i + 1) 0 := by rw [List.append_assoc, List.replicate_succ']
  rw [e9] at st
  refine wl_val (v_assign' (by conv => (lhs; whnf))) rfl ?_
  refine wl_nil ?_
  refine block_go (then_go ?_)
  exact ⟨q - 1, by simp; omega, i + 1, v9, by omega, rfl, st⟩
 ·refine wc_exit (then_exit (then_exit (block_hit ?_)))
  refine then_go ?_
  refine wc_seq ?_
  refine wc_region ?_
  refine wl_val (v_move' (by conv => (lhs; whnf))) rfl ?_
  refine wl_val (v_assign' (by conv => (lhs; whnf))) rfl ?_
  refine wl_nil ?_
  refine then_go ?_
  refine wc_ret ?_
  have hi : i = (64 - l.length % 64) % 64 := by omega
  subst hi
  exact ret1 rfl st
theorem c_cdigest {v : Value} {l d : By} (st : St m0 m F w0 w (byE v l :: Es)) (hd : d.length = 32) (hl : l.length ≤ 1099511627776) : Ret Tryz.prog 92 #[v, arr d] w fun v' w' => St m0 m F w0 w' (byE v' (l ++ d) :: Es) := by
 refine ret_of Tryz.call92 Tryz.func92 rfl Tryz.ntmps92 Tryz.results92 rfl ?_
 refine wc_seq ?_
 refine wc_region ?_
 refine wl_box (v := arr d) rfl st rfl ?_
 intro b3 w st
 refine wl_val (v_assign' (by conv => (lhs; whnf))) rfl ?_
 refine wl_nil ?_
 refine then_go ?_
 refine wc_seq ?_
 refine wc_region ?_
 refine wl_val (v_move' (by conv => (lhs; whnf))) rfl ?_
 refine wl_val (v_sla 0 32 Tryz.underlying141 TF.t5 rfl rfl rfl (by omega) (by omega) (by omega)) rfl ?_
 refine wl_appBi (l2 := d) 1 st rfl Tryz.underlying23 Tryz.underlying23 (.inr ⟨_, rfl⟩) TF.t5 TF.z5 rfl rfl (st.srcArr (off := 0) (k := 32) 0 rfl (by rw [length_bs, hd]) (fun j u hj => by simpa [arr, Value.cells] using hj) (one_bs _)) (by omega) (by omega) rfl ?_
 intro v7 w st hv7
 refine wl_val (v_assign' (by conv => (lhs; whnf))) rfl ?_
 refine wl_nil ?_
 refine then_go ?_
 refine wc_ret ?_
 exact ret1 rfl (st.drop 0)
theorem c_jhead {g : UInt64} (st : St m0 m F w0 w Es) : Ret Tryz.prog 106 #[u64 g] w fun v w' => St m0 m F w0 w' (byE v (headB g) :: Es) := by
 have h8 := length_num8 g
 refine ret_of Tryz.call106 Tryz.func106 rfl Tryz.ntmps106 Tryz.results106 rfl ?_
 refine wc_seq ?_
 refine wc_region ?_
 refine wl_val (v_assign' (by conv => (lhs; whnf))) rfl ?_
 refine wl_nil ?_
 refine then_go ?_
 refine wc_seq ?_
 refine wc_region ?_
 refine wl_byteR 72 Tryz.underlying23 TF.t5 TF.z5 rfl st rfl ?_
 intro b4 w st
 refine wl_val (v_move' (by conv => (lhs; whnf))) rfl ?_
 refine wl_call rfl (c_jnumber st) rfl ?_
 intro v6 w st
 refine wl_appBi (l2 := num8 g) 1 st rfl Tryz.underlying23 Tryz.underlying23 (.inr ⟨_, rfl⟩) TF.t5 TF.z5 rfl rfl ((byE_SlM st 0 rfl).src (im_heapM _) (one_bs _)) (by simp; omega) (by simp; omega) rfl ?_
 intro v7 w st hv7
 have st : St m0 m F w0 w (byE v7 (72 :: num8 g) :: Es) := st.drop 0
 refine wl_val (v_assign' (by conv => (lhs; whnf))) rfl ?_
 refine wl_nil ?_
 refine then_go ?_
 refine wc_seq ?_
 refine wc_region ?_
 refine wl_val (v_move' (by conv => (lhs; whnf))) rfl ?_
 refine wl_val (v_move' (by conv => (lhs; whnf))) rfl ?_
 refine wl_call rfl (c_tagsof (im_heapM _) (byE_SlM st 0 rfl) (by simp; omega)) rfl ?_
 rintro v10 w ⟨t10, rfl⟩
 have st := st.pure t10
 refine wl_call rfl (c_cdigest st (length_sum _) (by simp; omega)) rfl ?_
 intro v11 w st
 refine wl_call rfl (c_whole st (by simp [length_sum]; omega)) rfl ?_
 intro v12 w st
 refine wl_val (v_assign' (by conv => (lhs; whnf))) rfl ?_
 refine wl_nil ?_
 refine then_go ?_
 refine wc_ret ?_
 exact ret1 rfl st
theorem c_jtext {g s : UInt64} {v : Value} {b : By} (st : St m0 m F w0 w Es) (hb : SlM m v 1 b.length (bs b)) (hl : b.length ≤ 1000000000) : Ret Tryz.prog 91 #[u64 g, u64 s, v] w fun v' w' => St m0 m F w0 w' (byE v' (textB g s b) :: Es) := by
 have h8 := length_num8 g
 have h9 := length_num8 s
 refine ret_of Tryz.call91 Tryz.func91 rfl Tryz.ntmps91 Tryz.results91 rfl ?_
 refine wc_seq ?_
 refine wc_region ?_
 refine wl_val (v_assign' (by conv => (lhs; whnf))) rfl ?_
 refine wl_nil ?_
 refine then_go ?_
 refine wc_seq ?_
 refine wc_region ?_
 refine wl_byteR 74 Tryz.underlying23 TF.t5 TF.z5 rfl st rfl ?_
 intro b7 w st
 refine wl_val (v_move' (by conv => (lhs; whnf))) rfl ?_
 refine wl_call rfl (c_jnumber st) rfl ?_
 intro v9 w st
 refine wl_appBi (l2 := num8 g) 1 st rfl Tryz.underlying23 Tryz.underlying23 (.inr ⟨_, rfl⟩) TF.t5 TF.z5 rfl rfl ((byE_SlM st 0 rfl).src (im_heapM _) (one_bs _)) (by simp; omega) (by simp; omega) rfl ?_
 intro v10 w st hv10
 have st : St m0 m F w0 w (byE v10 (74 :: num8 g) :: Es) := st.drop 0
 refine wl_val (v_move' (by conv => (lhs; whnf))) rfl ?_
 refine wl_call rfl (c_jnumber st) rfl ?_
 intro v12 w st
 refine wl_appBi (l2 := num8 s) 1 st rfl Tryz.underlying23 Tryz.underlying23 (.inr ⟨_, rfl⟩) TF.t5 TF.z5 rfl rfl ((byE_SlM st 0 rfl).src (im_heapM _) (one_bs _)) (by simp; omega) (by simp; omega) rfl ?_
 intro v13 w st hv13
 have st : St m0 m F w0 w (byE v13 (74 :: num8 g ++ num8 s) :: Es) := st.drop 0
 refine wl_val (v_move' (by conv => (lhs; whnf))) rfl ?_
 refine wl_appB (l2 := b) st Tryz.underlying23 Tryz.underlying23 (.inr ⟨_, rfl⟩) TF.t5 TF.z5 rfl rfl (hb.src st.im (one_bs _)) (by simp; omega) (by simp; omega) rfl ?_
 intro v15 w st hv15
 have e : 74 :: num8 g ++ num8 s ++ b = textB g s b := by simp [textB]
 rw [e] at st
 refine wl_val (v_assign' (by conv => (lhs; whnf))) rfl ?_
 refine wl_nil ?_
 refine then_go ?_
 refine wc_ret ?_
 exact ret1 rfl st
theorem K.St.newOf {n : Mem} {w' : World} {E : Ent} (st : St m0 m F w0 w Es) (s : St n n [] w w' [E]) : St m0 m F w0 w' (E :: Es) := by
 have h := St.finish (l := [E]) (Es := []) s
 refine st.new (E := E) ⟨h.1.os, h.1.tape, h.1.output, h.1.size, h.1.block, fun k hk => h.1.out k (by simpa [joinE] using hk)⟩ (s.holds E (by simp))
theorem c_jrecord {g s : UInt64} {v : Value} {b : By} (st : St m0 m F w0 w Es) (hb : SlM m v 1 b.length (bs b)) (hl : b.length ≤ 1000000000) : Ret Tryz.prog 74 #[u64 g, u64 s, v] w fun v' w' => St m0 m F w0 w' (byE v' (recB g s b) :: Es) := by
 have h8 := length_num8 g
 have h9 := length_num8 s
 obtain ⟨ba, bc, hbv⟩ : ∃ a c, v = .slice a b.length c := by obtain ⟨_, a, c, h, _⟩ := hb; exact ⟨a, c, h⟩
 subst hbv
 refine ret_of Tryz.call74 Tryz.func74 rfl Tryz.ntmps74 Tryz.results74 rfl ?_
 refine wc_seq ?_
 refine wc_region ?_
 refine wl_val (v_assign' (by conv => (lhs; whnf))) rfl ?_
 refine wl_nil ?_
 refine then_go ?_
 refine wc_seq ?_
 refine wc_region ?_
 refine wl_val (v_move' (by conv => (lhs; whnf))) rfl ?_
 refine wl_val (v_move' (by conv => (lhs; whnf))) rfl ?_
 refine wl_call rfl (c_jtext (b := []) st SlM.nil (by decide)) rfl ?_
 intro v10 w st
 have st : St m0 m F w0 w (byE v10 (74 :: (num8 g ++ (num8 s ++ []))) :: Es) := st
 refine wl_val (v_assign' (by conv => (lhs; whnf))) rfl ?_
 refine wl_nil ?_
 refine then_go ?_
 refine wc_seq ?_
 refine wc_region ?_
 refine wl_val (v_move' (by conv => (lhs; whnf))) rfl ?_
 refine wl_val (v_move' (by conv => (lhs; whnf))) rfl ?_
 refine wl_val (v_move' (by conv => (lhs; whnf))) rfl ?_
 refine wl_val (v_move' (by conv => (lhs; whnf))) rfl ?_
 refine wl_call rfl (c_jtext st hb hl) rfl ?_
 intro v15 w st
 refine wl_call rfl (c_tagsof (im_heapM _) (byE_SlM st 0 rfl) (by rw [length_textB]; omega)) rfl ?_
 rintro v16 w ⟨t16, rfl⟩
 have st := st.pure t16
 have st : St m0 m F w0 w (byE v10 (74 :: (num8 g ++ (num8 s ++ []))) :: Es) := st.drop 0
 refine wl_call rfl (c_cdigest st (length_sum _) (by simp; omega)) rfl ?_
 intro v17 w st
 refine wl_val (v_assign' (by conv => (lhs; whnf))) rfl ?_
 refine wl_nil ?_
 refine then_go ?_
 refine wc_seq ?_
 refine wc_region ?_
 refine wl_val (v_move' (by conv => (lhs; whnf))) rfl ?_
 refine wl_val (v_move' (by conv => (lhs; whnf))) rfl ?_
 refine wl_val (v_len_s Tryz.underlying23 rfl) rfl ?_
 refine wl_val (v_convi_64 Tryz.underlying3 Tryz.underlying47 rfl) rfl ?_
 refine wl_call rfl (c_jnumber st) rfl ?_
 intro v22 w st
 have h10 := length_num8 (UInt64.ofNat b.length)
 have hsl := length_sum (textB g s b)
 refine wl_appBi (l2 := num8 (UInt64.ofNat b.length)) 1 st rfl Tryz.underlying23 Tryz.underlying23 (.inr ⟨_, rfl⟩) TF.t5 TF.z5 rfl rfl ((byE_SlM st 0 rfl).src (im_heapM _) (one_bs _)) (by simp; omega) (by simp; omega) rfl ?_
 intro v23 w st hv23
 have st : St m0 m F w0 w (byE v23 _ :: Es) := st.drop 0
 refine wl_val (v_move' (by conv => (lhs; whnf))) rfl ?_
 refine wl_appB (l2 := b) st Tryz.underlying23 Tryz.underlying23 (.inr ⟨_, rfl⟩) TF.t5 TF.z5 rfl rfl (hb.src st.im (one_bs _)) (by simp; omega) (by simp; omega) rfl ?_
 intro v25 w st hv25
 refine wl_call rfl (c_whole st (by simp; omega)) rfl ?_
 intro v26 w st
 have e : pad64 (74 :: (num8 g ++ (num8 s ++ [])) ++ sum (textB g s b) ++ num8 (UInt64.ofNat b.length) ++ b) = recB g s b := by simp [recB]
 rw [e] at st
 refine wl_val (v_assign' (by conv => (lhs; whnf))) rfl ?_
 refine wl_nil ?_
 refine then_go ?_
 refine wc_ret ?_
 exact ret1 rfl st
theorem c_length {v : Value} {b : By} (him : Im m w) (hb : SlM m v 1 b.length (bs b)) (hl : 8 ≤ b.length) : Ret Tryz.prog 115 #[v] w fun v' w' => Tch w w' [] [] ∧ v' = u64 (rd8 b) := by
 have st := St.start him
 obtain ⟨b0, o0, cap, rfl, hcap⟩ := hb.ptr1 (by omega) (by decide)
 have hb8 := SlM.subB 0 8 hb (by omega) hl
 have hl8 : ((b.drop 0).take (8 - 0)).length = 8 := by simp; omega
 have hrd : rd8 b = ((b.drop 0).take (8 - 0)).foldl (fun n c => n * 256 + UInt64.ofNat c.toNat) 0 := rfl
 obtain ⟨b8, hb8e⟩ : ∃ b8, b8 = (b.drop 0).take (8 - 0) := ⟨_, rfl⟩
 rw [← hb8e] at hb8 hl8 hrd
 obtain ⟨b1, o1, c1, he, _⟩ := hb8.ptr1 (by omega) (by decide)
 rw [he] at hb8
 have hb8 : SlM m (.slice (some ⟨b1, o1, none⟩) 8 c1) 1 8 (bs b8) := hb8
 refine ret_of Tryz.call115 Tryz.func115 rfl Tryz.ntmps115 Tryz.results115 rfl ?_
 refine wc_seq ?_
 refine wc_region ?_
 refine wl_val (v_assign' (by conv => (lhs; whnf))) rfl ?_
 refine wl_nil ?_
 refine then_go ?_
 refine wc_seq ?_
 refine wc_region ?_
 refine wl_val (v_assign' (by conv => (lhs; whnf))) rfl ?_
 refine wl_nil ?_
 refine then_go ?_
 refine wc_seq ?_
 refine wc_seq ?_
 refine wc_region ?_
 refine wl_val (v_move' (by conv => (lhs; whnf))) rfl ?_
 refine wl_val (v_to (v' := .slice (some ⟨b1, o1, none⟩) 8 c1) (v_sls 0 8 Tryz.underlying23 TF.t5 rfl rfl ⟨_, _, rfl, rfl⟩ (by omega) (by omega)) he) rfl ?_
 refine wl_val (v_len_s Tryz.underlying23 rfl) rfl ?_
 refine wl_val (v_move' (by conv => (lhs; whnf))) rfl ?_
 refine wl_nil ?_
 refine then_go ?_
 refine wc_block ?_
 refine wc_loop (S := Nat) (fun q r w' => ∃ i, q + i = 8 ∧ r 3 = u64 ((b8.take i).foldl (fun n c => n * 256 + UInt64.ofNat c.toNat) 0) ∧ r 7 = .slice (some ⟨b1, o1, none⟩) 8 c1 ∧ r 8 = .int .i64 8 ∧ r 9 = .int .i64 i ∧ St m m [] w w' []) id 8 ⟨0, rfl, rfl, rfl, rfl, rfl, st⟩ ?_
 clear st
 rintro q r w2 ⟨i, hqi, h3, h7, h8, h9, st⟩
 refine wc_o 3 h3 (wc_o 7 h7 (wc_o 8 h8 (wc_o 9 h9 ?_)))
 refine wc_seq ?_
 refine wc_region ?_
 refine wl_val (v_lss rfl rfl) rfl ?_
 refine wl_nil ?_
 refine then_go ?_
 refine wc_seq ?_
 refine wc_if rfl (fun h10 => ?_) (fun h10 => ?_)
 ·refine wc_skip ?_
  refine then_go ?_
  refine wc_seq ?_
  refine wc_block ?_
  refine wc_seq ?_
  have hi : i < b8.length := by omega
  refine wc_region ?_
  refine wl_val (v_ias i Tryz.underlying23 TF.t5 rfl rfl (by first | rfl | omega) (by first | omega | (dsimp only at *; omega))) rfl ?_
  refine wl_val (v_load rfl (SlM.rdB TF.t5 i hb8 hi st.im)) rfl ?_
  refine wl_val (v_assign' (by conv => (lhs; whnf))) rfl ?_
  refine wl_nil ?_
  refine then_go ?_
  refine wc_region ?_
  refine wl_val (v_move' (by conv => (lhs; whnf))) rfl ?_
  refine wl_val (v_shl64 (p := (b8.take i).foldl (fun n c => n * 256 + UInt64.ofNat c.toNat) 0) 8 rfl rfl (by omega)) rfl ?_
  refine wl_val (v_move' (by conv => (lhs; whnf))) rfl ?_
  refine wl_val (v_convi_64 (n := b8[i].toNat) Tryz.underlying5 Tryz.underlying47 rfl) rfl ?_
  refine wl_val (v_or64 rfl rfl) rfl ?_
  refine wl_val (v_assign' (by conv => (lhs; whnf))) rfl ?_
  refine wl_nil ?_
  refine block_go (then_go ?_)
  refine wc_region ?_
  refine wl_val (v_add' rfl rfl rfl (by first | omega | (dsimp only at *; omega)) (by first | omega | (dsimp only at *; omega))) rfl ?_
  refine wl_val (v_move' (by conv => (lhs; whnf))) rfl ?_
  refine wl_nil ?_
  refine then_go ?_
  refine ⟨q - 1, by simp; omega, i + 1, by omega, ?_, rfl, rfl, rfl, st⟩
  rw [List.take_succ_eq_append_getElem hi, List.foldl_append, List.foldl_cons, List.foldl_nil, ← shl_or]
  rfl
 ·refine wc_exit (then_exit (then_exit (block_hit ?_)))
  refine then_go ?_
  refine wc_seq ?_
  refine wc_region ?_
  refine wl_val (v_move' (by conv => (lhs; whnf))) rfl ?_
  refine wl_val (v_assign' (by conv => (lhs; whnf))) rfl ?_
  refine wl_nil ?_
  refine then_go ?_
  refine wc_ret ?_
  have hi8 : i = 8 := by omega
  subst hi8
  have e8 : b8.take 8 = b8 := List.take_of_length_le (by omega)
  exact ret1 rfl ⟨st.touch, by rw [hrd, e8]; rfl⟩
end
end Go.Proofs.YtladpaehbolghaaGreat

namespace Go.Proofs.YtladpaehbolghaaGreat
open Go Go.RowKit K SH GC
set_option maxRecDepth 100000 in
theorem or128 (k : Nat) : UInt8.ofNat k ||| 128 = UInt8.ofNat (k % 128 + 128) := by
 have key : ∀ m : Fin 256, UInt8.ofNat m.val ||| 128 = UInt8.ofNat (m.val % 128 + 128) := by decide
 have h := key ⟨k % 256, Nat.mod_lt _ (by decide)⟩
 have e1 : UInt8.ofNat (k % 256) = UInt8.ofNat k := by
  apply UInt8.toNat_inj.mp
  rw [UInt8.toNat_ofNat', UInt8.toNat_ofNat']
  omega
 have e2 : k % 256 % 128 = k % 128 := by omega
 rw [← e1, h]
 show UInt8.ofNat (k % 256 % 128 + 128) = _
 rw [e2]
theorem shr7 (n : UInt64) : (shr64 n 7).toNat = n.toNat / 128 := by
 unfold shr64
 rw [UInt64.toNat_ofNat', Nat.mod_eq_of_lt (Nat.lt_of_le_of_lt (Nat.div_le_self _ _) n.toNat_lt)]
section
variable {m0 m : Mem} {F : List Nat} {w0 w : World} {Es : List Ent}
theorem c_cnum {v : Value} {l : List UInt8} {n : UInt64} (st : St m0 m F w0 w (byE v l :: Es)) (hl : l.length ≤ 1099511627776) : Ret Tryz.prog 43 #[v, u64 n] w fun v' w' => St m0 m F w0 w' (byE v' (l ++ numB n.toNat) :: Es) := by
 obtain ⟨A, hA⟩ : ∃ A, A = l ++ numB n.toNat := ⟨_, rfl⟩
 have hn10 := numB_len10 n.toNat_lt
 have hAl : A.length ≤ 1099511627786 := by rw [hA, List.length_append]; omega
 rw [← hA]
 refine ret_of Tryz.call43 Tryz.func43 rfl Tryz.ntmps43 Tryz.results43 rfl ?_
 refine wc_seq ?_
 refine wc_region ?_
 refine wl_val (v_assign' (by conv => (lhs; whnf))) rfl ?_
 refine wl_nil ?_
 refine then_go ?_
 refine wc_seq ?_
 refine wc_block ?_
 refine wc_loop (S := Nat) (fun q r w' => ∃ (v : Value) (l : List UInt8) (n : UInt64), q = n.toNat ∧ r 0 = v ∧ r 1 = u64 n ∧ A = l ++ numB n.toNat ∧ St m0 m F w0 w' (byE v l :: Es)) id n.toNat ⟨v, l, n, rfl, rfl, rfl, hA, st⟩ ?_
 clear st hA hn10
 rintro q r w2 ⟨v, l, n, hq, g0, g1, hA, st⟩
 have hn10 := numB_pos (n := n.toNat)
 have hll : l.length ≤ 1099511627786 := by rw [hA, List.length_append] at hAl; omega
 refine wc_o 0 g0 (wc_o 1 g1 ?_)
 refine wc_seq ?_
 refine wc_seq ?_
 refine wc_region ?_
 refine wl_val (v_move' (by conv => (lhs; whnf))) rfl ?_
 refine wl_val (v_geq (a := (n.toNat : Int)) (b := 128) rfl rfl) rfl ?_
 refine wl_nil ?_
 refine then_go ?_
 refine wc_cond rfl (fun h6 => ?_) (fun h6 => ?_)
 ·refine wc_skip ?_
  refine then_go ?_
  refine wc_block ?_
  refine wc_seq ?_
  have hb : ¬ n.toNat < 128 := by have := of_decide_eq_true h6; omega
  rw [numB_big hb, ← or128] at hA
  refine wc_region ?_
  refine wl_val (v_move' (by conv => (lhs; whnf))) rfl ?_
  refine wl_val (v_move' (by conv => (lhs; whnf))) rfl ?_
  refine wl_val (v_conv64_8 Tryz.underlying47 Tryz.underlying5 rfl) rfl ?_
  refine wl_val (v_or8 128 rfl rfl rfl) rfl ?_
  refine wl_byte1 (UInt8.ofNat n.toNat ||| 128) Tryz.underlying23 TF.t5 TF.z5 rfl st rfl ?_
  intro b11 w st
  refine wl_app1 st Tryz.underlying23 TF.t5 TF.z5 rfl rfl (by omega) (by omega) rfl ?_
  intro v12 w st hv12
  refine wl_val (v_assign' (by conv => (lhs; whnf))) rfl ?_
  refine wl_nil ?_
  refine then_go ?_
  refine wc_region ?_
  refine wl_val (v_move' (by conv => (lhs; whnf))) rfl ?_
  refine wl_val (v_shr64 7 rfl rfl (by omega)) rfl ?_
  refine wl_val (v_assign' (by conv => (lhs; whnf))) rfl ?_
  refine wl_nil ?_
  refine block_go (then_go ?_)
  exact ⟨(shr64 n 7).toNat, by rw [shr7]; simp; omega, v12, l ++ [UInt8.ofNat n.toNat ||| 128], shr64 n 7, rfl, rfl, rfl, by rw [hA, shr7]; simp, st⟩
 ·refine wc_exit (then_exit (then_exit (block_hit ?_)))
  refine then_go ?_
  refine wc_seq ?_
  have hb : n.toNat < 128 := by have := of_decide_eq_false h6; omega
  rw [numB_small hb] at hA
  refine wc_region ?_
  refine wl_val (v_move' (by conv => (lhs; whnf))) rfl ?_
  refine wl_val (v_move' (by conv => (lhs; whnf))) rfl ?_
  refine wl_val (v_conv64_8 Tryz.underlying47 Tryz.underlying5 rfl) rfl ?_
  refine wl_byte1 (UInt8.ofNat n.toNat) Tryz.underlying23 TF.t5 TF.z5 rfl st rfl ?_
  intro b18 w st
  refine wl_app1 st Tryz.underlying23 TF.t5 TF.z5 rfl rfl (by omega) (by omega) rfl ?_
  intro v19 w st hv19
  refine wl_val (v_assign' (by conv => (lhs; whnf))) rfl ?_
  refine wl_nil ?_
  refine then_go ?_
  refine wc_ret ?_
  exact ret1 rfl (by rw [hA]; exact st)
theorem c_ctext {v tv : Value} {l t : List UInt8} (st : St m0 m F w0 w (byE v l :: Es)) (hl : l.length ≤ 1099511627776) (htl : t.length ≤ 1099511627776) (hm : SlM m tv 1 t.length (bs t)) :
  Ret Tryz.prog 44 #[v, tv] w fun v' w' => St m0 m F w0 w' (byE v' (l ++ txtB t) :: Es) := by
 obtain ⟨_, ta, tc, rfl, _⟩ := id hm
 refine ret_of Tryz.call44 Tryz.func44 rfl Tryz.ntmps44 Tryz.results44 rfl ?_
 refine wc_seq ?_
 refine wc_region ?_
 refine wl_val (v_assign' (by conv => (lhs; whnf))) rfl ?_
 refine wl_nil ?_
 refine then_go ?_
 refine wc_seq ?_
 refine wc_region ?_
 refine wl_val (v_move' (by conv => (lhs; whnf))) rfl ?_
 refine wl_val (v_move' (by conv => (lhs; whnf))) rfl ?_
 refine wl_val (v_len_s Tryz.underlying23 rfl) rfl ?_
 refine wl_val (v_convi_64 Tryz.underlying3 Tryz.underlying47 rfl) rfl ?_
 refine wl_call rfl (c_cnum (n := UInt64.ofNat t.length) st hl) rfl ?_
 intro v9 w st
 rw [UInt64.toNat_ofNat', Nat.mod_eq_of_lt (by omega)] at st
 refine wl_val (v_move' (by conv => (lhs; whnf))) rfl ?_
 have hn10 := numB_len10 (n := t.length) (by omega)
 refine wl_appB (l2 := t) st Tryz.underlying23 Tryz.underlying23 (.inr ⟨_, rfl⟩) TF.t5 TF.z5 rfl rfl (hm.src st.im (one_bs _)) (by rw [List.length_append]; omega) (by rw [List.length_append]; omega) rfl ?_
 intro v11 w st hv11
 refine wl_val (v_assign' (by conv => (lhs; whnf))) rfl ?_
 refine wl_nil ?_
 refine then_go ?_
 refine wc_ret ?_
 exact ret1 rfl (by rw [txtB, ← List.append_assoc]; exact st)
end
section
variable {m0 m : Mem} {F : List Nat} {w0 w : World} {Es : List Ent}
theorem c_rnum {n : UInt64} (st : St m0 m F w0 w Es) : Ret Tryz.prog 45 #[u64 n] w fun v' w' => St m0 m F w0 w' (byE v' (numB n.toNat) :: Es) := by
 obtain ⟨A, hA⟩ : ∃ A, A = numB n.toNat := ⟨_, rfl⟩
 have hAl : A.length ≤ 10 := by rw [hA]; exact numB_len10 n.toNat_lt
 rw [← hA]
 refine ret_of Tryz.call45 Tryz.func45 rfl Tryz.ntmps45 Tryz.results45 rfl ?_
 refine wc_seq ?_
 refine wc_region ?_
 refine wl_val (v_assign' (by conv => (lhs; whnf))) rfl ?_
 refine wl_nil ?_
 refine then_go ?_
 refine wc_seq ?_
 refine wc_region ?_
 refine wl_val (v_assign' (by conv => (lhs; whnf))) rfl ?_
 refine wl_nil ?_
 refine then_go ?_
 refine wc_seq ?_
 refine wc_block ?_
 have st := nilRow st 5 1
 have st : St m0 m F w0 w (byE (.slice none 0 0) [] :: Es) := st
 refine wc_loop (S := Nat) (fun q r w' => ∃ (v : Value) (l : List UInt8) (n : UInt64), q = n.toNat ∧ r 0 = u64 n ∧ r 3 = v ∧ A = l ++ numB n.toNat ∧ St m0 m F w0 w' (byE v l :: Es)) id n.toNat ⟨_, [], n, rfl, rfl, rfl, hA, st⟩ ?_
 clear st hA
 rintro q r w2 ⟨v, l, n, hq, g0, g3, hA, st⟩
 have hn10 := numB_pos (n := n.toNat)
 have hll : l.length ≤ 10 := by rw [hA, List.length_append] at hAl; omega
 refine wc_o 0 g0 (wc_o 3 g3 ?_)
 refine wc_seq ?_
 refine wc_seq ?_
 refine wc_region ?_
 refine wl_val (v_move' (by conv => (lhs; whnf))) rfl ?_
 refine wl_val (v_gtr (a := (n.toNat : Int)) (b := 127) rfl rfl) rfl ?_
 refine wl_nil ?_
 refine then_go ?_
 refine wc_cond rfl (fun h5 => ?_) (fun h5 => ?_)
 ·refine wc_skip ?_
  refine then_go ?_
  refine wc_block ?_
  refine wc_seq ?_
  have hb : ¬ n.toNat < 128 := by have := of_decide_eq_true h5; omega
  rw [numB_big hb] at hA
  have e8 : UInt8.ofNat (128 + n % 128 : UInt64).toNat = UInt8.ofNat (n.toNat % 128 + 128) := by
   rw [UInt64.toNat_add, UInt64.toNat_mod]
   congr 1
   show (128 + n.toNat % 128) % 18446744073709551616 = _
   omega
  refine wc_region ?_
  refine wl_val (v_move' (by conv => (lhs; whnf))) rfl ?_
  refine wl_val (v_move' (by conv => (lhs; whnf))) rfl ?_
  refine wl_val (v_to (v' := u64 (n % 128)) (v_rem' rfl rfl (a := (n.toNat : Int)) (b := 128) (by omega) (by omega) rfl) (by unfold u64; rw [UInt64.toNat_mod]; rfl)) rfl ?_
  refine wl_val (v_add64 (p := 128) (q := n % 128) rfl rfl) rfl ?_
  refine wl_val (v_conv64_8 Tryz.underlying47 Tryz.underlying5 rfl) rfl ?_
  refine wl_byte1 (UInt8.ofNat (128 + n % 128 : UInt64).toNat) Tryz.underlying23 TF.t5 TF.z5 rfl st rfl ?_
  intro b11 w st
  refine wl_app1 st Tryz.underlying23 TF.t5 TF.z5 rfl rfl (by omega) (by omega) rfl ?_
  intro v12 w st hv12
  refine wl_val (v_assign' (by conv => (lhs; whnf))) rfl ?_
  refine wl_nil ?_
  refine then_go ?_
  refine wc_region ?_
  refine wl_val (v_move' (by conv => (lhs; whnf))) rfl ?_
  refine wl_val (v_quo64 (p := n) (q := 128) rfl rfl (by decide)) rfl ?_
  refine wl_val (v_assign' (by conv => (lhs; whnf))) rfl ?_
  refine wl_nil ?_
  refine block_go (then_go ?_)
  exact ⟨(n / 128).toNat, by rw [UInt64.toNat_div]; show n.toNat / 128 < _; simp; omega, v12, l ++ [UInt8.ofNat (128 + n % 128 : UInt64).toNat], n / 128, rfl, rfl, rfl, by rw [hA, e8, UInt64.toNat_div]; simp, st⟩
 ·refine wc_exit (then_exit (then_exit (block_hit ?_)))
  refine then_go ?_
  refine wc_seq ?_
  have hb : n.toNat < 128 := by have := of_decide_eq_false h5; omega
  rw [numB_small hb] at hA
  refine wc_region ?_
  refine wl_val (v_move' (by conv => (lhs; whnf))) rfl ?_
  refine wl_val (v_move' (by conv => (lhs; whnf))) rfl ?_
  refine wl_val (v_conv64_8 Tryz.underlying47 Tryz.underlying5 rfl) rfl ?_
  refine wl_byte1 (UInt8.ofNat n.toNat) Tryz.underlying23 TF.t5 TF.z5 rfl st rfl ?_
  intro b18 w st
  refine wl_app1 st Tryz.underlying23 TF.t5 TF.z5 rfl rfl (by omega) (by omega) rfl ?_
  intro v19 w st hv19
  refine wl_val (v_assign' (by conv => (lhs; whnf))) rfl ?_
  refine wl_nil ?_
  refine then_go ?_
  refine wc_ret ?_
  exact ret1 rfl (by rw [hA]; exact st)
end
end Go.Proofs.YtladpaehbolghaaGreat

namespace Go.Proofs.YtladpaehbolghaaGreat
open Go Go.RowKit K SH DK JR
theorem K.SlM.opn {m : Mem} {v : Value} {l : List UInt8} (h : SlM m v 1 l.length (bs l)) : ∃ a c, v = .slice a l.length c ∧ l.length ≤ c := by obtain ⟨_, a, c, h, hk, _⟩ := h; exact ⟨a, c, h, hk⟩
theorem K.SlM.tailB {m : Mem} {a : Option Addr} {cap : Nat} {l : List UInt8} (i : Nat) (hx : SlM m (.slice a l.length cap) 1 l.length (bs l)) (hi : i ≤ l.length) : SlM m (.slice (sliceOff a cap i 1) (l.length - i) (cap - i)) 1 (l.drop i).length (bs (l.drop i)) := by
 have h := SlM.subB i l.length hx hi (Nat.le_refl _)
 rw [List.take_of_length_le (by simp)] at h
 rw [List.length_drop]
 exact h
theorem K.SlM.partB {m : Mem} {a : Option Addr} {cap : Nat} {l : List UInt8} (i j : Nat) (hx : SlM m (.slice a l.length cap) 1 l.length (bs l)) (hij : i ≤ j) (hj : j ≤ l.length) : SlM m (.slice (sliceOff a cap i 1) (j - i) (cap - i)) 1 ((l.drop i).take (j - i)).length (bs ((l.drop i).take (j - i))) := by
 have h := SlM.subB i j hx hij hj
 rw [List.length_take, List.length_drop, Nat.min_eq_left (by omega)]
 exact h
section
variable {m : Mem} {w : World}
def NextOut (m : Mem) (v : Value) (o : Option By) : Prop := match o with
 | none => v = .tuple #[.slice none 0 0, .int .i64 0]
 | some x => ∃ xv, v = .tuple #[xv, .int .i64 (recL x.length : Nat)] ∧ SlM m xv 1 x.length (bs x)
theorem c_next {g s : UInt64} {v : Value} {b : By} (him : Im m w) (hb : SlM m v 1 b.length (bs b)) (hl : b.length ≤ 500000000) : Ret Tryz.prog 107 #[u64 g, u64 s, v] w fun v' w' => Out m w w' fun m' => NextOut m' v' (nextF g s b) := by
 have st := St.start him
 obtain ⟨ba, bc, rfl, hbc⟩ := hb.opn
 refine ret_of Tryz.call107 Tryz.func107 rfl Tryz.ntmps107 Tryz.results107 rfl ?_
 refine wc_seq ?_
 refine wc_region ?_
 refine wl_val (v_assign' (by conv => (lhs; whnf))) rfl ?_
 refine wl_val (v_assign' (by conv => (lhs; whnf))) rfl ?_
 refine wl_nil ?_
 refine then_go ?_
 refine wc_seq ?_
 refine wc_seq ?_
 refine wc_region ?_
 refine wl_val (v_move' (by conv => (lhs; whnf))) rfl ?_
 refine wl_val (v_len_s Tryz.underlying23 rfl) rfl ?_
 refine wl_val (v_lss rfl rfl) rfl ?_
 refine wl_nil ?_
 refine then_go ?_
 refine wc_if rfl (fun h13 => ?_) (fun h13 => ?_)
 ·refine wc_seq ?_
  refine wc_region ?_
  refine wl_val (v_assign' (by conv => (lhs; whnf))) rfl ?_
  refine wl_val (v_assign' (by conv => (lhs; whnf))) rfl ?_
  refine wl_nil ?_
  refine then_go ?_
  refine wc_ret (then_ret ?_)
  refine ret2 rfl rfl ((st.keepOnly (l := []) (List.nil_sublist _)).out ?_)
  rw [nextF_short (by omega)]
  rfl
 ·refine wc_skip ?_
  refine then_go ?_
  refine wc_seq ?_
  refine wc_region ?_
  refine wl_val (v_move' (by conv => (lhs; whnf))) rfl ?_
  refine wl_val (v_sls 49 b.length Tryz.underlying23 TF.t5 rfl ⟨_, _, rfl, rfl⟩ rfl (by omega) hbc) rfl ?_
  have h49 := hb.tailB 49 (by omega)
  refine wl_call rfl (c_length st.im h49 (by rw [List.length_drop]; omega)) rfl ?_
  rintro v16 w ⟨t16, rfl⟩
  have st := st.pure t16
  obtain ⟨q, hq⟩ : ∃ q, q = rd8 (b.drop 49) := ⟨_, rfl⟩
  rw [← hq]
  refine wl_val (v_assign' (by conv => (lhs; whnf))) rfl ?_
  refine wl_nil ?_
  refine then_go ?_
  refine wc_seq ?_
  refine wc_seq ?_
  refine wc_region ?_
  refine wl_val (v_move' (by conv => (lhs; whnf))) rfl ?_
  refine wl_val (v_lss64 (q := 1) rfl rfl) rfl ?_
  refine wl_val (v_move' (by conv => (lhs; whnf))) rfl ?_
  refine wl_valg rfl rfl (fun e => (v_move' (by conv => (lhs; whnf)))) rfl ?_
  refine wl_valg rfl rfl (fun e => (v_move' (by conv => (lhs; whnf)))) rfl ?_
  refine wl_valg rfl rfl (fun e => (v_len_s Tryz.underlying23 (by first | rfl | exact gx e rfl))) rfl ?_
  refine wl_valg rfl rfl (fun e => (v_sub' (c := ((b.length - 57 : Nat) : Int)) (by first | rfl | exact gx e rfl) (by first | rfl | exact gx e rfl) (by omega) (by omega) (by omega))) rfl ?_
  refine wl_valg rfl rfl (fun e => (v_convi_64 (n := b.length - 57) Tryz.underlying3 Tryz.underlying47 (by first | rfl | exact gx e rfl))) rfl ?_
  refine wl_valg rfl rfl (fun e => (v_gtr64 (q := UInt64.ofNat (b.length - 57)) (by first | rfl | exact gx e rfl) (by first | rfl | exact gx e rfl))) rfl ?_
  refine wl_val (v_pickO rfl rfl rfl) rfl ?_
  refine wl_nil ?_
  refine then_go ?_
  refine wc_cond rfl (fun h26 => ?_) (fun h26 => ?_)
  ·refine wc_seq ?_
   refine wc_region ?_
   refine wl_val (v_assign' (by conv => (lhs; whnf))) rfl ?_
   refine wl_val (v_assign' (by conv => (lhs; whnf))) rfl ?_
   refine wl_nil ?_
   refine then_go ?_
   refine wc_ret (then_ret ?_)
   refine ret2 rfl rfl ((st.keepOnly (l := []) (List.nil_sublist _)).out ?_)
   have e : nextF g s b = none := by
    unfold nextF
    rw [if_neg (by omega), if_pos]
    rw [← hq]
    simp only [Bool.or_eq_true, decide_eq_true_eq, UInt64.toNat_ofNat'] at h26
    rw [Nat.mod_eq_of_lt (by omega)] at h26
    exact h26
   rw [e]
   rfl
  ·refine wc_skip ?_
   refine then_go ?_
   refine wc_seq ?_
   have hn : ¬ (q.toNat < 1 ∨ b.length - 57 < q.toNat) := by
    simp only [Bool.or_eq_false_iff, decide_eq_false_iff_not, UInt64.toNat_ofNat'] at h26
    rw [Nat.mod_eq_of_lt (by omega)] at h26
    intro h
    exact h.elim h26.1 h26.2
   refine wc_region ?_
   refine wl_val (v_move' (by conv => (lhs; whnf))) rfl ?_
   refine wl_val (v_move' (by conv => (lhs; whnf))) rfl ?_
   refine wl_val (v_conv64i Tryz.underlying47 Tryz.underlying3 rfl (by omega)) rfl ?_
   refine wl_val (v_add' (c := ((57 + q.toNat : Nat) : Int)) rfl rfl (by omega) (by omega) (by omega)) rfl ?_
   refine wl_val (v_sls 57 (57 + q.toNat) Tryz.underlying23 TF.t5 rfl ⟨_, _, rfl, rfl⟩ ⟨_, _, rfl, rfl⟩ (by omega) (by omega)) rfl ?_
   refine wl_val (v_assign' (by conv => (lhs; whnf))) rfl ?_
   refine wl_nil ?_
   refine then_go ?_
   refine wc_seq ?_
   refine wc_region ?_
   refine wl_val (v_move' (by conv => (lhs; whnf))) rfl ?_
   refine wl_val (v_move' (by conv => (lhs; whnf))) rfl ?_
   refine wl_val (v_move' (by conv => (lhs; whnf))) rfl ?_
   have hx := hb.partB 57 (57 + q.toNat) (by omega) (by omega)
   have hxe : (b.drop 57).take (57 + q.toNat - 57) = (b.drop 57).take (rd8 (b.drop 49)).toNat := by rw [← hq]; congr 1; omega
   have hnx : nextF g s b = if (recB g s ((b.drop 57).take (57 + q.toNat - 57))).length ≤ b.length ∧ recB g s ((b.drop 57).take (57 + q.toNat - 57)) = b.take (recB g s ((b.drop 57).take (57 + q.toNat - 57))).length then some ((b.drop 57).take (57 + q.toNat - 57)) else none := by
    rw [hxe]
    unfold nextF
    rw [if_neg (by omega), if_neg (by rw [← hq]; exact hn)]
   have hxl : ((b.drop 57).take (57 + q.toNat - 57)).length = q.toNat := by rw [List.length_take, List.length_drop]; omega
   obtain ⟨x, hxx⟩ : ∃ x, x = (b.drop 57).take (57 + q.toNat - 57) := ⟨_, rfl⟩
   rw [← hxx] at hx hnx hxl
   refine wl_call rfl (c_jrecord st hx (by omega)) rfl ?_
   intro v35 w st
   have hrl := length_recB g s x
   obtain ⟨ra, rc, hv35, hrc⟩ := (byE_SlM st 0 rfl).opn
   subst hv35
   refine wl_val (v_assign' (by conv => (lhs; whnf))) rfl ?_
   refine wl_nil ?_
   refine then_go ?_
   refine wc_seq ?_
   refine wc_seq ?_
   refine wc_region ?_
   refine wl_val (v_move' (by conv => (lhs; whnf))) rfl ?_
   refine wl_val (v_len_s Tryz.underlying23 rfl) rfl ?_
   refine wl_val (v_move' (by conv => (lhs; whnf))) rfl ?_
   refine wl_val (v_len_s Tryz.underlying23 rfl) rfl ?_
   refine wl_val (v_gtr rfl rfl) rfl ?_
   refine wl_val (v_move' (by conv => (lhs; whnf))) rfl ?_
   rcases Bool.eq_false_or_eq_true (decide ((b.length : Int) < ((recB g s x).length : Int))) with hg5 | hg5
   ·rw [hg5]
    refine wl_off rfl rfl rfl rfl ?_
    refine wl_off rfl rfl rfl rfl ?_
    refine wl_off rfl rfl rfl rfl ?_
    refine wl_off rfl rfl rfl rfl ?_
    refine wl_off rfl rfl rfl rfl ?_
    refine wl_off rfl rfl rfl rfl ?_
    refine wl_off rfl rfl rfl rfl ?_
    refine wl_val (v_pick rfl) rfl ?_
    refine wl_nil ?_
    refine then_go ?_
    refine wc_true rfl ?_
    refine wc_seq ?_
    refine wc_region ?_
    refine wl_val (v_assign' (by conv => (lhs; whnf))) rfl ?_
    refine wl_val (v_assign' (by conv => (lhs; whnf))) rfl ?_
    refine wl_nil ?_
    refine then_go ?_
    refine wc_ret (then_ret ?_)
    refine ret2 rfl rfl ((st.keepOnly (l := []) (List.nil_sublist _)).out ?_)
    rw [hnx, if_neg (fun h => by have := of_decide_eq_true hg5; omega)]
    rfl
   ·rw [hg5]
    refine wl_on rfl rfl ?_
    refine wl_val (v_move' (by conv => (lhs; whnf))) rfl ?_
    refine wl_on rfl rfl ?_
    refine wl_val (v_move' (by conv => (lhs; whnf))) rfl ?_
    refine wl_on rfl rfl ?_
    refine wl_val (v_move' (by conv => (lhs; whnf))) rfl ?_
    refine wl_on rfl rfl ?_
    refine wl_val (v_len_s Tryz.underlying23 rfl) rfl ?_
    refine wl_on rfl rfl ?_
    refine wl_val (v_sls 0 (recB g s x).length Tryz.underlying23 TF.t5 rfl rfl ⟨_, _, rfl, rfl⟩ (Nat.zero_le _) (by have := of_decide_eq_false hg5; omega)) rfl ?_
    have hle : (recB g s x).length ≤ b.length := by have := of_decide_eq_false hg5; omega
    have hfr := hb.partB 0 (recB g s x).length (Nat.zero_le _) hle
    rw [List.drop_zero, Nat.sub_zero] at hfr
    refine wl_on rfl rfl ?_
    refine wl_call rfl (c_bequal (im_heapM _) (byE_SlM st 0 rfl) (hfr.mono fun k o h => st.im k o h)) rfl ?_
    rintro v47 w ⟨t47, rfl⟩
    have st := st.pure t47
    refine wl_on rfl rfl ?_
    refine wl_val (v_not rfl) rfl ?_
    refine wl_val (v_pick rfl) rfl ?_
    refine wl_nil ?_
    refine then_go ?_
    refine wc_cond rfl (fun h49 => ?_) (fun h49 => ?_)
    ·refine wc_seq ?_
     refine wc_region ?_
     refine wl_val (v_assign' (by conv => (lhs; whnf))) rfl ?_
     refine wl_val (v_assign' (by conv => (lhs; whnf))) rfl ?_
     refine wl_nil ?_
     refine then_go ?_
     refine wc_ret (then_ret ?_)
     refine ret2 rfl rfl ((st.keepOnly (l := []) (List.nil_sublist _)).out ?_)
     rw [hnx, if_neg (fun h => by simp at h49; exact h49 h.2)]
     rfl
    ·refine wc_skip ?_
     refine then_go ?_
     refine wc_seq ?_
     refine wc_region ?_
     refine wl_val (v_move' (by conv => (lhs; whnf))) rfl ?_
     refine wl_call rfl (c_bclone st.im hx (by omega)) rfl ?_
     rintro v51 w ⟨t51, m1, hg1, hi1, hxv⟩
     have st := st.grown hg1 t51 hi1
     refine wl_val (v_move' (by conv => (lhs; whnf))) rfl ?_
     refine wl_val (v_len_s Tryz.underlying23 rfl) rfl ?_
     refine wl_val (v_assign' (by conv => (lhs; whnf))) rfl ?_
     refine wl_val (v_assign' (by conv => (lhs; whnf))) rfl ?_
     refine wl_nil ?_
     refine then_go ?_
     refine wc_ret ?_
     refine ret2 (v := v51) (v' := .int .i64 (recL x.length : Nat)) rfl (by rw [← hrl]; rfl) ((st.keepOnly (l := []) (List.nil_sublist _)).out ?_)
     rw [hnx, if_pos ⟨hle, by simpa using h49⟩]
     exact ⟨v51, rfl, hxv⟩
theorem c_begun {v : Value} {b : By} (him : Im m w) (hb : SlM m v 1 b.length (bs b)) (hl : 64 ≤ b.length) (hl2 : b.length ≤ 500000000) : Ret Tryz.prog 104 #[v] w fun v' w' => Tch w w' [] [] ∧ v' = u64 (begF b) := by
 have st := St.start him
 obtain ⟨ba, bc, rfl, hbc⟩ := hb.opn
 refine ret_of Tryz.call104 Tryz.func104 rfl Tryz.ntmps104 Tryz.results104 rfl ?_
 refine wc_seq ?_
 refine wc_region ?_
 refine wl_val (v_assign' (by conv => (lhs; whnf))) rfl ?_
 refine wl_nil ?_
 refine then_go ?_
 refine wc_seq ?_
 refine wc_seq ?_
 refine wc_region ?_
 refine wl_val (v_move' (by conv => (lhs; whnf))) rfl ?_
 refine wl_val (v_sls 1 b.length Tryz.underlying23 TF.t5 rfl ⟨_, _, rfl, rfl⟩ rfl (by omega) hbc) rfl ?_
 have h1 := hb.tailB 1 (by omega)
 refine wl_call rfl (c_length st.im h1 (by rw [List.length_drop]; omega)) rfl ?_
 rintro v6 w ⟨t6, rfl⟩
 have st := st.pure t6
 obtain ⟨q, hq⟩ : ∃ q, q = rd8 (b.drop 1) := ⟨_, rfl⟩
 rw [← hq]
 refine wl_val (v_assign' (by conv => (lhs; whnf))) rfl ?_
 refine wl_nil ?_
 refine then_go ?_
 refine wc_seq ?_
 rcases Nat.eq_zero_or_pos q.toNat with hq0 | hq0
 ·refine wc_draw TF.mixed ?_
  have st := st.pure (touch_drew _)
  refine fl_val 0 rfl (fun _ => (v_move' (by conv => (lhs; whnf)))) rfl (by kernel_rfl) ?_
  refine fl_val 1 rfl (fun _ => (wl_valD (v_gtr64 (q := 0) rfl rfl) (q := false) (decide_eq_false (by rw [hq0]; decide)))) rfl (by kernel_rfl) ?_
  refine fl_val 2 rfl (fun _ => (v_move' (by conv => (lhs; whnf)))) rfl (by kernel_rfl) ?_
  refine fl_off 3 rfl rfl rfl rfl rfl rfl (by kernel_rfl) ?_
  refine fl_off 4 rfl rfl rfl rfl rfl rfl (by kernel_rfl) ?_
  refine fl_off 5 rfl rfl rfl rfl rfl rfl (by kernel_rfl) ?_
  refine fl_eff1 6 [4, 3, 1, 0] [] (by kernel_rfl) trivial rfl ?_
  refine wl_off rfl rfl rfl rfl ?_
  refine wl_nil ⟨rfl, ?_⟩
  refine fl_eff1 7 [3, 1, 0] [] (by kernel_rfl) trivial rfl ?_
  refine wl_off rfl rfl rfl rfl ?_
  refine wl_nil ⟨rfl, ?_⟩
  refine fl_val 8 rfl (fun _ => (v_pick rfl)) rfl (by kernel_rfl) ?_
  refine fl_nil (by kernel_rfl) trivial ?_
  refine then_go ?_
  refine wc_false rfl ?_
  refine wc_skip ?_
  refine then_go ?_
  refine wc_seq ?_
  refine wc_region ?_
  refine wl_val (v_assign' (by conv => (lhs; whnf))) rfl ?_
  refine wl_nil ?_
  refine then_go ?_
  refine wc_ret ?_
  refine ret1 (v := u64 0) rfl ⟨(st.keepOnly (l := []) (List.nil_sublist _)).touch, ?_⟩
  unfold begF
  rw [← hq, if_neg (fun h => by omega)]
 ·refine wc_draw TF.mixed ?_
  have st := st.pure (touch_drew _)
  refine fl_val 0 rfl (fun _ => (v_move' (by conv => (lhs; whnf)))) rfl (by kernel_rfl) ?_
  refine fl_val 1 rfl (fun _ => (wl_valD (v_gtr64 (q := 0) rfl rfl) (q := true) (decide_eq_true hq0))) rfl (by kernel_rfl) ?_
  refine fl_val 2 rfl (fun _ => (v_move' (by conv => (lhs; whnf)))) rfl (by kernel_rfl) ?_
  refine fl_on 3 rfl rfl rfl rfl (fun _ => (v_move' (by conv => (lhs; whnf)))) rfl (by kernel_rfl) ?_
  refine fl_on 4 rfl rfl rfl rfl (fun _ => (v_sls 0 64 Tryz.underlying23 TF.t5 rfl rfl ⟨_, _, rfl, rfl⟩ (by omega) (by omega))) rfl (by kernel_rfl) ?_
  refine fl_on 5 rfl rfl rfl rfl (fun _ => (v_move' (by conv => (lhs; whnf)))) rfl (by kernel_rfl) ?_
  refine fl_eff1 6 [4, 3, 1, 0] [] (by kernel_rfl) trivial rfl ?_
  refine wl_on rfl rfl ?_
  refine wl_call rfl (c_jhead st) rfl ?_
  intro v13 w st
  refine wl_nil ⟨rfl, ?_⟩
  refine fl_eff1 7 [3, 1, 0] [] (by kernel_rfl) trivial rfl ?_
  have hfr := hb.partB 0 64 (by omega) hl
  rw [List.drop_zero, Nat.sub_zero] at hfr
  refine wl_on rfl rfl ?_
  refine wl_call rfl (c_bequal (im_heapM _) (hfr.mono fun k o h => st.im k o h) (byE_SlM st 0 rfl)) rfl ?_
  rintro v14 w ⟨t14, rfl⟩
  have st := st.pure t14
  refine wl_nil ⟨rfl, ?_⟩
  refine fl_val 8 rfl (fun _ => (v_pick rfl)) rfl (by kernel_rfl) ?_
  refine fl_nil (by kernel_rfl) trivial ?_
  refine then_go ?_
  refine wc_cond rfl (fun h15 => ?_) (fun h15 => ?_)
  ·refine wc_seq ?_
   refine wc_region ?_
   refine wl_val (v_move' (by conv => (lhs; whnf))) rfl ?_
   refine wl_val (v_assign' (by conv => (lhs; whnf))) rfl ?_
   refine wl_nil ?_
   refine then_go ?_
   refine wc_ret (then_ret ?_)
   refine ret1 (v := u64 q) rfl ⟨(st.keepOnly (l := []) (List.nil_sublist _)).touch, ?_⟩
   unfold begF
   rw [← hq, if_pos ⟨hq0, of_decide_eq_true h15⟩]
  ·refine wc_skip ?_
   refine then_go ?_
   refine wc_seq ?_
   refine wc_region ?_
   refine wl_val (v_assign' (by conv => (lhs; whnf))) rfl ?_
   refine wl_nil ?_
   refine then_go ?_
   refine wc_ret ?_
   refine ret1 (v := u64 0) rfl ⟨(st.keepOnly (l := []) (List.nil_sublist _)).touch, ?_⟩
   unfold begF
   rw [← hq, if_neg (fun h => of_decide_eq_false h15 h.2)]
end
end Go.Proofs.YtladpaehbolghaaGreat

namespace Go.Proofs.YtladpaehbolghaaGreat
open Go Go.RowKit K SH GC JR
abbrev faultV : Value := .iface 115 (.agg #[])
abbrev rdE (rb : Nat) (bv : Value) (i : Nat) : Ent := K.blk rb #[bv, .int .i64 i] 117
abbrev rdP (rb : Nat) : Value := .pointer (some ⟨rb, 0, none⟩)
section
variable {m0 m : Mem} {F : List Nat} {w0 w : World} {Es : List Ent}
theorem c_fail {rb : Nat} : RetP Tryz.prog 39 #[rdP rb] w faultV (fun _ _ => False) (fun w' => w' = w) := by
 refine ret_ofP Tryz.call39 Tryz.func39 rfl Tryz.ntmps39 Tryz.results39 rfl ?_
 refine wc_region ?_
 refine wl_val (v_build (c' := #[]) [] TF.z115 TF.p115 rfl rfl) rfl ?_
 refine wl_val (v_mkiface Tryz.underlying115 trivial rfl) rfl ?_
 exact wl_panic rfl ⟨rfl, rfl⟩
theorem c_rbyte {rb i : Nat} {bv : Value} {b : List UInt8} (st : St m0 m F w0 w (rdE rb bv i :: Es)) (hb : SlM m bv 1 b.length (bs b)) (hl : b.length ≤ 1099511627776) (hi : i ≤ b.length) :
  RetP Tryz.prog 89 #[rdP rb] w faultV (fun v w' => ∃ (h : i < b.length), v = u8 b[i] ∧ St m0 m F w0 w' (rdE rb bv (i + 1) :: Es)) (fun w' => ¬ i < b.length ∧ St m0 m F w0 w' (rdE rb bv i :: Es)) := by
 obtain ⟨ba, bc, rfl, hbc⟩ := hb.opn
 refine ret_ofP Tryz.call89 Tryz.func89 rfl Tryz.ntmps89 Tryz.results89 rfl ?_
 refine wc_seq ?_
 refine wc_region ?_
 refine wl_val (v_assign' (by conv => (lhs; whnf))) rfl ?_
 refine wl_nil ?_
 refine then_go ?_
 refine wc_seq ?_
 refine wc_seq ?_
 refine wc_draw TF.mixed ?_
 have st := st.pure (touch_drew _)
 refine fl_val 0 rfl (fun _ => (v_move' (by conv => (lhs; whnf)))) rfl (by kernel_rfl) ?_
 refine fl_val 1 rfl (fun _ => (v_nil rfl)) rfl (by kernel_rfl) ?_
 refine fl_val 2 rfl (fun _ => (v_fa TF.f117_1 rfl)) rfl (by kernel_rfl) ?_
 refine fl_ld 3 rfl (v_load rfl (st.reads (v := .int .i64 i) 0 rfl TF.t3 rfl)) (by kernel_rfl) ?_
 refine fl_val 4 rfl (fun _ => (v_move' (by conv => (lhs; whnf)))) rfl (by kernel_rfl) ?_
 refine fl_val 5 rfl (fun _ => (v_nil rfl)) rfl (by kernel_rfl) ?_
 refine fl_val 6 rfl (fun _ => (v_fa TF.f117_0 rfl)) rfl (by kernel_rfl) ?_
 refine fl_ld 7 rfl (v_load rfl (st.reads (v := .slice ba b.length bc) 0 rfl TF.t23 rfl)) (by kernel_rfl) ?_
 refine fl_val 8 rfl (fun _ => (v_len_s Tryz.underlying23 rfl)) rfl (by kernel_rfl) ?_
 refine fl_val 9 rfl (fun _ => (v_geq rfl rfl)) rfl (by kernel_rfl) ?_
 refine fl_nil (by kernel_rfl) ⟨obl_ld rfl rfl rfl (v_load rfl (st.reads (v := .slice ba b.length bc) 0 rfl TF.t23 rfl)), obl_ld rfl rfl rfl (v_load rfl (st.reads (v := .int .i64 i) 0 rfl TF.t3 rfl)), trivial⟩ ?_
 refine then_go ?_
 refine wc_cond rfl (fun h12 => ?_) (fun h12 => ?_)
 ·refine wc_region ?_
  refine wl_val (v_move' (by conv => (lhs; whnf))) rfl ?_
  exact wl_callP rfl c_fail rfl (fun w' h => by subst h; exact ⟨rfl, by have := of_decide_eq_true h12; omega, st⟩) (fun _ _ h => h.elim)
 ·refine wc_skip ?_
  refine then_go ?_
  refine wc_seq ?_
  have hib : i < b.length := by have := of_decide_eq_false h12; omega
  refine wc_region ?_
  refine wl_val (v_move' (by conv => (lhs; whnf))) rfl ?_
  refine wl_val (v_nil rfl) rfl ?_
  refine wl_val (v_fa TF.f117_1 rfl) rfl ?_
  refine wl_val (v_load rfl (st.reads (v := .int .i64 i) 0 rfl TF.t3 rfl)) rfl ?_
  refine wl_val (v_add' (c := ((i + 1 : Nat) : Int)) rfl rfl (by omega) (by omega) (by omega)) rfl ?_
  refine wl_val (v_nil rfl) rfl ?_
  refine wl_val (v_fa TF.f117_1 rfl) rfl ?_
  refine wl_store1 (v := .int .i64 ((i + 1 : Nat) : Int)) 0 st rfl TF.t3 rfl rfl rfl (lt_ok rfl) ?_
  intro w st
  have st : St m0 m F w0 w (rdE rb (.slice ba b.length bc) (i + 1) :: Es) := st
  refine wl_nil ?_
  refine then_go ?_
  refine wc_seq ?_
  obtain ⟨bb, bo, _, hbe, _⟩ := hb.ptr1 (by omega) (by decide)
  simp only [Value.slice.injEq] at hbe
  obtain ⟨hba, _, _⟩ := hbe
  subst hba
  refine wc_draw TF.mixed ?_
  have st := st.pure (touch_drew _)
  refine fl_val 0 rfl (fun _ => (v_move' (by conv => (lhs; whnf)))) rfl (by kernel_rfl) ?_
  refine fl_val 1 rfl (fun _ => (v_nil rfl)) rfl (by kernel_rfl) ?_
  refine fl_val 2 rfl (fun _ => (v_fa TF.f117_0 rfl)) rfl (by kernel_rfl) ?_
  refine fl_ld 3 rfl (v_load rfl (st.reads (v := .slice (some ⟨bb, bo, none⟩) b.length bc) 0 rfl TF.t23 rfl)) (by kernel_rfl) ?_
  refine fl_val 4 rfl (fun _ => (v_move' (by conv => (lhs; whnf)))) rfl (by kernel_rfl) ?_
  refine fl_val 5 rfl (fun _ => (v_nil rfl)) rfl (by kernel_rfl) ?_
  refine fl_val 6 rfl (fun _ => (v_fa TF.f117_1 rfl)) rfl (by kernel_rfl) ?_
  refine fl_ld 7 rfl (v_load rfl (st.reads (v := .int .i64 ((i + 1 : Nat) : Int)) 0 rfl TF.t3 rfl)) (by kernel_rfl) ?_
  refine fl_val 8 rfl (fun _ => (v_sub' (c := (i : Int)) rfl rfl (by omega) (by omega) (by omega))) rfl (by kernel_rfl) ?_
  refine fl_val 9 rfl (fun _ => (v_ias i Tryz.underlying23 TF.t5 rfl rfl (by first | rfl | omega) (by first | omega | (dsimp only at *; omega)))) rfl (by kernel_rfl) ?_
  refine fl_ld 10 rfl (v_load rfl (SlM.rdB TF.t5 i hb hib st.im)) (by kernel_rfl) ?_
  refine fl_eff1 11 [] [] (by kernel_rfl) ⟨obl_ld rfl rfl rfl (v_load rfl (SlM.rdB TF.t5 i hb hib st.im)), obl_ld rfl rfl rfl (v_load rfl (st.reads (v := .int .i64 ((i + 1 : Nat) : Int)) 0 rfl TF.t3 rfl)), obl_ld rfl rfl rfl (v_load rfl (st.reads (v := .slice (some ⟨bb, bo, none⟩) b.length bc) 0 rfl TF.t23 rfl)), trivial⟩ rfl ?_
  refine wl_val (v_assign' (by conv => (lhs; whnf))) rfl ?_
  refine wl_nil ⟨rfl, ?_⟩
  refine fl_nil (by kernel_rfl) trivial ?_
  refine then_go ?_
  refine wc_ret ?_
  exact toP (ret1 rfl ⟨hib, rfl, st⟩)
theorem or_low {A : UInt64} {c k : Nat} (hA : A.toNat < 2 ^ (7 * k)) (hk : k ≤ 9) (hc : c < 128) (h9 : k = 9 → c ≤ 1) : (A ||| shl64 (UInt64.ofNat c) (7 * k)).toNat = A.toNat + 2 ^ (7 * k) * c ∧ A.toNat + 2 ^ (7 * k) * c < 2 ^ (7 * (k + 1)) := by
 have e1 : (UInt64.ofNat c).toNat = c := by rw [UInt64.toNat_ofNat']; omega
 have hp : 0 < 2 ^ (7 * k) := Nat.pow_pos (by decide)
 have e7 : 2 ^ (7 * (k + 1)) = 2 ^ (7 * k) * 128 := by rw [show 7 * (k + 1) = 7 * k + 7 by omega, Nat.pow_add]
 have hcb : 2 ^ (7 * k) * c ≤ 2 ^ (7 * k) * 127 := Nat.mul_le_mul_left _ (by omega)
 have h64 : c * 2 ^ (7 * k) < 2 ^ 64 := by
  by_cases h : k = 9
  ·subst h
   have := h9 rfl
   have h1 : c * 2 ^ (7 * 9) ≤ 1 * 2 ^ (7 * 9) := Nat.mul_le_mul_right _ this
   exact Nat.lt_of_le_of_lt h1 (by decide)
  ·have h1 : 2 ^ (7 * k) ≤ 2 ^ 56 := Nat.pow_le_pow_right (by decide) (by omega)
   have h2 : c * 2 ^ (7 * k) ≤ 127 * 2 ^ 56 := Nat.mul_le_mul (by omega) h1
   exact Nat.lt_of_le_of_lt h2 (by decide)
 have e2 : (shl64 (UInt64.ofNat c) (7 * k)).toNat = c * 2 ^ (7 * k) := by
  unfold shl64
  rw [UInt64.toNat_ofNat', e1, Nat.mod_eq_of_lt h64]
 refine ⟨?_, by rw [e7]; omega⟩
 rw [UInt64.toNat_or, e2, Nat.or_comm, ← Nat.shiftLeft_eq, ← Nat.shiftLeft_add_eq_or_of_lt hA, Nat.shiftLeft_eq, Nat.mul_comm c]
 omega
theorem c_rdnum {rb i : Nat} {bv : Value} {b : List UInt8} (st : St m0 m F w0 w (rdE rb bv i :: Es)) (hb : SlM m bv 1 b.length (bs b)) (hl : b.length ≤ 1099511627776) (hi : i ≤ b.length) :
  RetP Tryz.prog 66 #[rdP rb] w faultV (fun v w' => ∃ n j, i < j ∧ j ≤ b.length ∧ numR 0 (b.drop i) = some (n, b.drop j) ∧ v = u64 (UInt64.ofNat n) ∧ St m0 m F w0 w' (rdE rb bv j :: Es)) (fun w' => numR 0 (b.drop i) = none ∧ ∃ j, j ≤ b.length ∧ St m0 m F w0 w' (rdE rb bv j :: Es)) := by
 obtain ⟨N0, hN0⟩ : ∃ N0, N0 = numR 0 (b.drop i) := ⟨_, rfl⟩
 rw [← hN0]
 refine ret_ofP Tryz.call66 Tryz.func66 rfl Tryz.ntmps66 Tryz.results66 rfl ?_
 refine wc_seq ?_
 refine wc_region ?_
 refine wl_val (v_assign' (by conv => (lhs; whnf))) rfl ?_
 refine wl_nil ?_
 refine then_go ?_
 refine wc_seq ?_
 refine wc_region ?_
 refine wl_val (v_assign' (by conv => (lhs; whnf))) rfl ?_
 refine wl_val (v_assign' (by conv => (lhs; whnf))) rfl ?_
 refine wl_nil ?_
 refine then_go ?_
 refine wc_block ?_
 refine wc_loop (S := Nat) (fun q r w' => ∃ (k j : Nat) (A : UInt64), q = 10 - k ∧ k ≤ 9 ∧ i ≤ j ∧ j ≤ b.length ∧ A.toNat < 2 ^ (7 * k) ∧ r 0 = rdP rb ∧ r 3 = u64 A ∧ r 4 = .int .i64 ((7 * k : Nat) : Int) ∧ (N0 = match numR k (b.drop j) with | none => none | some (n, r) => some (A.toNat + 2 ^ (7 * k) * n, r)) ∧ St m0 m F w0 w' (rdE rb bv j :: Es)) id 10 ⟨0, i, 0, rfl, by omega, Nat.le_refl _, hi, by decide, rfl, rfl, rfl, by rw [hN0]; cases numR 0 (b.drop i) <;> simp, st⟩ ?_
 clear st hN0
 rintro q r w2 ⟨k, j, A, hq, hk, hij, hj, hA, g0, g3, g4, hN, st⟩
 refine wc_o 0 g0 (wc_o 3 g3 (wc_o 4 g4 ?_))
 refine wc_block ?_
 refine wc_seq ?_
 refine wc_region ?_
 refine wl_val (v_move' (by conv => (lhs; whnf))) rfl ?_
 refine wl_callP rfl (c_rbyte st hb hl hj) rfl (fun w' h => ⟨rfl, by rw [hN, List.drop_eq_nil_of_le (by omega)]; rfl, j, hj, h.2⟩) ?_
 rintro v7 w ⟨hjl, rfl, st⟩
 rw [List.drop_eq_getElem_cons hjl, numR_cons] at hN
 obtain ⟨c, hc⟩ : ∃ c, c = b[j] := ⟨_, rfl⟩
 rw [← hc] at hN ⊢
 have hc8 := c.toNat_lt
 refine wl_val (v_assign' (by conv => (lhs; whnf))) rfl ?_
 refine wl_nil ?_
 refine then_go ?_
 refine wc_cut (fun r w' => ¬ ((k = 9 ∧ 1 < c.toNat) ∨ (0 < k ∧ c.toNat = 0)) ∧ r 0 = rdP rb ∧ r 3 = u64 A ∧ r 4 = .int .i64 ((7 * k : Nat) : Int) ∧ r 5 = u8 c ∧ St m0 m F w0 w' (rdE rb bv (j + 1) :: Es)) ?_ ?_
 ·refine wc_seq ?_
  by_cases h9 : k = 9
  ·by_cases hc1 : 1 < c.toNat
   ·refine wc_region ?_
    refine wl_val (v_move' (by conv => (lhs; whnf))) rfl ?_
    refine wl_val (wl_valD (v_eql rfl rfl) (q := true) (decide_eq_true (by omega))) rfl ?_
    refine wl_val (v_move' (by conv => (lhs; whnf))) rfl ?_
    refine wl_on rfl rfl ?_
    refine wl_val (v_move' (by conv => (lhs; whnf))) rfl ?_
    refine wl_on rfl rfl ?_
    refine wl_val (wl_valD (v_gtr (a := (c.toNat : Int)) (b := 1) rfl rfl) (q := true) (decide_eq_true (by omega))) rfl ?_
    refine wl_val (v_pick rfl) rfl ?_
    refine wl_val (v_move' (by conv => (lhs; whnf))) rfl ?_
    refine wl_off rfl rfl rfl rfl ?_
    refine wl_off rfl rfl rfl rfl ?_
    refine wl_off rfl rfl rfl rfl ?_
    refine offU rfl rfl rfl ?_
    refine offU rfl rfl rfl ?_
    refine wl_off rfl rfl rfl rfl ?_
    refine wl_val (v_pick rfl) rfl ?_
    refine wl_nil ?_
    refine then_go ?_
    refine wc_true rfl ?_
    refine wc_region ?_
    refine wl_val (v_move' (by conv => (lhs; whnf))) rfl ?_
    rw [if_pos (by omega)] at hN
    exact wl_callP rfl c_fail rfl (fun w' h => by subst h; exact ⟨rfl, hN, j + 1, by omega, st⟩) (fun _ _ h => h.elim)
   ·refine wc_region ?_
    refine wl_val (v_move' (by conv => (lhs; whnf))) rfl ?_
    refine wl_val (wl_valD (v_eql rfl rfl) (q := true) (decide_eq_true (by omega))) rfl ?_
    refine wl_val (v_move' (by conv => (lhs; whnf))) rfl ?_
    refine wl_on rfl rfl ?_
    refine wl_val (v_move' (by conv => (lhs; whnf))) rfl ?_
    refine wl_on rfl rfl ?_
    refine wl_val (wl_valD (v_gtr (a := (c.toNat : Int)) (b := 1) rfl rfl) (q := false) (decide_eq_false (by omega))) rfl ?_
    refine wl_val (v_pick rfl) rfl ?_
    refine wl_val (v_move' (by conv => (lhs; whnf))) rfl ?_
    refine wl_on rfl rfl ?_
    refine wl_val (v_move' (by conv => (lhs; whnf))) rfl ?_
    refine wl_on rfl rfl ?_
    refine wl_val (wl_valD (v_gtr rfl rfl) (q := true) (decide_eq_true (by omega))) rfl ?_
    refine wl_on rfl rfl ?_
    refine wl_val (v_move' (by conv => (lhs; whnf))) rfl ?_
    refine wl_on rfl rfl ?_
    refine wl_val (v_move' (by conv => (lhs; whnf))) rfl ?_
    refine wl_on rfl rfl ?_
    refine wl_val (v_eql (a := (c.toNat : Int)) (b := 0) rfl rfl) rfl ?_
    refine wl_on rfl rfl ?_
    refine wl_val (v_pick rfl) rfl ?_
    refine wl_val (v_pick rfl) rfl ?_
    refine wl_nil ?_
    refine then_go ?_
    refine wc_cond rfl (fun h21 => ?_) (fun h21 => ?_)
    ·refine wc_region ?_
     refine wl_val (v_move' (by conv => (lhs; whnf))) rfl ?_
     have hz := of_decide_eq_true h21
     rw [if_pos (by omega)] at hN
     exact wl_callP rfl c_fail rfl (fun w' h => by subst h; exact ⟨rfl, hN, j + 1, by omega, st⟩) (fun _ _ h => h.elim)
    ·refine wc_skip ?_
     refine then_go ?_
     exact ⟨by have := of_decide_eq_false h21; omega, rfl, rfl, rfl, rfl, st⟩
  ·by_cases hk0 : 0 < k
   ·refine wc_region ?_
    refine wl_val (v_move' (by conv => (lhs; whnf))) rfl ?_
    refine wl_val (wl_valD (v_eql rfl rfl) (q := false) (decide_eq_false (by omega))) rfl ?_
    refine wl_val (v_move' (by conv => (lhs; whnf))) rfl ?_
    refine wl_off rfl rfl rfl rfl ?_
    refine wl_off rfl rfl rfl rfl ?_
    refine wl_val (v_pick rfl) rfl ?_
    refine wl_val (v_move' (by conv => (lhs; whnf))) rfl ?_
    refine wl_on rfl rfl ?_
    refine wl_val (v_move' (by conv => (lhs; whnf))) rfl ?_
    refine wl_on rfl rfl ?_
    refine wl_val (wl_valD (v_gtr rfl rfl) (q := true) (decide_eq_true (by omega))) rfl ?_
    refine wl_on rfl rfl ?_
    refine wl_val (v_move' (by conv => (lhs; whnf))) rfl ?_
    refine wl_on rfl rfl ?_
    refine wl_val (v_move' (by conv => (lhs; whnf))) rfl ?_
    refine wl_on rfl rfl ?_
    refine wl_val (v_eql (a := (c.toNat : Int)) (b := 0) rfl rfl) rfl ?_
    refine wl_on rfl rfl ?_
    refine wl_val (v_pick rfl) rfl ?_
    refine wl_val (v_pick rfl) rfl ?_
    refine wl_nil ?_
    refine then_go ?_
    refine wc_cond rfl (fun h21 => ?_) (fun h21 => ?_)
    ·refine wc_region ?_
     refine wl_val (v_move' (by conv => (lhs; whnf))) rfl ?_
     have hz := of_decide_eq_true h21
     rw [if_pos (by omega)] at hN
     exact wl_callP rfl c_fail rfl (fun w' h => by subst h; exact ⟨rfl, hN, j + 1, by omega, st⟩) (fun _ _ h => h.elim)
    ·refine wc_skip ?_
     refine then_go ?_
     exact ⟨by have := of_decide_eq_false h21; omega, rfl, rfl, rfl, rfl, st⟩
   ·refine wc_region ?_
    refine wl_val (v_move' (by conv => (lhs; whnf))) rfl ?_
    refine wl_val (wl_valD (v_eql rfl rfl) (q := false) (decide_eq_false (by omega))) rfl ?_
    refine wl_val (v_move' (by conv => (lhs; whnf))) rfl ?_
    refine wl_off rfl rfl rfl rfl ?_
    refine wl_off rfl rfl rfl rfl ?_
    refine wl_val (v_pick rfl) rfl ?_
    refine wl_val (v_move' (by conv => (lhs; whnf))) rfl ?_
    refine wl_on rfl rfl ?_
    refine wl_val (v_move' (by conv => (lhs; whnf))) rfl ?_
    refine wl_on rfl rfl ?_
    refine wl_val (wl_valD (v_gtr rfl rfl) (q := false) (decide_eq_false (by omega))) rfl ?_
    refine wl_on rfl rfl ?_
    refine wl_val (v_move' (by conv => (lhs; whnf))) rfl ?_
    refine wl_off rfl rfl rfl rfl ?_
    refine wl_off rfl rfl rfl rfl ?_
    refine wl_on rfl rfl ?_
    refine wl_val (v_pick rfl) rfl ?_
    refine wl_val (v_pick rfl) rfl ?_
    refine wl_nil ?_
    refine then_go ?_
    refine wc_false rfl ?_
    refine wc_skip ?_
    refine then_go ?_
    exact ⟨by omega, rfl, rfl, rfl, rfl, st⟩
 ·clear st
  rintro r w ⟨hgood, g0, g3, g4, g5, st⟩
  refine wc_o 0 g0 (wc_o 3 g3 (wc_o 4 g4 (wc_o 5 g5 ?_)))
  rw [if_neg hgood] at hN
  have hor := or_low (c := c.toNat % 128) hA hk (by omega) (by omega)
  have h127 : c.toNat &&& 127 = c.toNat % 128 := Nat.and_two_pow_sub_one_eq_mod c.toNat 7
  refine wc_seq ?_
  refine wc_region ?_
  refine wl_val (v_move' (by conv => (lhs; whnf))) rfl ?_
  refine wl_val (v_move' (by conv => (lhs; whnf))) rfl ?_
  refine wl_val (v_to (v' := .int .u8 (c.toNat % 128 : Nat)) (v_and8 127 (by omega) rfl rfl) (by rw [h127])) rfl ?_
  refine wl_val (v_convi_64 Tryz.underlying5 Tryz.underlying47 rfl) rfl ?_
  refine wl_val (v_move' (by conv => (lhs; whnf))) rfl ?_
  refine wl_val (v_shl64 (7 * k) rfl rfl (by omega)) rfl ?_
  refine wl_val (v_or64 rfl rfl) rfl ?_
  refine wl_val (v_assign' (by conv => (lhs; whnf))) rfl ?_
  refine wl_nil ?_
  refine then_go ?_
  refine wc_seq ?_
  refine wc_seq ?_
  refine wc_region ?_
  refine wl_val (v_move' (by conv => (lhs; whnf))) rfl ?_
  refine wl_val (v_lss (a := (c.toNat : Int)) (b := 128) rfl rfl) rfl ?_
  refine wl_nil ?_
  refine then_go ?_
  refine wc_cond rfl (fun h32 => ?_) (fun h32 => ?_)
  ·refine wc_seq ?_
   refine wc_region ?_
   refine wl_val (v_move' (by conv => (lhs; whnf))) rfl ?_
   refine wl_val (v_assign' (by conv => (lhs; whnf))) rfl ?_
   refine wl_nil ?_
   refine then_go ?_
   refine wc_ret (then_ret (block_ret (then_ret (block_ret ?_))))
   have h128 : c.toNat < 128 := by have := of_decide_eq_true h32; omega
   rw [if_pos h128] at hN
   have e128 : c.toNat % 128 = c.toNat := Nat.mod_eq_of_lt h128
   have hval : u64 (A ||| shl64 (UInt64.ofNat (c.toNat % 128)) (7 * k)) = u64 (UInt64.ofNat (A.toNat + 2 ^ (7 * k) * c.toNat)) := by
    rw [e128] at hor ⊢
    rw [← hor.1, UInt64.ofNat_toNat]
   exact toP (ret1 rfl ⟨A.toNat + 2 ^ (7 * k) * c.toNat, j + 1, by omega, by omega, hN, hval, st⟩)
  ·refine wc_skip ?_
   refine then_go ?_
   refine wc_region ?_
   refine wl_val (v_move' (by conv => (lhs; whnf))) rfl ?_
   refine wl_val (v_add' (c := ((7 * (k + 1) : Nat) : Int)) rfl rfl (by omega) (by omega) (by omega)) rfl ?_
   refine wl_val (v_assign' (by conv => (lhs; whnf))) rfl ?_
   refine wl_nil ?_
   refine block_go (then_go ?_)
   have h128 : ¬ c.toNat < 128 := by have := of_decide_eq_false h32; omega
   have hk9 : k ≠ 9 := by rintro rfl; exact hgood (.inl ⟨rfl, by omega⟩)
   rw [if_neg h128] at hN
   refine ⟨10 - (k + 1), by simp; omega, k + 1, j + 1, _, rfl, by omega, by omega, by omega, ?_, rfl, rfl, rfl, ?_, st⟩
   ·rw [hor.1]; exact hor.2
   ·rw [hN, hor.1]
    cases numR (k + 1) (b.drop (j + 1)) with
    | none => rfl
    | some p =>
     obtain ⟨n, r⟩ := p
     simp only [Option.some.injEq, Prod.mk.injEq, and_true]
     rw [show 7 * (k + 1) = 7 * k + 7 by omega, Nat.pow_add, Nat.mul_add, Nat.mul_assoc, Nat.add_assoc]
end
end Go.Proofs.YtladpaehbolghaaGreat

namespace Go.Proofs.YtladpaehbolghaaGreat
open Go Go.RowKit K Go.Sort Go.Shelf
section
variable {α : Type} [Inhabited α] {enc : α → List Value} {k : Nat}
omit [Inhabited α] in
theorem flat_len0 (hk : ∀ x, (enc x).length = k) (L : List α) : (L.flatMap enc).length = L.length * k := by
 induction L with
 | nil => simp
 | cons x L ih => rw [List.flatMap_cons, List.length_append, ih, hk, List.length_cons, Nat.add_mul]; omega
theorem flat_get (hk : ∀ x, (enc x).length = k) : ∀ (L : List α) (t : Nat), t < L.length * k → (L.flatMap enc)[t]! = (enc L[t / k]!)[t % k]!
  | [], t, h => by simp at h
  | x :: L, t, h => by
    have k0 : 0 < k := by rcases Nat.eq_zero_or_pos k with e | e; · simp [e] at h
                          · exact e
    rw [List.length_cons, Nat.add_mul, Nat.one_mul] at h
    rw [List.flatMap_cons, List.getElem!_eq_getElem?_getD]
    by_cases ht : t < k
    · rw [List.getElem?_append_left (by rw [hk]; exact ht), Nat.div_eq_of_lt ht, Nat.mod_eq_of_lt ht, ← List.getElem!_eq_getElem?_getD]
      rfl
    · obtain ⟨u, rfl⟩ : ∃ u, t = u + k := ⟨t - k, by omega⟩
      rw [List.getElem?_append_right (by rw [hk]; omega), hk, Nat.add_sub_cancel, Nat.add_div_right _ k0, Nat.add_mod_right, ← List.getElem!_eq_getElem?_getD, flat_get hk L u (by omega)]
      simp
theorem flatK_eq (hk : ∀ x, (enc x).length = k) (L : List α) : flatK enc k L.toArray = (L.flatMap enc).toArray := by
 refine ext_get! (by simp [flat_len0 hk]) fun t ht => ?_
 have ht' : t < L.length * k := by simpa using ht
 rw [get_flatK _ _ _ t (by simpa using ht')]
 have := flat_get hk L t ht'
 simpa using this.symm
theorem put_cells {F G sp : List Value} (h : F.length = G.length) : putCells id 0 F.toArray (G ++ sp).toArray = (F ++ sp).toArray := by
 refine ext_get! (by simp [putCells, h]) fun t ht => ?_
 have ht' : t < G.length + sp.length := by simpa [putCells] using ht
 unfold putCells
 rw [getElem!_pos _ t (by simpa using ht'), Array.getElem_mapIdx, getElem!_pos _ t (by simp [h]; omega)]
 by_cases hf : t < F.length
 ·simp [hf, List.getElem_append_left]
 ·have hg : ¬ t < G.length := by omega
  simp [hg, h]
  rw [List.getElem_append_right (by omega), List.getElem_append_right (by omega)]
  simp [h]
theorem sortedW {P : Program} {w : World} {b : Nat} {L L' : List α} {sp : List Value} {E : TypeId} {n : Nat} {os : Array Obj} (hk : ∀ x, (enc x).length = k) (hl : L'.length = L.length) (hb : w.heap[b]? = some (.cells (L.flatMap enc ++ sp).toArray E (0, 0))) :
  Tch w (sortWorldK enc k w b 0 n L'.toArray os) [b] [b] ∧ (sortWorldK enc k w b 0 n L'.toArray os).heap[b]? = some (.cells (L'.flatMap enc ++ sp).toArray E (0, 0)) := by
 have hlt := lt_of_get hb
 unfold sortWorldK putRowK putRow mapBlock
 rw [flatK_eq hk]
 refine ⟨⟨rfl, rfl, rfl, by simp [grow, ahead], fun j hj hn => ?_, fun _ h => .inl h⟩, ?_⟩
 ·show ((w.heap.modify b _) ++ os)[j]? = _
  rw [Array.getElem?_append_left (by simpa using hj), Array.getElem?_modify, if_neg (by simp at hn; exact fun e => hn e.symm)]
 ·show ((w.heap.modify b _) ++ os)[b]? = _
  rw [Array.getElem?_append_left (by simpa using hlt), Array.getElem?_modify, if_pos rfl, hb]
  show some (Obj.cells (putCells id 0 _ _) E (0, 0)) = _
  rw [put_cells (by rw [flat_len0 hk, flat_len0 hk, hl])]
theorem holds_row {w : World} {b : Nat} {L : List α} {sp : List Value} {E : TypeId} (hk : ∀ x, (enc x).length = k) (hb : w.heap[b]? = some (.cells (L.flatMap enc ++ sp).toArray E (0, 0))) : HoldsK enc k w b 0 L.toArray := by
 unfold HoldsK
 rw [flatK_eq hk]
 intro j hj
 have hj' : j < (L.flatMap enc).length := by simpa using hj
 constructor
 ·unfold World.cell?
  rw [hb]
  simp only [Option.isSome_none, Bool.false_eq_true, if_false, Nat.zero_add, List.getElem?_toArray, id_eq]
  rw [List.getElem?_append_left hj', List.getElem?_eq_getElem hj', getElem!_pos _ j hj]
  simp
 ·unfold World.frozen?
  rw [hb]
  simp
theorem wl_boxX {P : Program} {n d : Nat} {ops : Array Oper} {Q : Po} {r : Fr} {w : World} {rest : List Oper} {ty : TypeId} {pos : String} {after : Array Edge} {T : TypeId} {x : Operand} {v : Value} (hx : ev r x = v) (hd : Nat.blt d n = true)
  (k : WL P n ops Q rest (upd d (.pointer (some ⟨w.heap.size, 0, none⟩)) r) (grow w #[.cells v.cells T (0, 0)])) :
  WL P n ops Q (⟨some d, .box T x, ty, pos, after, none⟩ :: rest) r w := by
 refine wl_val (v := .pointer (some ⟨w.heap.size, 0, none⟩)) (w' := w.alloc (.cells v.cells T)) ?_ hd (by rw [alloc_eq_grow]; exact k)
 intro _ _ _ _
 simp [execOp, Instr.box, newVar, newRow, hx]
theorem grow_at {w : World} {os : Array Obj} {k : Nat} : (grow w os).heap[w.heap.size + k]? = os[k]? := by
 show (w.heap ++ os)[w.heap.size + k]? = _
 rw [Array.getElem?_append_right (by omega), Nat.add_sub_cancel_left]
theorem sort_row {P : Program} {ρ : Ren} {E : TypeId} {by' : Nat} (LY : SlLaysF0.n6 P ρ) (hE : ρ.t 24 = E) (tf : TyF P E true k by') (hk : ∀ x, (enc x).length = k) (h1 : ∀ x, ∀ v ∈ enc x, v.oneCell' = true) {cf : α → α → Int} (hO : SWO (ltOf cf)) {g : Nat}
  (eg : ∀ args w, (callFunc g args).run P w = .ok (.enter g args) w) (hcmp : ∀ (W : World) (x y : α), Calls P g #[.agg (enc x).toArray, .agg (enc y).toArray] W fun e w' => e = .returned (.int .i64 (cf x y)) ∧ ∃ q os', w' = grow (W.drewN q) os')
  {m0 m : Mem} {F : List Nat} {w0 w : World} {Es : List Ent} {v : Value} {L : List α} (st : St m0 m F w0 w Es) (i : Nat) (hi : Es[i]? = some (rowE v E k L.length (L.flatMap enc))) (hL : L.length ≤ 1000000000) :
  Calls P (ρ.f 6) #[v, .func (.func g) #[] #[]] w fun e w' => e = .returned (.tuple #[]) ∧ ∃ L' : List α, L'.Perm L ∧ L'.Pairwise (fun x y => ltOf cf y x = false) ∧ St m0 m F w0 w' (Es.set i (rowE v E k L'.length (L'.flatMap enc))) := by
 have hset : Es.set i (rowE v E k L.length (L.flatMap enc)) = Es := by
  obtain ⟨h, he⟩ := List.getElem?_eq_some_iff.1 hi
  rw [← he, List.set_getElem_self]
 rcases (st.at hi).2 with ⟨rfl, h0⟩ | ⟨b, cap, cur, rfl, _, hg, hc, hm, hs, ht⟩
 ·have hn : L.length = 0 := h0
  refine Calls.mono (AnyF.slices_SortFunc_none LY none 0 _ w) ?_
  rintro e w' ⟨rfl, rfl⟩
  have hnil : L = [] := List.length_eq_zero_iff.1 hn
  subst hnil
  exact ⟨rfl, [], List.Perm.refl _, List.Pairwise.nil, by rw [hset]; exact st⟩
 ·obtain ⟨sp, hsp⟩ : ∃ sp, cur = (L.flatMap enc ++ sp).toArray := ⟨cur.toList.drop (L.length * k), by rw [← ht, List.take_append_drop]⟩
  rw [hsp] at hg
  have hcon := AnyQ.slices_SortFunc LY k (hE ▸ tf.isagg) (hE ▸ tf.sz) enc hk h1 cf hO g #[] b 0 cap L.toArray w eg (fun _ _ _ _ x y => hcmp _ x y) (holds_row hk hg) (lt_of_get hg) (by rw [List.size_toArray]; omega)
  rw [List.size_toArray] at hcon
  refine Calls.mono hcon ?_
  rintro e w' ⟨rfl, d', n, os, hp, hs', rfl⟩
  obtain ⟨L', hL'⟩ : ∃ L', d' = L'.toArray := ⟨d'.toList, rfl⟩
  subst hL'
  have hlen : L'.length = L.length := by simpa using hp.1
  have hperm : L'.Perm L := by
   have := hp.2.2
   simpa [hlen, List.take_of_length_le (Nat.le_of_eq hlen)] using this
  have hsort : L'.Pairwise (fun x y => ltOf cf y x = false) := by
   rw [List.pairwise_iff_getElem]
   intro a c ha hc' hac
   have := hs' a c (Nat.zero_le _) hac (by omega)
   simpa [ha, hc'] using this
  have hW := sortedW (P := P) (n := n) (os := os) hk hlen hg
  refine ⟨rfl, L', hperm, hsort, st.step i hi ?_ ⟨by rw [flat_len0 hk], .inr ⟨b, cap, (L'.flatMap enc ++ sp).toArray, by rw [hlen], Nat.zero_le _, hW.2, by rw [hlen]; exact hc, hm, ?_, ?_⟩⟩⟩
  ·simpa [rowE, Value.ownBlock] using hW.1
  ·rw [← hs, hsp]
   simp only [List.size_toArray, List.length_append, flat_len0 hk, hlen]
  ·show (L'.flatMap enc ++ sp).take _ = _
   rw [List.take_left' (by rw [flat_len0 hk])]
end
end Go.Proofs.YtladpaehbolghaaGreat

namespace Go.Proofs.YtladpaehbolghaaGreat
open Go Go.RowKit K Go.Sort
theorem cmpB_lt : ∀ {a b : List UInt8}, Lib.compareBytes a b < 0 ↔ a < b
 | [], [] => by simp [Lib.compareBytes]
 | [], _ :: _ => by simp [Lib.compareBytes]
 | _ :: _, [] => by simp [Lib.compareBytes]
 | x :: a, y :: b => by
  have ih := cmpB_lt (a := a) (b := b)
  rw [Lib.compareBytes, List.cons_lt_cons_iff]
  by_cases h1 : x < y
  ·simp [h1]
  ·by_cases h2 : y < x
   ·have : x ≠ y := fun e => by subst e; exact h1 h2
    simp [h1, h2, this]
   ·have : x = y := UInt8.le_antisymm (UInt8.not_lt.1 h2) (UInt8.not_lt.1 h1)
    simp [h1, h2, this, ih]
theorem cmpB_swo {α : Type} (f : α → List UInt8) : SWO (Proofs.ltOf fun x y => Lib.compareBytes (f x) (f y)) where
 irrefl x := by simp [Proofs.ltOf, cmpB_lt]
 trans x y z h1 h2 := by
  simp only [Proofs.ltOf, decide_eq_true_eq, cmpB_lt] at *
  exact List.lt_trans h1 h2
 ntrans x y z h1 h2 := by
  simp only [Proofs.ltOf, decide_eq_false_iff_not, cmpB_lt, List.not_lt] at *
  exact List.le_trans h2 h1
theorem size_strB (n : List UInt8) : (strB n).size = n.length := rfl
theorem bytesLess_iff : ∀ {a b : List UInt8}, Op.bytesLess a b = decide (a < b)
 | _, [] => by simp [Op.bytesLess]
 | [], _ :: _ => by simp [Op.bytesLess]
 | x :: a, y :: b => by
  have ih := bytesLess_iff (a := a) (b := b)
  rw [Op.bytesLess, ih, Bool.eq_iff_iff]
  simp [List.cons_lt_cons_iff]
section
variable {P : Program} {r : Fr} {w : World} {ty T U : TypeId} {x y : Operand} {a b : List UInt8}
theorem v_geStr (hx : ev r x = .string (strB a)) (hy : ev r y = .string (strB b)) : Val P (.binOp .geq T x y U) ty r w (.bool (decide (¬ a < b))) w := by
 intro _ _ _ _
 have e : (!decide (a < b)) = decide (¬ a < b) := decide_not.symm
 simp only [execOp, eqGuard, binOp, hx, hy, Op.stringOp, strB_toList, bytesLess_iff, e]
 rfl
theorem v_leStr (hx : ev r x = .string (strB a)) (hy : ev r y = .string (strB b)) : Val P (.binOp .leq T x y U) ty r w (.bool (decide (¬ b < a))) w := by
 intro _ _ _ _
 have e : (decide (a < b) || a == b) = decide (¬ b < a) := by
  rw [Bool.eq_iff_iff]
  simp only [Bool.or_eq_true, decide_eq_true_eq, beq_iff_eq, List.not_lt]
  exact (List.le_iff_lt_or_eq).symm
 simp only [execOp, eqGuard, binOp, hx, hy, Op.stringOp, strB_toList, bytesLess_iff, e]
 rfl
theorem v_ltStr (hx : ev r x = .string (strB a)) (hy : ev r y = .string (strB b)) : Val P (.binOp .lss T x y U) ty r w (.bool (decide (a < b))) w := by
 intro _ _ _ _
 simp [execOp, eqGuard, binOp, hx, hy, Op.stringOp, strB_toList, bytesLess_iff]
end
end Go.Proofs.YtladpaehbolghaaGreat

namespace Go.Proofs.YtladpaehbolghaaGreat
open Go Go.RowKit K SH
abbrev lrE (v : Value) (N : List ((List UInt8) × Value)) : Ent := rowE v 23 1 N.length (N.map (·.2))
def Pcs (m : Mem) (N : List ((List UInt8) × Value)) : Prop := ∀ x ∈ N, SlM m x.2 1 x.1.length (bs x.1)
theorem Pcs.mono {m m' : Mem} {N : List ((List UInt8) × Value)} (h : Pcs m N) (hm : ∀ k o, m k = some o → m' k = some o) : Pcs m' N := fun x hx => (h x hx).mono hm
theorem Pcs.snoc {m : Mem} {N : List ((List UInt8) × Value)} {x : (List UInt8) × Value} (h : Pcs m N) (hx : SlM m x.2 1 x.1.length (bs x.1)) : Pcs m (N ++ [x]) := fun y hy => (List.mem_append.1 hy).elim (h y) fun hy => by rw [List.mem_singleton.1 hy]; exact hx
def Apart (m m' : Mem) (v : Value) (l : List UInt8) : Prop := ∃ m1, (∀ k o, m1 k = some o → m' k = some o ∧ m k = none) ∧ SlM m1 v 1 l.length (bs l)
def PcsN (m m' : Mem) (N N' : List ((List UInt8) × Value)) : Prop := ∀ y ∈ N', y ∈ N ∨ Apart m m' y.2 y.1
theorem Apart.mono {m n m' m'' : Mem} {v : Value} {l : (List UInt8)} (h : Apart m m' v l) (hn : ∀ k o, n k = some o → m k = some o) (hm : ∀ k o, m' k = some o → m'' k = some o) : Apart n m'' v l := by
 obtain ⟨m1, h1, h2⟩ := h
 refine ⟨m1, fun k o hk => ⟨hm k o (h1 k o hk).1, ?_⟩, h2⟩
 cases hq : n k with
 | none => rfl
 | some q => have := hn k q hq; rw [(h1 k o hk).2] at this; cases this
theorem PcsN.refl {m m' : Mem} {N : List ((List UInt8) × Value)} : PcsN m m' N N := fun _ h => .inl h
theorem lr_PcsM {m0 m : Mem} {F : List Nat} {w0 w : World} {Es : List Ent} {v : Value} {N : List ((List UInt8) × Value)} (st : St m0 m F w0 w Es) (i : Nat) (hi : Es[i]? = some (lrE v N)) (h : Pcs m N) : PcsM (heapM w) v N := ⟨row_SlM (m := heapM w) (st.at hi) (fun _ _ _ h => h), fun x hx => (h x hx).mono fun k o h => st.im k o h⟩
section
variable {P : Program} {n : Nat} {ops : Array Oper} {Q : Po} {rest : List Oper} {r : Fr} {w : World} {d : Nat} {ty : TypeId} {pos : String} {after : Array Edge} {m0 m : Mem} {F : List Nat} {w0 : World} {Es : List Ent}
theorem wl_lrApp (i : Nat) {b cap : Nat} {v xv : Value} {s y : Operand} {N : List ((List UInt8) × Value)} {x : (List UInt8)} (st : St m0 m F w0 w (K.blk b #[xv] 23 :: Es)) (hi : Es[i]? = some (lrE v N)) (ho : xv.oneCell' = true) (hs : ev r s = v) (hy : ev r y = .slice (some ⟨b, 0, none⟩) 1 cap) (hN : N.length ≤ 1000000000) (hd : Nat.blt d n = true)
  (k : ∀ v' w', St m0 m F w0 w' (Es.set i (lrE v' (N ++ [(x, xv)]))) → WL Tryz.prog n ops Q rest (upd d v' r) w') :
  WL Tryz.prog n ops Q (⟨some d, .call ⟨.builtin .append, #[s, y], #[41, 41]⟩, ty, pos, after, none⟩ :: rest) r w := by
 refine wl_append (news := [xv]) (i + 1) st hi Tryz.underlying41 Tryz.underlying41 (.inr ⟨_, rfl⟩) TF.t23 TF.z23 rfl hs hy (st.srcArr (off := 0) 0 rfl rfl (fun j u hj => by simpa using hj) (fun u hu => by rw [List.mem_singleton.1 hu]; exact ho)) (by omega) (by omega) hd ?_
 intro v' w' _ st'
 have e1 : N.map (·.2) ++ [xv] = (N ++ [(x, xv)]).map (·.2) := by simp
 have e2 : N.length + 1 = (N ++ [(x, xv)]).length := by simp
 have st2 := st'.drop 0
 rw [e1, e2] at st2
 exact k v' w' st2
end
end Go.Proofs.YtladpaehbolghaaGreat

namespace Go.Proofs.YtladpaehbolghaaGreat
open Go Go.RowKit K SH GC JR
structure Ac where
 key : By
 set : Bool
 data : By
def acC (x : Ac) (vData : Value) : List Value := [.string (strB x.key)] ++ ([.bool x.set] ++ ([vData]))
structure AcOk (m : Mem) (x : Ac) (vData : Value) : Prop where
 key : x.key.length ≤ 9223372036854775807
 data : SlM m vData 1 x.data.length (bs x.data)
theorem AcOk.mono {m m' : Mem} {x : Ac} {vData : Value} (h : AcOk m x vData) (hm : ∀ k o, m k = some o → m' k = some o) : AcOk m' x vData :=
 ⟨h.key, h.data.mono hm⟩
def AcM (m : Mem) (v : Value) (x : Ac) : Prop := ∃ vData, v = .agg (acC x vData).toArray ∧ AcOk m x vData
theorem AcM.mono {m m' : Mem} {v : Value} {x : Ac} (h : AcM m v x) (hm : ∀ k o, m k = some o → m' k = some o) : AcM m' v x := by
 obtain ⟨vData, h1, h2⟩ := h
 exact ⟨_, h1, h2.mono hm⟩
section
variable {m : Mem} {x : Ac} {vData : Value} (h : AcOk m x vData)
include h
theorem Ac.len : (acC x vData).length = 3 := by
 have _ := h
 simp only [acC, List.length_append, List.length_cons, List.length_nil]
theorem Ac.g0_1 : getV false 1 (acC x vData).toArray 0 = some (.string (strB x.key)) := by
 have _ := h
 have e : acC x vData = (([] : List Value)) ++ ([.string (strB x.key)]) ++ ([.bool x.set] ++ [vData] ++ ([] : List Value)) := by simp [acC]
 exact getV_lst (b := []) (a := ([] : List Value)) (c := [.bool x.set] ++ [vData] ++ ([] : List Value)) (by rw [e]; simp) (by simp only [List.length_append, List.length_cons, List.length_nil])
theorem Ac.g1_1 : getV false 1 (acC x vData).toArray 1 = some (.bool x.set) := by
 have _ := h
 have e : acC x vData = (([] : List Value) ++ [.string (strB x.key)]) ++ ([.bool x.set]) ++ ([vData] ++ ([] : List Value)) := by simp [acC]
 exact getV_lst (b := []) (a := ([] : List Value) ++ [.string (strB x.key)]) (c := [vData] ++ ([] : List Value)) (by rw [e]; simp) (by simp only [List.length_append, List.length_cons, List.length_nil])
theorem Ac.g2_1 : getV false 1 (acC x vData).toArray 2 = some (vData) := by
 have _ := h
 have e : acC x vData = (([] : List Value) ++ [.string (strB x.key)] ++ [.bool x.set]) ++ ([vData]) ++ (([] : List Value)) := by simp [acC]
 exact getV_lst (b := []) (a := ([] : List Value) ++ [.string (strB x.key)] ++ [.bool x.set]) (c := ([] : List Value)) (by rw [e]; simp) (by simp only [List.length_append, List.length_cons, List.length_nil])
theorem Ac.one : ∀ u ∈ acC x vData, u.oneCell' = true := (one_app (one_cell rfl) (one_app (one_cell rfl) (one_cell (SlM.one1 h.data))))
end
def Ac.zero : Ac := ⟨[], false, []⟩
abbrev AcT := (Ac × Value)
def acP (p : AcT) : List Value := acC p.1 p.2
def AcsM (m : Mem) (v : Value) (L : List AcT) : Prop := LsM m v acP 3 L ∧ ∀ p ∈ L, AcOk m p.1 p.2
theorem AcsM.mono {m m' : Mem} {v : Value} {L : List AcT} (h : AcsM m v L) (hm : ∀ k o, m k = some o → m' k = some o) : AcsM m' v L := ⟨h.1.mono hm, fun p hp => (h.2 p hp).mono hm⟩
theorem AcsM.nil {m : Mem} : AcsM m (.slice none 0 0) [] := ⟨LsM.nil, by simp⟩
namespace OS
def actOk (a : Ac) : Prop := 1 ≤ a.key.length ∧ a.key.length ≤ 64 ∧ (a.set = true ∨ a.data.length = 0) ∧ a.data.length ≤ 1048576
instance (a : Ac) : Decidable (actOk a) := by unfold actOk; infer_instance
def okL (L : List Ac) : Prop := L.length ≤ 4096 ∧ (∀ a ∈ L, actOk a) ∧ (L.map (·.key)).Pairwise (· < ·)
instance (L : List Ac) : Decidable (okL L) := by unfold okL; infer_instance
def chkL (L : List Ac) : Nat := if okL L then 0 else 1
def GoodTo (L : List Ac) (i : Nat) : Prop := (∀ a ∈ L.take i, actOk a) ∧ ((L.take i).map (·.key)).Pairwise (· < ·)
theorem good0 {L : List Ac} : GoodTo L 0 := ⟨by simp, by simp⟩
theorem good_succ {L : List Ac} {i : Nat} (h : GoodTo L i) (hi : i < L.length) (ha : actOk L[i]) (hk : ∀ (h0 : 0 < i), L[i - 1].key < L[i].key) : GoodTo L (i + 1) := by
 unfold GoodTo
 rw [List.take_succ_eq_append_getElem hi]
 refine ⟨fun a h1 => ?_, ?_⟩
 ·rcases List.mem_append.1 h1 with h1 | h1
  ·exact h.1 a h1
  ·rw [List.mem_singleton.1 h1]; exact ha
 ·rw [List.map_append, List.pairwise_append]
  refine ⟨h.2, by simp, fun a h1 b h2 => ?_⟩
  rw [List.map_singleton, List.mem_singleton] at h2
  subst h2
  obtain ⟨y, hy, rfl⟩ := List.mem_map.1 h1
  obtain ⟨j, hj, rfl⟩ := List.getElem_of_mem hy
  have hji : j < i := by rw [List.length_take] at hj; omega
  have h0 := hk (by omega)
  rw [List.getElem_take]
  by_cases e : j = i - 1
  ·subst e; exact h0
  ·have h3 := List.pairwise_iff_getElem.1 h.2 j (i - 1) (by simp; omega) (by simp; omega) (by omega)
   simp only [List.getElem_map, List.getElem_take] at h3
   exact List.lt_trans h3 h0
theorem good_all {L : List Ac} (h : GoodTo L L.length) : okL L ↔ L.length ≤ 4096 := by
 unfold GoodTo at h
 rw [List.take_length] at h
 exact ⟨fun x => x.1, fun x => ⟨x, h⟩⟩
theorem ok_at {L : List Ac} (h : okL L) {i : Nat} (hi : i < L.length) : actOk L[i] := h.2.1 _ (List.getElem_mem hi)
theorem ok_lt {L : List Ac} (h : okL L) {i : Nat} (hi : i < L.length) (h0 : 0 < i) : L[i - 1].key < L[i].key := by
 have := List.pairwise_iff_getElem.1 h.2.2 (i - 1) i (by simp; omega) (by simp; omega) (by omega)
 simpa using this
end OS
section
open OS
variable {m : Mem} {wI : World}
theorem AcsM.at {m : Mem} {a : Option Addr} {k c : Nat} {L : List AcT} (h : AcsM m (.slice a k c) L) {i : Nat} (hi : i < L.length) :
  ∃ lb lo da dc, a = some ⟨lb, lo, none⟩ ∧ L[i].2 = .slice da L[i].1.data.length dc ∧ (∀ {w' : World}, Im m w' → Reads Tryz.prog w' 57 ⟨lb, lo + i * 3, none⟩ (.agg (acC L[i].1 L[i].2).toArray)) ∧ (∀ {w' : World}, Im m w' → Reads Tryz.prog w' 9 ⟨lb, lo + i * 3 + 0, none⟩ (.string (strB L[i].1.key))) ∧ (∀ {w' : World}, Im m w' → Reads Tryz.prog w' 4 ⟨lb, lo + i * 3 + 1, none⟩ (.bool L[i].1.set)) ∧ (∀ {w' : World}, Im m w' → Reads Tryz.prog w' 23 ⟨lb, lo + i * 3 + 2, none⟩ L[i].2) := by
 obtain ⟨lb, lo, hla⟩ := h.1.ptr (by omega) (by decide)
 have hok := h.2 _ (List.getElem_mem hi)
 obtain ⟨da, dc, hd, _⟩ := hok.data.opn
 subst hla
 exact ⟨lb, lo, da, dc, rfl, hd, fun him => h.1.rd0 rfl hi (by decide) TF.t57 (getV_all (Ac.len hok)) him, fun him => h.1.rd rfl hi (by decide) TF.t9 (Ac.g0_1 hok) him, fun him => h.1.rd rfl hi (by decide) TF.t4 (Ac.g1_1 hok) him, fun him => h.1.rd rfl hi (by decide) TF.t23 (Ac.g2_1 hok) him⟩
theorem c_chk {v : Value} {L : List AcT} (him : Im m wI) (hL : AcsM m v L) (hLl : L.length ≤ 1099511627776) :
  Ret Tryz.prog 10 #[v] wI fun v' w' => Tch wI w' [] [] ∧ v' = .int .i64 (chkL (L.map (·.1)) : Nat) := by
 have st := St.start him
 obtain ⟨la, lc, rfl⟩ := hL.1.sl
 obtain ⟨M, hM⟩ : ∃ M, M = L.map (·.1) := ⟨_, rfl⟩
 have hMl : M.length = L.length := by rw [hM, List.length_map]
 rw [← hM]
 refine ret_of Tryz.call10 Tryz.func10 rfl Tryz.ntmps10 Tryz.results10 rfl ?_
 refine wc_seq ?_
 refine wc_region ?_
 refine wl_val (v_assign' (by conv => (lhs; whnf))) rfl ?_
 refine wl_nil ?_
 refine then_go ?_
 refine wc_seq ?_
 refine wc_seq ?_
 refine wc_region ?_
 refine wl_val (v_move' (by conv => (lhs; whnf))) rfl ?_
 refine wl_val (v_len_s Tryz.underlying22 rfl) rfl ?_
 refine wl_val (v_move' (by conv => (lhs; whnf))) rfl ?_
 refine wl_nil ?_
 refine then_go ?_
 refine wc_block ?_
 refine wc_loop (S := Nat) (fun q r w' => ∃ i, q + i = L.length ∧ r 0 = .slice la L.length lc ∧ r 5 = .slice la L.length lc ∧ r 6 = .int .i64 L.length ∧ r 7 = .int .i64 i ∧ GoodTo M i ∧ St m m [] wI w' []) id L.length ⟨0, by omega, rfl, rfl, rfl, rfl, good0, st⟩ ?_
 clear st
 rintro q r w2 ⟨i, hqi, g0, g5, g6, g7, hg, st⟩
 refine wc_o 0 g0 (wc_o 5 g5 (wc_o 6 g6 (wc_o 7 g7 ?_)))
 refine wc_seq ?_
 refine wc_region ?_
 refine wl_val (v_lss rfl rfl) rfl ?_
 refine wl_nil ?_
 refine then_go ?_
 refine wc_seq ?_
 refine wc_if rfl (fun h8 => ?_) (fun h8 => ?_)
 ·refine wc_skip ?_
  refine then_go ?_
  refine wc_seq ?_
  refine wc_block ?_
  refine wc_seq ?_
  have hi : i < L.length := by omega
  have hiM : i < M.length := by omega
  obtain ⟨lb, lo, da, dc, hla, hd, hrL, _⟩ := hL.at hi
  subst hla
  have hok : AcOk m L[i].1 L[i].2 := hL.2 _ (List.getElem_mem hi)
  have hMi : M[i] = L[i].1 := by simp [hM]
  obtain ⟨x, hx⟩ : ∃ x, x = L[i].1 := ⟨_, rfl⟩
  rw [← hx] at hd hok hMi
  rw [hd] at hok
  have hrX : ∀ {w' : World}, Im m w' → Reads Tryz.prog w' 57 ⟨lb, lo + i * 3, none⟩ (.agg (acC x (.slice da x.data.length dc)).toArray) := by rw [← hd, hx]; exact hrL
  refine wc_region ?_
  refine wl_val (v_move' (by conv => (lhs; whnf))) rfl ?_
  refine wl_val (v_ias i Tryz.underlying22 TF.t57 rfl rfl (by first | rfl | omega) (by first | omega | (dsimp only at *; omega))) rfl ?_
  refine wl_val (v_load rfl (hrX st.im)) rfl ?_
  refine wl_alloc TF.z57 st rfl ?_
  intro b4 w st
  refine wl_val (v_assign' (by conv => (lhs; whnf))) rfl ?_
  refine wl_storeW (cs := (acC x (.slice da x.data.length dc)).toArray) 0 st rfl TF.t57 rfl rfl (by exact Ac.len hok) rfl (by exact Ac.one hok) ?_
  intro w st
  refine wl_nil ?_
  refine then_go ?_
  refine wc_block ?_
  refine wc_seq ?_
  by_cases h1 : x.key.length = 0
  ·refine wc_region ?_
   refine wl_val (v_fa TF.f57_0 rfl) rfl ?_
   refine wl_val (v_load rfl (by first | exact st.rdp 0 rfl (by exact rfl) TF.t9 (by exact (Ac.g0_1 (by assumption))) | exact st.rdp 1 rfl (by exact rfl) TF.t9 (by exact (Ac.g0_1 (by assumption))) | exact st.rdp 2 rfl (by exact rfl) TF.t9 (by exact (Ac.g0_1 (by assumption))) | exact st.rdp 3 rfl (by exact rfl) TF.t9 (by exact (Ac.g0_1 (by assumption))) | exact st.rdp 4 rfl (by exact rfl) TF.t9 (by exact (Ac.g0_1 (by assumption))) | exact st.rdp 5 rfl (by exact rfl) TF.t9 (by exact (Ac.g0_1 (by assumption))) | exact st.rdp 6 rfl (by exact rfl) TF.t9 (by exact (Ac.g0_1 (by assumption))) | exact st.rdp 7 rfl (by exact rfl) TF.t9 (by exact (Ac.g0_1 (by assumption))))) rfl ?_
   refine wl_val (wl_valD (v_eqs (b := []) rfl rfl) (q := true) (decide_eq_true (List.eq_nil_of_length_eq_zero h1))) rfl ?_
   refine wl_val (v_move' (by conv => (lhs; whnf))) rfl ?_
   refine wl_off rfl rfl rfl rfl ?_
   refine wl_off rfl rfl rfl rfl ?_
   refine wl_off rfl rfl rfl rfl ?_
   refine wl_off rfl rfl rfl rfl ?_
   refine wl_val (v_pick rfl) rfl ?_
   refine wl_val (v_move' (by conv => (lhs; whnf))) rfl ?_
   refine wl_off rfl rfl rfl rfl ?_
   refine wl_off rfl rfl rfl rfl ?_
   refine wl_off rfl rfl rfl rfl ?_
   refine wl_off rfl rfl rfl rfl ?_
   refine offU rfl rfl rfl ?_
   refine offU rfl rfl rfl ?_
   refine offU rfl rfl rfl ?_
   refine offU rfl rfl rfl ?_
   refine wl_off rfl rfl rfl rfl ?_
   refine wl_val (v_pick rfl) rfl ?_
   refine wl_val (v_move' (by conv => (lhs; whnf))) rfl ?_
   refine wl_off rfl rfl rfl rfl ?_
   refine wl_off rfl rfl rfl rfl ?_
   refine wl_off rfl rfl rfl rfl ?_
   refine wl_off rfl rfl rfl rfl ?_
   refine wl_val (v_pick rfl) rfl ?_
   refine wl_val (v_assign' (by conv => (lhs; whnf))) rfl ?_
   refine wl_nil ?_
   refine then_go ?_
   refine wc_true rfl ?_
   refine wc_seq ?_
   refine wc_region ?_
   refine wl_val (v_assign' (by conv => (lhs; whnf))) rfl ?_
   refine wl_nil ?_
   refine then_go ?_
   refine wc_ret (block_ret (block_ret (then_ret (then_ret (block_ret (then_ret ?_))))))
   exact ret1 rfl ⟨(st.keepOnly (l := []) (List.nil_sublist _)).touch, by unfold chkL; rw [if_neg (fun h => by have := ok_at h hiM; rw [hMi] at this; unfold actOk at this; omega)]; rfl⟩
  ·by_cases h2 : 64 < x.key.length
   ·refine wc_region ?_
    refine wl_val (v_fa TF.f57_0 rfl) rfl ?_
    refine wl_val (v_load rfl (by first | exact st.rdp 0 rfl (by exact rfl) TF.t9 (by exact (Ac.g0_1 (by assumption))) | exact st.rdp 1 rfl (by exact rfl) TF.t9 (by exact (Ac.g0_1 (by assumption))) | exact st.rdp 2 rfl (by exact rfl) TF.t9 (by exact (Ac.g0_1 (by assumption))) | exact st.rdp 3 rfl (by exact rfl) TF.t9 (by exact (Ac.g0_1 (by assumption))) | exact st.rdp 4 rfl (by exact rfl) TF.t9 (by exact (Ac.g0_1 (by assumption))) | exact st.rdp 5 rfl (by exact rfl) TF.t9 (by exact (Ac.g0_1 (by assumption))) | exact st.rdp 6 rfl (by exact rfl) TF.t9 (by exact (Ac.g0_1 (by assumption))) | exact st.rdp 7 rfl (by exact rfl) TF.t9 (by exact (Ac.g0_1 (by assumption))))) rfl ?_
    refine wl_val (wl_valD (v_eqs (b := []) rfl rfl) (q := false) (decide_eq_false (fun e => h1 (by rw [e]; rfl)))) rfl ?_
    refine wl_val (v_move' (by conv => (lhs; whnf))) rfl ?_
    refine wl_on rfl rfl ?_
    refine wl_val (v_fa TF.f57_0 rfl) rfl ?_
    refine wl_on rfl rfl ?_
    refine wl_val (v_load rfl (by first | exact st.rdp 0 rfl (by exact rfl) TF.t9 (by exact (Ac.g0_1 (by assumption))) | exact st.rdp 1 rfl (by exact rfl) TF.t9 (by exact (Ac.g0_1 (by assumption))) | exact st.rdp 2 rfl (by exact rfl) TF.t9 (by exact (Ac.g0_1 (by assumption))) | exact st.rdp 3 rfl (by exact rfl) TF.t9 (by exact (Ac.g0_1 (by assumption))) | exact st.rdp 4 rfl (by exact rfl) TF.t9 (by exact (Ac.g0_1 (by assumption))) | exact st.rdp 5 rfl (by exact rfl) TF.t9 (by exact (Ac.g0_1 (by assumption))) | exact st.rdp 6 rfl (by exact rfl) TF.t9 (by exact (Ac.g0_1 (by assumption))) | exact st.rdp 7 rfl (by exact rfl) TF.t9 (by exact (Ac.g0_1 (by assumption))))) rfl ?_
    refine wl_on rfl rfl ?_
    refine wl_val (v_to (v' := .int .i64 x.key.length) (v_len_str Tryz.underlying9 rfl) (by rw [size_strB])) rfl ?_
    refine wl_on rfl rfl ?_
    refine wl_val (wl_valD (v_gtr rfl rfl) (q := true) (decide_eq_true (by omega))) rfl ?_
    refine wl_val (v_pick rfl) rfl ?_
    refine wl_val (v_move' (by conv => (lhs; whnf))) rfl ?_
    refine wl_off rfl rfl rfl rfl ?_
    refine wl_off rfl rfl rfl rfl ?_
    refine wl_off rfl rfl rfl rfl ?_
    refine wl_off rfl rfl rfl rfl ?_
    refine offU rfl rfl rfl ?_
    refine offU rfl rfl rfl ?_
    refine offU rfl rfl rfl ?_
    refine offU rfl rfl rfl ?_
    refine wl_off rfl rfl rfl rfl ?_
    refine wl_val (v_pick rfl) rfl ?_
    refine wl_val (v_move' (by conv => (lhs; whnf))) rfl ?_
    refine wl_off rfl rfl rfl rfl ?_
    refine wl_off rfl rfl rfl rfl ?_
    refine wl_off rfl rfl rfl rfl ?_
    refine wl_off rfl rfl rfl rfl ?_
    refine wl_val (v_pick rfl) rfl ?_
    refine wl_val (v_assign' (by conv => (lhs; whnf))) rfl ?_
    refine wl_nil ?_
    refine then_go ?_
    refine wc_true rfl ?_
    refine wc_seq ?_
    refine wc_region ?_
    refine wl_val (v_assign' (by conv => (lhs; whnf))) rfl ?_
    refine wl_nil ?_
    refine then_go ?_
    refine wc_ret (block_ret (block_ret (then_ret (then_ret (block_ret (then_ret ?_))))))
    exact ret1 rfl ⟨(st.keepOnly (l := []) (List.nil_sublist _)).touch, by unfold chkL; rw [if_neg (fun h => by have := ok_at h hiM; rw [hMi] at this; unfold actOk at this; omega)]; rfl⟩
   ·rcases Bool.eq_false_or_eq_true x.set with h3 | h3
    ·refine wc_region ?_
     refine wl_val (v_fa TF.f57_0 rfl) rfl ?_
     refine wl_val (v_load rfl (by first | exact st.rdp 0 rfl (by exact rfl) TF.t9 (by exact (Ac.g0_1 (by assumption))) | exact st.rdp 1 rfl (by exact rfl) TF.t9 (by exact (Ac.g0_1 (by assumption))) | exact st.rdp 2 rfl (by exact rfl) TF.t9 (by exact (Ac.g0_1 (by assumption))) | exact st.rdp 3 rfl (by exact rfl) TF.t9 (by exact (Ac.g0_1 (by assumption))) | exact st.rdp 4 rfl (by exact rfl) TF.t9 (by exact (Ac.g0_1 (by assumption))) | exact st.rdp 5 rfl (by exact rfl) TF.t9 (by exact (Ac.g0_1 (by assumption))) | exact st.rdp 6 rfl (by exact rfl) TF.t9 (by exact (Ac.g0_1 (by assumption))) | exact st.rdp 7 rfl (by exact rfl) TF.t9 (by exact (Ac.g0_1 (by assumption))))) rfl ?_
     refine wl_val (wl_valD (v_eqs (b := []) rfl rfl) (q := false) (decide_eq_false (fun e => h1 (by rw [e]; rfl)))) rfl ?_
     refine wl_val (v_move' (by conv => (lhs; whnf))) rfl ?_
     refine wl_on rfl rfl ?_
     refine wl_val (v_fa TF.f57_0 rfl) rfl ?_
     refine wl_on rfl rfl ?_
     refine wl_val (v_load rfl (by first | exact st.rdp 0 rfl (by exact rfl) TF.t9 (by exact (Ac.g0_1 (by assumption))) | exact st.rdp 1 rfl (by exact rfl) TF.t9 (by exact (Ac.g0_1 (by assumption))) | exact st.rdp 2 rfl (by exact rfl) TF.t9 (by exact (Ac.g0_1 (by assumption))) | exact st.rdp 3 rfl (by exact rfl) TF.t9 (by exact (Ac.g0_1 (by assumption))) | exact st.rdp 4 rfl (by exact rfl) TF.t9 (by exact (Ac.g0_1 (by assumption))) | exact st.rdp 5 rfl (by exact rfl) TF.t9 (by exact (Ac.g0_1 (by assumption))) | exact st.rdp 6 rfl (by exact rfl) TF.t9 (by exact (Ac.g0_1 (by assumption))) | exact st.rdp 7 rfl (by exact rfl) TF.t9 (by exact (Ac.g0_1 (by assumption))))) rfl ?_
     refine wl_on rfl rfl ?_
     refine wl_val (v_to (v' := .int .i64 x.key.length) (v_len_str Tryz.underlying9 rfl) (by rw [size_strB])) rfl ?_
     refine wl_on rfl rfl ?_
     refine wl_val (wl_valD (v_gtr rfl rfl) (q := false) (decide_eq_false (by omega))) rfl ?_
     refine wl_val (v_pick rfl) rfl ?_
     refine wl_val (v_move' (by conv => (lhs; whnf))) rfl ?_
     refine wl_on rfl rfl ?_
     refine wl_val (v_fa TF.f57_1 rfl) rfl ?_
     refine wl_on rfl rfl ?_
     refine wl_val (v_load rfl (by first | exact st.rdp 0 rfl (by exact rfl) TF.t4 (by exact (Ac.g1_1 (by assumption))) | exact st.rdp 1 rfl (by exact rfl) TF.t4 (by exact (Ac.g1_1 (by assumption))) | exact st.rdp 2 rfl (by exact rfl) TF.t4 (by exact (Ac.g1_1 (by assumption))) | exact st.rdp 3 rfl (by exact rfl) TF.t4 (by exact (Ac.g1_1 (by assumption))) | exact st.rdp 4 rfl (by exact rfl) TF.t4 (by exact (Ac.g1_1 (by assumption))) | exact st.rdp 5 rfl (by exact rfl) TF.t4 (by exact (Ac.g1_1 (by assumption))) | exact st.rdp 6 rfl (by exact rfl) TF.t4 (by exact (Ac.g1_1 (by assumption))) | exact st.rdp 7 rfl (by exact rfl) TF.t4 (by exact (Ac.g1_1 (by assumption))))) rfl ?_
     refine wl_on rfl rfl ?_
     refine wl_val (wl_valD (v_not rfl) (q := false) (by rw [h3]; rfl)) rfl ?_
     refine wl_on rfl rfl ?_
     refine wl_val (v_move' (by conv => (lhs; whnf))) rfl ?_
     refine wl_off rfl rfl rfl rfl ?_
     refine wl_off rfl rfl rfl rfl ?_
     refine wl_off rfl rfl rfl rfl ?_
     refine wl_off rfl rfl rfl rfl ?_
     refine wl_on rfl rfl ?_
     refine wl_val (v_pick rfl) rfl ?_
     refine wl_val (v_pick rfl) rfl ?_
     refine wl_val (v_move' (by conv => (lhs; whnf))) rfl ?_
     refine wl_on rfl rfl ?_
     refine wl_val (v_fa TF.f57_2 rfl) rfl ?_
     refine wl_on rfl rfl ?_
     refine wl_val (v_load rfl (st.reads (v := .slice da x.data.length dc) 0 rfl TF.t23 rfl)) rfl ?_
     refine wl_on rfl rfl ?_
     refine wl_val (v_len_s Tryz.underlying23 rfl) rfl ?_
     refine wl_on rfl rfl ?_
     refine wl_val (v_gtr rfl rfl) rfl ?_
     refine wl_val (v_pick rfl) rfl ?_
     refine wl_val (v_assign' (by conv => (lhs; whnf))) rfl ?_
     refine wl_nil ?_
     refine then_go ?_
     refine wc_cond rfl (fun h12 => ?_) (fun h12 => ?_)
     ·refine wc_seq ?_
      refine wc_region ?_
      refine wl_val (v_assign' (by conv => (lhs; whnf))) rfl ?_
      refine wl_nil ?_
      refine then_go ?_
      refine wc_ret (block_ret (block_ret (then_ret (then_ret (block_ret (then_ret ?_))))))
      exact ret1 rfl ⟨(st.keepOnly (l := []) (List.nil_sublist _)).touch, by have := of_decide_eq_true h12; unfold chkL; rw [if_neg (fun h => by have := ok_at h hiM; rw [hMi] at this; unfold actOk at this; omega)]; rfl⟩
     ·refine wc_seq ?_
      by_cases hi0 : 0 < i
      ·have hip : i - 1 < L.length := by omega
       obtain ⟨lb', lo', da', dc', hla', hd', _, hrK, _⟩ := hL.at hip
       cases hla'
       have hMp : M[i - 1] = L[i - 1].1 := by simp [hM]
       refine wc_draw TF.mixed ?_
       have st := st.pure (touch_drew _)
       refine fl_val 0 rfl (fun _ => (v_move' (by conv => (lhs; whnf)))) rfl (by kernel_rfl) ?_
       refine fl_val 1 rfl (fun _ => (wl_valD (v_gtr rfl rfl) (q := true) (decide_eq_true (by omega)))) rfl (by kernel_rfl) ?_
       refine fl_val 2 rfl (fun _ => (v_move' (by conv => (lhs; whnf)))) rfl (by kernel_rfl) ?_
       refine fl_on 3 rfl rfl rfl rfl (fun _ => (v_move' (by conv => (lhs; whnf)))) rfl (by kernel_rfl) ?_
       refine fl_on 4 rfl rfl rfl rfl (fun _ => (v_move' (by conv => (lhs; whnf)))) rfl (by kernel_rfl) ?_
       refine fl_on 5 rfl rfl rfl rfl (fun _ => (v_sub' (c := ((i - 1 : Nat) : Int)) rfl rfl (by omega) (by omega) (by omega))) rfl (by kernel_rfl) ?_
       refine fl_on 6 rfl rfl rfl rfl (fun _ => (v_ias ((i - 1)) Tryz.underlying22 TF.t57 rfl rfl (by first | rfl | omega) (by first | omega | (dsimp only at *; omega)))) rfl (by kernel_rfl) ?_
       refine fl_on 7 rfl rfl rfl rfl (fun _ => (v_fa TF.f57_0 rfl)) rfl (by kernel_rfl) ?_
       refine fl_ond 8 rfl rfl rfl rfl (v_load rfl (hrK st.im)) rfl (by kernel_rfl) ?_
       refine fl_on 9 rfl rfl rfl rfl (fun _ => (v_fa TF.f57_0 rfl)) rfl (by kernel_rfl) ?_
       refine fl_ond 10 rfl rfl rfl rfl (v_load rfl (by first | exact st.rdp 0 rfl (by exact rfl) TF.t9 (by exact (Ac.g0_1 (by assumption))) | exact st.rdp 1 rfl (by exact rfl) TF.t9 (by exact (Ac.g0_1 (by assumption))) | exact st.rdp 2 rfl (by exact rfl) TF.t9 (by exact (Ac.g0_1 (by assumption))) | exact st.rdp 3 rfl (by exact rfl) TF.t9 (by exact (Ac.g0_1 (by assumption))) | exact st.rdp 4 rfl (by exact rfl) TF.t9 (by exact (Ac.g0_1 (by assumption))) | exact st.rdp 5 rfl (by exact rfl) TF.t9 (by exact (Ac.g0_1 (by assumption))) | exact st.rdp 6 rfl (by exact rfl) TF.t9 (by exact (Ac.g0_1 (by assumption))) | exact st.rdp 7 rfl (by exact rfl) TF.t9 (by exact (Ac.g0_1 (by assumption))))) rfl (by kernel_rfl) ?_
       refine fl_on 11 rfl rfl rfl rfl (fun _ => (v_geStr rfl rfl)) rfl (by kernel_rfl) ?_
       refine fl_val 12 rfl (fun _ => (v_pick rfl)) rfl (by kernel_rfl) ?_
       refine fl_eff1 13 [11, 9, 7, 6, 5, 4, 3, 1, 0] [10, 8] (by kernel_rfl) ⟨obl_on rfl rfl rfl rfl rfl (v_load rfl (by first | exact st.rdp 0 rfl (by exact rfl) TF.t9 (by exact (Ac.g0_1 (by assumption))) | exact st.rdp 1 rfl (by exact rfl) TF.t9 (by exact (Ac.g0_1 (by assumption))) | exact st.rdp 2 rfl (by exact rfl) TF.t9 (by exact (Ac.g0_1 (by assumption))) | exact st.rdp 3 rfl (by exact rfl) TF.t9 (by exact (Ac.g0_1 (by assumption))) | exact st.rdp 4 rfl (by exact rfl) TF.t9 (by exact (Ac.g0_1 (by assumption))) | exact st.rdp 5 rfl (by exact rfl) TF.t9 (by exact (Ac.g0_1 (by assumption))) | exact st.rdp 6 rfl (by exact rfl) TF.t9 (by exact (Ac.g0_1 (by assumption))) | exact st.rdp 7 rfl (by exact rfl) TF.t9 (by exact (Ac.g0_1 (by assumption))))), obl_on rfl rfl rfl rfl rfl (v_load rfl (hrK st.im)), trivial⟩ rfl ?_
       refine wl_val (v_assign' (by conv => (lhs; whnf))) rfl ?_
       refine wl_nil ⟨rfl, ?_⟩
       refine fl_nil (by kernel_rfl) ⟨obl_on rfl rfl rfl rfl rfl (v_load rfl (by first | exact st.rdp 0 rfl (by exact rfl) TF.t9 (by exact (Ac.g0_1 (by assumption))) | exact st.rdp 1 rfl (by exact rfl) TF.t9 (by exact (Ac.g0_1 (by assumption))) | exact st.rdp 2 rfl (by exact rfl) TF.t9 (by exact (Ac.g0_1 (by assumption))) | exact st.rdp 3 rfl (by exact rfl) TF.t9 (by exact (Ac.g0_1 (by assumption))) | exact st.rdp 4 rfl (by exact rfl) TF.t9 (by exact (Ac.g0_1 (by assumption))) | exact st.rdp 5 rfl (by exact rfl) TF.t9 (by exact (Ac.g0_1 (by assumption))) | exact st.rdp 6 rfl (by exact rfl) TF.t9 (by exact (Ac.g0_1 (by assumption))) | exact st.rdp 7 rfl (by exact rfl) TF.t9 (by exact (Ac.g0_1 (by assumption))))), obl_on rfl rfl rfl rfl rfl (v_load rfl (hrK st.im)), trivial⟩ ?_
       refine then_go ?_
       refine wc_cond rfl (fun h39 => ?_) (fun h39 => ?_)
       ·refine wc_seq ?_
        refine wc_region ?_
        refine wl_val (v_assign' (by conv => (lhs; whnf))) rfl ?_
        refine wl_nil ?_
        refine then_go ?_
        refine wc_ret (block_ret (block_ret (then_ret (then_ret (block_ret (then_ret ?_))))))
        exact ret1 rfl ⟨(st.keepOnly (l := []) (List.nil_sublist _)).touch, by unfold chkL; rw [if_neg (fun h => of_decide_eq_true h39 (by have := ok_lt h hiM hi0; rw [hMi, hMp] at this; exact this))]; rfl⟩
       ·refine wc_skip ?_
        refine block_go (block_go (then_go ?_))
        refine wc_region ?_
        refine wl_val (v_add' (c := ((i + 1 : Nat) : Int)) rfl rfl (by omega) (by omega) (by omega)) rfl ?_
        refine wl_val (v_move' (by conv => (lhs; whnf))) rfl ?_
        refine wl_nil ?_
        refine then_go ?_
        exact ⟨q - 1, by simp; omega, i + 1, by omega, rfl, rfl, rfl, rfl, good_succ hg hiM (by rw [hMi]; have := of_decide_eq_false h12; unfold actOk; rw [h3]; refine ⟨by omega, by omega, .inl rfl, by omega⟩) (fun _ => by have := of_decide_eq_false h39; rw [hMi, hMp]; exact Decidable.not_not.1 this), st.drop 0⟩
      ·refine wc_draw TF.mixed ?_
       have st := st.pure (touch_drew _)
       refine fl_val 0 rfl (fun _ => (v_move' (by conv => (lhs; whnf)))) rfl (by kernel_rfl) ?_
       refine fl_val 1 rfl (fun _ => (wl_valD (v_gtr rfl rfl) (q := false) (decide_eq_false (by omega)))) rfl (by kernel_rfl) ?_
       refine fl_val 2 rfl (fun _ => (v_move' (by conv => (lhs; whnf)))) rfl (by kernel_rfl) ?_
       refine fl_off 3 rfl rfl rfl rfl rfl rfl (by kernel_rfl) ?_
       refine fl_off 4 rfl rfl rfl rfl rfl rfl (by kernel_rfl) ?_
       refine fl_off 5 rfl rfl rfl rfl rfl rfl (by kernel_rfl) ?_
       refine fl_off 6 rfl rfl rfl rfl rfl rfl (by kernel_rfl) ?_
       refine fl_off 7 rfl rfl rfl rfl rfl rfl (by kernel_rfl) ?_
       refine fl_offd 8 rfl rfl rfl rfl rfl rfl (by kernel_rfl) ?_
       refine fl_off 9 rfl rfl rfl rfl rfl rfl (by kernel_rfl) ?_
       refine fl_offd 10 rfl rfl rfl rfl rfl rfl (by kernel_rfl) ?_
       refine fl_off 11 rfl rfl rfl rfl rfl rfl (by kernel_rfl) ?_
       refine fl_val 12 rfl (fun _ => (v_pick rfl)) rfl (by kernel_rfl) ?_
       refine fl_eff1 13 [11, 9, 7, 6, 5, 4, 3, 1, 0] [10, 8] (by kernel_rfl) ⟨obl_off rfl rfl rfl rfl rfl rfl, obl_off rfl rfl rfl rfl rfl rfl, trivial⟩ rfl ?_
       refine wl_val (v_assign' (by conv => (lhs; whnf))) rfl ?_
       refine wl_nil ⟨rfl, ?_⟩
       refine fl_nil (by kernel_rfl) ⟨obl_off rfl rfl rfl rfl rfl rfl, obl_off rfl rfl rfl rfl rfl rfl, trivial⟩ ?_
       refine then_go ?_
       refine wc_false rfl ?_
       refine wc_skip ?_
       refine block_go (block_go (then_go ?_))
       refine wc_region ?_
       refine wl_val (v_add' (c := ((i + 1 : Nat) : Int)) rfl rfl (by omega) (by omega) (by omega)) rfl ?_
       refine wl_val (v_move' (by conv => (lhs; whnf))) rfl ?_
       refine wl_nil ?_
       refine then_go ?_
       exact ⟨q - 1, by simp; omega, i + 1, by omega, rfl, rfl, rfl, rfl, good_succ hg hiM (by rw [hMi]; have := of_decide_eq_false h12; unfold actOk; rw [h3]; refine ⟨by omega, by omega, .inl rfl, by omega⟩) (fun h => (hi0 h).elim), st.drop 0⟩
    ·by_cases h4 : 0 < x.data.length
     ·refine wc_region ?_
      refine wl_val (v_fa TF.f57_0 rfl) rfl ?_
      refine wl_val (v_load rfl (by first | exact st.rdp 0 rfl (by exact rfl) TF.t9 (by exact (Ac.g0_1 (by assumption))) | exact st.rdp 1 rfl (by exact rfl) TF.t9 (by exact (Ac.g0_1 (by assumption))) | exact st.rdp 2 rfl (by exact rfl) TF.t9 (by exact (Ac.g0_1 (by assumption))) | exact st.rdp 3 rfl (by exact rfl) TF.t9 (by exact (Ac.g0_1 (by assumption))) | exact st.rdp 4 rfl (by exact rfl) TF.t9 (by exact (Ac.g0_1 (by assumption))) | exact st.rdp 5 rfl (by exact rfl) TF.t9 (by exact (Ac.g0_1 (by assumption))) | exact st.rdp 6 rfl (by exact rfl) TF.t9 (by exact (Ac.g0_1 (by assumption))) | exact st.rdp 7 rfl (by exact rfl) TF.t9 (by exact (Ac.g0_1 (by assumption))))) rfl ?_
      refine wl_val (wl_valD (v_eqs (b := []) rfl rfl) (q := false) (decide_eq_false (fun e => h1 (by rw [e]; rfl)))) rfl ?_
      refine wl_val (v_move' (by conv => (lhs; whnf))) rfl ?_
      refine wl_on rfl rfl ?_
      refine wl_val (v_fa TF.f57_0 rfl) rfl ?_
      refine wl_on rfl rfl ?_
      refine wl_val (v_load rfl (by first | exact st.rdp 0 rfl (by exact rfl) TF.t9 (by exact (Ac.g0_1 (by assumption))) | exact st.rdp 1 rfl (by exact rfl) TF.t9 (by exact (Ac.g0_1 (by assumption))) | exact st.rdp 2 rfl (by exact rfl) TF.t9 (by exact (Ac.g0_1 (by assumption))) | exact st.rdp 3 rfl (by exact rfl) TF.t9 (by exact (Ac.g0_1 (by assumption))) | exact st.rdp 4 rfl (by exact rfl) TF.t9 (by exact (Ac.g0_1 (by assumption))) | exact st.rdp 5 rfl (by exact rfl) TF.t9 (by exact (Ac.g0_1 (by assumption))) | exact st.rdp 6 rfl (by exact rfl) TF.t9 (by exact (Ac.g0_1 (by assumption))) | exact st.rdp 7 rfl (by exact rfl) TF.t9 (by exact (Ac.g0_1 (by assumption))))) rfl ?_
      refine wl_on rfl rfl ?_
      refine wl_val (v_to (v' := .int .i64 x.key.length) (v_len_str Tryz.underlying9 rfl) (by rw [size_strB])) rfl ?_
      refine wl_on rfl rfl ?_
      refine wl_val (wl_valD (v_gtr rfl rfl) (q := false) (decide_eq_false (by omega))) rfl ?_
      refine wl_val (v_pick rfl) rfl ?_
      refine wl_val (v_move' (by conv => (lhs; whnf))) rfl ?_
      refine wl_on rfl rfl ?_
      refine wl_val (v_fa TF.f57_1 rfl) rfl ?_
      refine wl_on rfl rfl ?_
      refine wl_val (v_load rfl (by first | exact st.rdp 0 rfl (by exact rfl) TF.t4 (by exact (Ac.g1_1 (by assumption))) | exact st.rdp 1 rfl (by exact rfl) TF.t4 (by exact (Ac.g1_1 (by assumption))) | exact st.rdp 2 rfl (by exact rfl) TF.t4 (by exact (Ac.g1_1 (by assumption))) | exact st.rdp 3 rfl (by exact rfl) TF.t4 (by exact (Ac.g1_1 (by assumption))) | exact st.rdp 4 rfl (by exact rfl) TF.t4 (by exact (Ac.g1_1 (by assumption))) | exact st.rdp 5 rfl (by exact rfl) TF.t4 (by exact (Ac.g1_1 (by assumption))) | exact st.rdp 6 rfl (by exact rfl) TF.t4 (by exact (Ac.g1_1 (by assumption))) | exact st.rdp 7 rfl (by exact rfl) TF.t4 (by exact (Ac.g1_1 (by assumption))))) rfl ?_
      refine wl_on rfl rfl ?_
      refine wl_val (wl_valD (v_not rfl) (q := true) (by rw [h3]; rfl)) rfl ?_
      refine wl_on rfl rfl ?_
      refine wl_val (v_move' (by conv => (lhs; whnf))) rfl ?_
      refine wl_on rfl rfl ?_
      refine wl_val (v_fa TF.f57_2 rfl) rfl ?_
      refine wl_on rfl rfl ?_
      refine wl_val (v_load rfl (st.reads (v := .slice da x.data.length dc) 0 rfl TF.t23 rfl)) rfl ?_
      refine wl_on rfl rfl ?_
      refine wl_val (v_len_s Tryz.underlying23 rfl) rfl ?_
      refine wl_on rfl rfl ?_
      refine wl_val (wl_valD (v_gtr rfl rfl) (q := true) (decide_eq_true (by omega))) rfl ?_
      refine wl_on rfl rfl ?_
      refine wl_val (v_pick rfl) rfl ?_
      refine wl_val (v_pick rfl) rfl ?_
      refine wl_val (v_move' (by conv => (lhs; whnf))) rfl ?_
      refine wl_off rfl rfl rfl rfl ?_
      refine wl_off rfl rfl rfl rfl ?_
      refine wl_off rfl rfl rfl rfl ?_
      refine wl_off rfl rfl rfl rfl ?_
      refine wl_val (v_pick rfl) rfl ?_
      refine wl_val (v_assign' (by conv => (lhs; whnf))) rfl ?_
      refine wl_nil ?_
      refine then_go ?_
      refine wc_true rfl ?_
      refine wc_seq ?_
      refine wc_region ?_
      refine wl_val (v_assign' (by conv => (lhs; whnf))) rfl ?_
      refine wl_nil ?_
      refine then_go ?_
      refine wc_ret (block_ret (block_ret (then_ret (then_ret (block_ret (then_ret ?_))))))
      exact ret1 rfl ⟨(st.keepOnly (l := []) (List.nil_sublist _)).touch, by unfold chkL; rw [if_neg (fun h => by have := ok_at h hiM; rw [hMi] at this; have h5 := this.2.2.1; rw [h3] at h5; rcases h5 with h5 | h5 <;> first | cases h5 | omega)]; rfl⟩
     ·refine wc_region ?_
      refine wl_val (v_fa TF.f57_0 rfl) rfl ?_
      refine wl_val (v_load rfl (by first | exact st.rdp 0 rfl (by exact rfl) TF.t9 (by exact (Ac.g0_1 (by assumption))) | exact st.rdp 1 rfl (by exact rfl) TF.t9 (by exact (Ac.g0_1 (by assumption))) | exact st.rdp 2 rfl (by exact rfl) TF.t9 (by exact (Ac.g0_1 (by assumption))) | exact st.rdp 3 rfl (by exact rfl) TF.t9 (by exact (Ac.g0_1 (by assumption))) | exact st.rdp 4 rfl (by exact rfl) TF.t9 (by exact (Ac.g0_1 (by assumption))) | exact st.rdp 5 rfl (by exact rfl) TF.t9 (by exact (Ac.g0_1 (by assumption))) | exact st.rdp 6 rfl (by exact rfl) TF.t9 (by exact (Ac.g0_1 (by assumption))) | exact st.rdp 7 rfl (by exact rfl) TF.t9 (by exact (Ac.g0_1 (by assumption))))) rfl ?_
      refine wl_val (wl_valD (v_eqs (b := []) rfl rfl) (q := false) (decide_eq_false (fun e => h1 (by rw [e]; rfl)))) rfl ?_
      refine wl_val (v_move' (by conv => (lhs; whnf))) rfl ?_
      refine wl_on rfl rfl ?_
      refine wl_val (v_fa TF.f57_0 rfl) rfl ?_
      refine wl_on rfl rfl ?_
      refine wl_val (v_load rfl (by first | exact st.rdp 0 rfl (by exact rfl) TF.t9 (by exact (Ac.g0_1 (by assumption))) | exact st.rdp 1 rfl (by exact rfl) TF.t9 (by exact (Ac.g0_1 (by assumption))) | exact st.rdp 2 rfl (by exact rfl) TF.t9 (by exact (Ac.g0_1 (by assumption))) | exact st.rdp 3 rfl (by exact rfl) TF.t9 (by exact (Ac.g0_1 (by assumption))) | exact st.rdp 4 rfl (by exact rfl) TF.t9 (by exact (Ac.g0_1 (by assumption))) | exact st.rdp 5 rfl (by exact rfl) TF.t9 (by exact (Ac.g0_1 (by assumption))) | exact st.rdp 6 rfl (by exact rfl) TF.t9 (by exact (Ac.g0_1 (by assumption))) | exact st.rdp 7 rfl (by exact rfl) TF.t9 (by exact (Ac.g0_1 (by assumption))))) rfl ?_
      refine wl_on rfl rfl ?_
      refine wl_val (v_to (v' := .int .i64 x.key.length) (v_len_str Tryz.underlying9 rfl) (by rw [size_strB])) rfl ?_
      refine wl_on rfl rfl ?_
      refine wl_val (wl_valD (v_gtr rfl rfl) (q := false) (decide_eq_false (by omega))) rfl ?_
      refine wl_val (v_pick rfl) rfl ?_
      refine wl_val (v_move' (by conv => (lhs; whnf))) rfl ?_
      refine wl_on rfl rfl ?_
      refine wl_val (v_fa TF.f57_1 rfl) rfl ?_
      refine wl_on rfl rfl ?_
      refine wl_val (v_load rfl (by first | exact st.rdp 0 rfl (by exact rfl) TF.t4 (by exact (Ac.g1_1 (by assumption))) | exact st.rdp 1 rfl (by exact rfl) TF.t4 (by exact (Ac.g1_1 (by assumption))) | exact st.rdp 2 rfl (by exact rfl) TF.t4 (by exact (Ac.g1_1 (by assumption))) | exact st.rdp 3 rfl (by exact rfl) TF.t4 (by exact (Ac.g1_1 (by assumption))) | exact st.rdp 4 rfl (by exact rfl) TF.t4 (by exact (Ac.g1_1 (by assumption))) | exact st.rdp 5 rfl (by exact rfl) TF.t4 (by exact (Ac.g1_1 (by assumption))) | exact st.rdp 6 rfl (by exact rfl) TF.t4 (by exact (Ac.g1_1 (by assumption))) | exact st.rdp 7 rfl (by exact rfl) TF.t4 (by exact (Ac.g1_1 (by assumption))))) rfl ?_
      refine wl_on rfl rfl ?_
      refine wl_val (wl_valD (v_not rfl) (q := true) (by rw [h3]; rfl)) rfl ?_
      refine wl_on rfl rfl ?_
      refine wl_val (v_move' (by conv => (lhs; whnf))) rfl ?_
      refine wl_on rfl rfl ?_
      refine wl_val (v_fa TF.f57_2 rfl) rfl ?_
      refine wl_on rfl rfl ?_
      refine wl_val (v_load rfl (st.reads (v := .slice da x.data.length dc) 0 rfl TF.t23 rfl)) rfl ?_
      refine wl_on rfl rfl ?_
      refine wl_val (v_len_s Tryz.underlying23 rfl) rfl ?_
      refine wl_on rfl rfl ?_
      refine wl_val (wl_valD (v_gtr rfl rfl) (q := false) (decide_eq_false (by omega))) rfl ?_
      refine wl_on rfl rfl ?_
      refine wl_val (v_pick rfl) rfl ?_
      refine wl_val (v_pick rfl) rfl ?_
      refine wl_val (v_move' (by conv => (lhs; whnf))) rfl ?_
      refine wl_on rfl rfl ?_
      refine wl_val (v_fa TF.f57_2 rfl) rfl ?_
      refine wl_on rfl rfl ?_
      refine wl_val (v_load rfl (st.reads (v := .slice da x.data.length dc) 0 rfl TF.t23 rfl)) rfl ?_
      refine wl_on rfl rfl ?_
      refine wl_val (v_len_s Tryz.underlying23 rfl) rfl ?_
      refine wl_on rfl rfl ?_
      refine wl_val (v_gtr rfl rfl) rfl ?_
      refine wl_val (v_pick rfl) rfl ?_
      refine wl_val (v_assign' (by conv => (lhs; whnf))) rfl ?_
      refine wl_nil ?_
      refine then_go ?_
      refine wc_cond rfl (fun h12 => ?_) (fun h12 => ?_)
      ·refine wc_seq ?_
       refine wc_region ?_
       refine wl_val (v_assign' (by conv => (lhs; whnf))) rfl ?_
       refine wl_nil ?_
       refine then_go ?_
       refine wc_ret (block_ret (block_ret (then_ret (then_ret (block_ret (then_ret ?_))))))
       exact ret1 rfl ⟨(st.keepOnly (l := []) (List.nil_sublist _)).touch, by have := of_decide_eq_true h12; unfold chkL; rw [if_neg (fun h => by have := ok_at h hiM; rw [hMi] at this; unfold actOk at this; omega)]; rfl⟩
      ·refine wc_seq ?_
       by_cases hi0 : 0 < i
       ·have hip : i - 1 < L.length := by omega
        obtain ⟨lb', lo', da', dc', hla', hd', _, hrK, _⟩ := hL.at hip
        cases hla'
        have hMp : M[i - 1] = L[i - 1].1 := by simp [hM]
        refine wc_draw TF.mixed ?_
        have st := st.pure (touch_drew _)
        refine fl_val 0 rfl (fun _ => (v_move' (by conv => (lhs; whnf)))) rfl (by kernel_rfl) ?_
        refine fl_val 1 rfl (fun _ => (wl_valD (v_gtr rfl rfl) (q := true) (decide_eq_true (by omega)))) rfl (by kernel_rfl) ?_
        refine fl_val 2 rfl (fun _ => (v_move' (by conv => (lhs; whnf)))) rfl (by kernel_rfl) ?_
        refine fl_on 3 rfl rfl rfl rfl (fun _ => (v_move' (by conv => (lhs; whnf)))) rfl (by kernel_rfl) ?_
        refine fl_on 4 rfl rfl rfl rfl (fun _ => (v_move' (by conv => (lhs; whnf)))) rfl (by kernel_rfl) ?_
        refine fl_on 5 rfl rfl rfl rfl (fun _ => (v_sub' (c := ((i - 1 : Nat) : Int)) rfl rfl (by omega) (by omega) (by omega))) rfl (by kernel_rfl) ?_
        refine fl_on 6 rfl rfl rfl rfl (fun _ => (v_ias ((i - 1)) Tryz.underlying22 TF.t57 rfl rfl (by first | rfl | omega) (by first | omega | (dsimp only at *; omega)))) rfl (by kernel_rfl) ?_
        refine fl_on 7 rfl rfl rfl rfl (fun _ => (v_fa TF.f57_0 rfl)) rfl (by kernel_rfl) ?_
        refine fl_ond 8 rfl rfl rfl rfl (v_load rfl (hrK st.im)) rfl (by kernel_rfl) ?_
        refine fl_on 9 rfl rfl rfl rfl (fun _ => (v_fa TF.f57_0 rfl)) rfl (by kernel_rfl) ?_
        refine fl_ond 10 rfl rfl rfl rfl (v_load rfl (by first | exact st.rdp 0 rfl (by exact rfl) TF.t9 (by exact (Ac.g0_1 (by assumption))) | exact st.rdp 1 rfl (by exact rfl) TF.t9 (by exact (Ac.g0_1 (by assumption))) | exact st.rdp 2 rfl (by exact rfl) TF.t9 (by exact (Ac.g0_1 (by assumption))) | exact st.rdp 3 rfl (by exact rfl) TF.t9 (by exact (Ac.g0_1 (by assumption))) | exact st.rdp 4 rfl (by exact rfl) TF.t9 (by exact (Ac.g0_1 (by assumption))) | exact st.rdp 5 rfl (by exact rfl) TF.t9 (by exact (Ac.g0_1 (by assumption))) | exact st.rdp 6 rfl (by exact rfl) TF.t9 (by exact (Ac.g0_1 (by assumption))) | exact st.rdp 7 rfl (by exact rfl) TF.t9 (by exact (Ac.g0_1 (by assumption))))) rfl (by kernel_rfl) ?_
        refine fl_on 11 rfl rfl rfl rfl (fun _ => (v_geStr rfl rfl)) rfl (by kernel_rfl) ?_
        refine fl_val 12 rfl (fun _ => (v_pick rfl)) rfl (by kernel_rfl) ?_
        refine fl_eff1 13 [11, 9, 7, 6, 5, 4, 3, 1, 0] [10, 8] (by kernel_rfl) ⟨obl_on rfl rfl rfl rfl rfl (v_load rfl (by first | exact st.rdp 0 rfl (by exact rfl) TF.t9 (by exact (Ac.g0_1 (by assumption))) | exact st.rdp 1 rfl (by exact rfl) TF.t9 (by exact (Ac.g0_1 (by assumption))) | exact st.rdp 2 rfl (by exact rfl) TF.t9 (by exact (Ac.g0_1 (by assumption))) | exact st.rdp 3 rfl (by exact rfl) TF.t9 (by exact (Ac.g0_1 (by assumption))) | exact st.rdp 4 rfl (by exact rfl) TF.t9 (by exact (Ac.g0_1 (by assumption))) | exact st.rdp 5 rfl (by exact rfl) TF.t9 (by exact (Ac.g0_1 (by assumption))) | exact st.rdp 6 rfl (by exact rfl) TF.t9 (by exact (Ac.g0_1 (by assumption))) | exact st.rdp 7 rfl (by exact rfl) TF.t9 (by exact (Ac.g0_1 (by assumption))))), obl_on rfl rfl rfl rfl rfl (v_load rfl (hrK st.im)), trivial⟩ rfl ?_
        refine wl_val (v_assign' (by conv => (lhs; whnf))) rfl ?_
        refine wl_nil ⟨rfl, ?_⟩
        refine fl_nil (by kernel_rfl) ⟨obl_on rfl rfl rfl rfl rfl (v_load rfl (by first | exact st.rdp 0 rfl (by exact rfl) TF.t9 (by exact (Ac.g0_1 (by assumption))) | exact st.rdp 1 rfl (by exact rfl) TF.t9 (by exact (Ac.g0_1 (by assumption))) | exact st.rdp 2 rfl (by exact rfl) TF.t9 (by exact (Ac.g0_1 (by assumption))) | exact st.rdp 3 rfl (by exact rfl) TF.t9 (by exact (Ac.g0_1 (by assumption))) | exact st.rdp 4 rfl (by exact rfl) TF.t9 (by exact (Ac.g0_1 (by assumption))) | exact st.rdp 5 rfl (by exact rfl) TF.t9 (by exact (Ac.g0_1 (by assumption))) | exact st.rdp 6 rfl (by exact rfl) TF.t9 (by exact (Ac.g0_1 (by assumption))) | exact st.rdp 7 rfl (by exact rfl) TF.t9 (by exact (Ac.g0_1 (by assumption))))), obl_on rfl rfl rfl rfl rfl (v_load rfl (hrK st.im)), trivial⟩ ?_
        refine then_go ?_
        refine wc_cond rfl (fun h39 => ?_) (fun h39 => ?_)
        ·refine wc_seq ?_
         refine wc_region ?_
         refine wl_val (v_assign' (by conv => (lhs; whnf))) rfl ?_
         refine wl_nil ?_
         refine then_go ?_
         refine wc_ret (block_ret (block_ret (then_ret (then_ret (block_ret (then_ret ?_))))))
         exact ret1 rfl ⟨(st.keepOnly (l := []) (List.nil_sublist _)).touch, by unfold chkL; rw [if_neg (fun h => of_decide_eq_true h39 (by have := ok_lt h hiM hi0; rw [hMi, hMp] at this; exact this))]; rfl⟩
        ·refine wc_skip ?_
         refine block_go (block_go (then_go ?_))
         refine wc_region ?_
         refine wl_val (v_add' (c := ((i + 1 : Nat) : Int)) rfl rfl (by omega) (by omega) (by omega)) rfl ?_
         refine wl_val (v_move' (by conv => (lhs; whnf))) rfl ?_
         refine wl_nil ?_
         refine then_go ?_
         exact ⟨q - 1, by simp; omega, i + 1, by omega, rfl, rfl, rfl, rfl, good_succ hg hiM (by rw [hMi]; have := of_decide_eq_false h12; unfold actOk; refine ⟨by omega, by omega, .inr (by omega), by omega⟩) (fun _ => by have := of_decide_eq_false h39; rw [hMi, hMp]; exact Decidable.not_not.1 this), st.drop 0⟩
       ·refine wc_draw TF.mixed ?_
        have st := st.pure (touch_drew _)
        refine fl_val 0 rfl (fun _ => (v_move' (by conv => (lhs; whnf)))) rfl (by kernel_rfl) ?_
        refine fl_val 1 rfl (fun _ => (wl_valD (v_gtr rfl rfl) (q := false) (decide_eq_false (by omega)))) rfl (by kernel_rfl) ?_
        refine fl_val 2 rfl (fun _ => (v_move' (by conv => (lhs; whnf)))) rfl (by kernel_rfl) ?_
        refine fl_off 3 rfl rfl rfl rfl rfl rfl (by kernel_rfl) ?_
        refine fl_off 4 rfl rfl rfl rfl rfl rfl (by kernel_rfl) ?_
        refine fl_off 5 rfl rfl rfl rfl rfl rfl (by kernel_rfl) ?_
        refine fl_off 6 rfl rfl rfl rfl rfl rfl (by kernel_rfl) ?_
        refine fl_off 7 rfl rfl rfl rfl rfl rfl (by kernel_rfl) ?_
        refine fl_offd 8 rfl rfl rfl rfl rfl rfl (by kernel_rfl) ?_
        refine fl_off 9 rfl rfl rfl rfl rfl rfl (by kernel_rfl) ?_
        refine fl_offd 10 rfl rfl rfl rfl rfl rfl (by kernel_rfl) ?_
        refine fl_off 11 rfl rfl rfl rfl rfl rfl (by kernel_rfl) ?_
        refine fl_val 12 rfl (fun _ => (v_pick rfl)) rfl (by kernel_rfl) ?_
        refine fl_eff1 13 [11, 9, 7, 6, 5, 4, 3, 1, 0] [10, 8] (by kernel_rfl) ⟨obl_off rfl rfl rfl rfl rfl rfl, obl_off rfl rfl rfl rfl rfl rfl, trivial⟩ rfl ?_
        refine wl_val (v_assign' (by conv => (lhs; whnf))) rfl ?_
        refine wl_nil ⟨rfl, ?_⟩
        refine fl_nil (by kernel_rfl) ⟨obl_off rfl rfl rfl rfl rfl rfl, obl_off rfl rfl rfl rfl rfl rfl, trivial⟩ ?_
        refine then_go ?_
        refine wc_false rfl ?_
        refine wc_skip ?_
        refine block_go (block_go (then_go ?_))
        refine wc_region ?_
        refine wl_val (v_add' (c := ((i + 1 : Nat) : Int)) rfl rfl (by omega) (by omega) (by omega)) rfl ?_
        refine wl_val (v_move' (by conv => (lhs; whnf))) rfl ?_
        refine wl_nil ?_
        refine then_go ?_
        exact ⟨q - 1, by simp; omega, i + 1, by omega, rfl, rfl, rfl, rfl, good_succ hg hiM (by rw [hMi]; have := of_decide_eq_false h12; unfold actOk; refine ⟨by omega, by omega, .inr (by omega), by omega⟩) (fun h => (hi0 h).elim), st.drop 0⟩
 ·refine wc_exit (then_exit (then_exit (block_hit ?_)))
  refine then_go ?_
  refine wc_seq ?_
  refine wc_seq ?_
  have hi : i = M.length := by omega
  subst hi
  have hall := good_all hg
  refine wc_region ?_
  refine wl_val (v_move' (by conv => (lhs; whnf))) rfl ?_
  refine wl_val (v_len_s Tryz.underlying22 rfl) rfl ?_
  refine wl_val (v_gtr rfl rfl) rfl ?_
  refine wl_nil ?_
  refine then_go ?_
  refine wc_cond rfl (fun h56 => ?_) (fun h56 => ?_)
  ·refine wc_seq ?_
   refine wc_region ?_
   refine wl_val (v_assign' (by conv => (lhs; whnf))) rfl ?_
   refine wl_nil ?_
   refine then_go ?_
   refine wc_ret (then_ret ?_)
   exact ret1 rfl ⟨st.touch, by have := of_decide_eq_true h56; unfold chkL; rw [if_neg (fun h => by have := hall.1 h; omega)]; rfl⟩
  ·refine wc_skip ?_
   refine then_go ?_
   refine wc_seq ?_
   refine wc_region ?_
   refine wl_val (v_assign' (by conv => (lhs; whnf))) rfl ?_
   refine wl_nil ?_
   refine then_go ?_
   refine wc_ret ?_
   exact ret1 rfl ⟨st.touch, by have := of_decide_eq_false h56; unfold chkL; rw [if_pos (hall.2 (by omega))]; rfl⟩
theorem c_rchk {v : Value} {L : List AcT} (him : Im m wI) (hL : AcsM m v L) (hLl : L.length ≤ 1099511627776) :
  Ret Tryz.prog 13 #[v] wI fun v' w' => Tch wI w' [] [] ∧ v' = .int .i64 (chkL (L.map (·.1)) : Nat) := by
 have st := St.start him
 obtain ⟨la, lc, rfl⟩ := hL.1.sl
 obtain ⟨M, hM⟩ : ∃ M, M = L.map (·.1) := ⟨_, rfl⟩
 have hMl : M.length = L.length := by rw [hM, List.length_map]
 rw [← hM]
 refine ret_of Tryz.call13 Tryz.func13 rfl Tryz.ntmps13 Tryz.results13 rfl ?_
 refine wc_seq ?_
 refine wc_region ?_
 refine wl_val (v_assign' (by conv => (lhs; whnf))) rfl ?_
 refine wl_nil ?_
 refine then_go ?_
 refine wc_seq ?_
 refine wc_seq ?_
 refine wc_region ?_
 refine wl_val (v_move' (by conv => (lhs; whnf))) rfl ?_
 refine wl_val (v_len_s Tryz.underlying22 rfl) rfl ?_
 refine wl_val (v_gtr rfl rfl) rfl ?_
 refine wl_nil ?_
 refine then_go ?_
 refine wc_cond rfl (fun h7 => ?_) (fun h7 => ?_)
 ·refine wc_seq ?_
  refine wc_region ?_
  refine wl_val (v_assign' (by conv => (lhs; whnf))) rfl ?_
  refine wl_nil ?_
  refine then_go ?_
  refine wc_ret (then_ret ?_)
  exact ret1 rfl ⟨st.touch, by have := of_decide_eq_true h7; unfold chkL; rw [if_neg (fun h => by have := h.1; omega)]; rfl⟩
 ·refine wc_skip ?_
  refine then_go ?_
  refine wc_seq ?_
  refine wc_seq ?_
  refine wc_region ?_
  refine wl_val (v_assign' (by conv => (lhs; whnf))) rfl ?_
  refine wl_nil ?_
  refine then_go ?_
  refine wc_block ?_
  refine wc_loop (S := Nat) (fun q r w' => ∃ i, q + i = L.length ∧ r 0 = .slice la L.length lc ∧ r 3 = .int .i64 i ∧ GoodTo M i ∧ St m m [] wI w' []) id L.length ⟨0, by omega, rfl, rfl, good0, st⟩ ?_
  clear st
  rintro q r w2 ⟨i, hqi, g0, g3, hg, st⟩
  refine wc_o 0 g0 (wc_o 3 g3 ?_)
  refine wc_seq ?_
  refine wc_seq ?_
  refine wc_region ?_
  refine wl_val (v_move' (by conv => (lhs; whnf))) rfl ?_
  refine wl_val (v_move' (by conv => (lhs; whnf))) rfl ?_
  refine wl_val (v_len_s Tryz.underlying22 rfl) rfl ?_
  refine wl_val (v_lss rfl rfl) rfl ?_
  refine wl_nil ?_
  refine then_go ?_
  refine wc_if rfl (fun h11 => ?_) (fun h11 => ?_)
  ·refine wc_skip ?_
   refine then_go ?_
   refine wc_seq ?_
   refine wc_block ?_
   refine wc_seq ?_
   have hi : i < L.length := by omega
   have hiM : i < M.length := by omega
   obtain ⟨lb, lo, da, dc, hla, hd, hrL, _⟩ := hL.at hi
   subst hla
   have hok : AcOk m L[i].1 L[i].2 := hL.2 _ (List.getElem_mem hi)
   have hMi : M[i] = L[i].1 := by simp [hM]
   obtain ⟨x, hx⟩ : ∃ x, x = L[i].1 := ⟨_, rfl⟩
   rw [← hx] at hd hok hMi
   rw [hd] at hok
   have hrX : ∀ {w' : World}, Im m w' → Reads Tryz.prog w' 57 ⟨lb, lo + i * 3, none⟩ (.agg (acC x (.slice da x.data.length dc)).toArray) := by rw [← hd, hx]; exact hrL
   refine wc_region ?_
   refine wl_val (v_move' (by conv => (lhs; whnf))) rfl ?_
   refine wl_val (v_move' (by conv => (lhs; whnf))) rfl ?_
   refine wl_val (v_ias i Tryz.underlying22 TF.t57 rfl rfl (by first | rfl | omega) (by first | omega | (dsimp only at *; omega))) rfl ?_
   refine wl_val (v_load rfl (hrX st.im)) rfl ?_
   refine wl_alloc TF.z57 st rfl ?_
   intro b4 w st
   refine wl_storeW (cs := (acC x (.slice da x.data.length dc)).toArray) 0 st rfl TF.t57 rfl rfl (by exact Ac.len hok) rfl (by exact Ac.one hok) ?_
   intro w st
   refine wl_nil ?_
   refine then_go ?_
   refine wc_seq ?_
   refine wc_seq ?_
   by_cases h1 : x.key.length = 0
   ·refine wc_region ?_
    refine wl_val (v_fa TF.f57_0 rfl) rfl ?_
    refine wl_val (v_load rfl (by first | exact st.rdp 0 rfl (by exact rfl) TF.t9 (by exact (Ac.g0_1 (by assumption))) | exact st.rdp 1 rfl (by exact rfl) TF.t9 (by exact (Ac.g0_1 (by assumption))) | exact st.rdp 2 rfl (by exact rfl) TF.t9 (by exact (Ac.g0_1 (by assumption))) | exact st.rdp 3 rfl (by exact rfl) TF.t9 (by exact (Ac.g0_1 (by assumption))) | exact st.rdp 4 rfl (by exact rfl) TF.t9 (by exact (Ac.g0_1 (by assumption))) | exact st.rdp 5 rfl (by exact rfl) TF.t9 (by exact (Ac.g0_1 (by assumption))) | exact st.rdp 6 rfl (by exact rfl) TF.t9 (by exact (Ac.g0_1 (by assumption))) | exact st.rdp 7 rfl (by exact rfl) TF.t9 (by exact (Ac.g0_1 (by assumption))))) rfl ?_
    refine wl_val (v_to (v' := .int .i64 x.key.length) (v_len_str Tryz.underlying9 rfl) (by rw [size_strB])) rfl ?_
    refine wl_val (wl_valD (v_lss rfl rfl) (q := true) (decide_eq_true (by omega))) rfl ?_
    refine wl_val (v_move' (by conv => (lhs; whnf))) rfl ?_
    refine wl_off rfl rfl rfl rfl ?_
    refine wl_off rfl rfl rfl rfl ?_
    refine wl_off rfl rfl rfl rfl ?_
    refine wl_off rfl rfl rfl rfl ?_
    refine wl_val (v_pick rfl) rfl ?_
    refine wl_val (v_move' (by conv => (lhs; whnf))) rfl ?_
    refine wl_off rfl rfl rfl rfl ?_
    refine wl_off rfl rfl rfl rfl ?_
    refine wl_off rfl rfl rfl rfl ?_
    refine wl_off rfl rfl rfl rfl ?_
    refine offU rfl rfl rfl ?_
    refine offU rfl rfl rfl ?_
    refine offU rfl rfl rfl ?_
    refine offU rfl rfl rfl ?_
    refine wl_off rfl rfl rfl rfl ?_
    refine wl_val (v_pick rfl) rfl ?_
    refine wl_val (v_move' (by conv => (lhs; whnf))) rfl ?_
    refine wl_off rfl rfl rfl rfl ?_
    refine wl_off rfl rfl rfl rfl ?_
    refine wl_off rfl rfl rfl rfl ?_
    refine wl_off rfl rfl rfl rfl ?_
    refine wl_val (v_pick rfl) rfl ?_
    refine wl_nil ?_
    refine then_go ?_
    refine wc_true rfl ?_
    refine wc_seq ?_
    refine wc_region ?_
    refine wl_val (v_assign' (by conv => (lhs; whnf))) rfl ?_
    refine wl_nil ?_
    refine then_go ?_
    refine wc_ret (then_ret (block_ret (then_ret (then_ret (block_ret (then_ret ?_))))))
    exact ret1 rfl ⟨(st.keepOnly (l := []) (List.nil_sublist _)).touch, by unfold chkL; rw [if_neg (fun h => by have := ok_at h hiM; rw [hMi] at this; unfold actOk at this; omega)]; rfl⟩
   ·by_cases h2 : 64 < x.key.length
    ·refine wc_region ?_
     refine wl_val (v_fa TF.f57_0 rfl) rfl ?_
     refine wl_val (v_load rfl (by first | exact st.rdp 0 rfl (by exact rfl) TF.t9 (by exact (Ac.g0_1 (by assumption))) | exact st.rdp 1 rfl (by exact rfl) TF.t9 (by exact (Ac.g0_1 (by assumption))) | exact st.rdp 2 rfl (by exact rfl) TF.t9 (by exact (Ac.g0_1 (by assumption))) | exact st.rdp 3 rfl (by exact rfl) TF.t9 (by exact (Ac.g0_1 (by assumption))) | exact st.rdp 4 rfl (by exact rfl) TF.t9 (by exact (Ac.g0_1 (by assumption))) | exact st.rdp 5 rfl (by exact rfl) TF.t9 (by exact (Ac.g0_1 (by assumption))) | exact st.rdp 6 rfl (by exact rfl) TF.t9 (by exact (Ac.g0_1 (by assumption))) | exact st.rdp 7 rfl (by exact rfl) TF.t9 (by exact (Ac.g0_1 (by assumption))))) rfl ?_
     refine wl_val (v_to (v' := .int .i64 x.key.length) (v_len_str Tryz.underlying9 rfl) (by rw [size_strB])) rfl ?_
     refine wl_val (wl_valD (v_lss rfl rfl) (q := false) (decide_eq_false (by omega))) rfl ?_
     refine wl_val (v_move' (by conv => (lhs; whnf))) rfl ?_
     refine wl_on rfl rfl ?_
     refine wl_val (v_fa TF.f57_0 rfl) rfl ?_
     refine wl_on rfl rfl ?_
     refine wl_val (v_load rfl (by first | exact st.rdp 0 rfl (by exact rfl) TF.t9 (by exact (Ac.g0_1 (by assumption))) | exact st.rdp 1 rfl (by exact rfl) TF.t9 (by exact (Ac.g0_1 (by assumption))) | exact st.rdp 2 rfl (by exact rfl) TF.t9 (by exact (Ac.g0_1 (by assumption))) | exact st.rdp 3 rfl (by exact rfl) TF.t9 (by exact (Ac.g0_1 (by assumption))) | exact st.rdp 4 rfl (by exact rfl) TF.t9 (by exact (Ac.g0_1 (by assumption))) | exact st.rdp 5 rfl (by exact rfl) TF.t9 (by exact (Ac.g0_1 (by assumption))) | exact st.rdp 6 rfl (by exact rfl) TF.t9 (by exact (Ac.g0_1 (by assumption))) | exact st.rdp 7 rfl (by exact rfl) TF.t9 (by exact (Ac.g0_1 (by assumption))))) rfl ?_
     refine wl_on rfl rfl ?_
     refine wl_val (v_to (v' := .int .i64 x.key.length) (v_len_str Tryz.underlying9 rfl) (by rw [size_strB])) rfl ?_
     refine wl_on rfl rfl ?_
     refine wl_val (wl_valD (v_gtr rfl rfl) (q := true) (decide_eq_true (by omega))) rfl ?_
     refine wl_val (v_pick rfl) rfl ?_
     refine wl_val (v_move' (by conv => (lhs; whnf))) rfl ?_
     refine wl_off rfl rfl rfl rfl ?_
     refine wl_off rfl rfl rfl rfl ?_
     refine wl_off rfl rfl rfl rfl ?_
     refine wl_off rfl rfl rfl rfl ?_
     refine offU rfl rfl rfl ?_
     refine offU rfl rfl rfl ?_
     refine offU rfl rfl rfl ?_
     refine offU rfl rfl rfl ?_
     refine wl_off rfl rfl rfl rfl ?_
     refine wl_val (v_pick rfl) rfl ?_
     refine wl_val (v_move' (by conv => (lhs; whnf))) rfl ?_
     refine wl_off rfl rfl rfl rfl ?_
     refine wl_off rfl rfl rfl rfl ?_
     refine wl_off rfl rfl rfl rfl ?_
     refine wl_off rfl rfl rfl rfl ?_
     refine wl_val (v_pick rfl) rfl ?_
     refine wl_nil ?_
     refine then_go ?_
     refine wc_true rfl ?_
     refine wc_seq ?_
     refine wc_region ?_
     refine wl_val (v_assign' (by conv => (lhs; whnf))) rfl ?_
     refine wl_nil ?_
     refine then_go ?_
     refine wc_ret (then_ret (block_ret (then_ret (then_ret (block_ret (then_ret ?_))))))
     exact ret1 rfl ⟨(st.keepOnly (l := []) (List.nil_sublist _)).touch, by unfold chkL; rw [if_neg (fun h => by have := ok_at h hiM; rw [hMi] at this; unfold actOk at this; omega)]; rfl⟩
    ·rcases Bool.eq_false_or_eq_true x.set with h3 | h3
     ·refine wc_region ?_
      refine wl_val (v_fa TF.f57_0 rfl) rfl ?_
      refine wl_val (v_load rfl (by first | exact st.rdp 0 rfl (by exact rfl) TF.t9 (by exact (Ac.g0_1 (by assumption))) | exact st.rdp 1 rfl (by exact rfl) TF.t9 (by exact (Ac.g0_1 (by assumption))) | exact st.rdp 2 rfl (by exact rfl) TF.t9 (by exact (Ac.g0_1 (by assumption))) | exact st.rdp 3 rfl (by exact rfl) TF.t9 (by exact (Ac.g0_1 (by assumption))) | exact st.rdp 4 rfl (by exact rfl) TF.t9 (by exact (Ac.g0_1 (by assumption))) | exact st.rdp 5 rfl (by exact rfl) TF.t9 (by exact (Ac.g0_1 (by assumption))) | exact st.rdp 6 rfl (by exact rfl) TF.t9 (by exact (Ac.g0_1 (by assumption))) | exact st.rdp 7 rfl (by exact rfl) TF.t9 (by exact (Ac.g0_1 (by assumption))))) rfl ?_
      refine wl_val (v_to (v' := .int .i64 x.key.length) (v_len_str Tryz.underlying9 rfl) (by rw [size_strB])) rfl ?_
      refine wl_val (wl_valD (v_lss rfl rfl) (q := false) (decide_eq_false (by omega))) rfl ?_
      refine wl_val (v_move' (by conv => (lhs; whnf))) rfl ?_
      refine wl_on rfl rfl ?_
      refine wl_val (v_fa TF.f57_0 rfl) rfl ?_
      refine wl_on rfl rfl ?_
      refine wl_val (v_load rfl (by first | exact st.rdp 0 rfl (by exact rfl) TF.t9 (by exact (Ac.g0_1 (by assumption))) | exact st.rdp 1 rfl (by exact rfl) TF.t9 (by exact (Ac.g0_1 (by assumption))) | exact st.rdp 2 rfl (by exact rfl) TF.t9 (by exact (Ac.g0_1 (by assumption))) | exact st.rdp 3 rfl (by exact rfl) TF.t9 (by exact (Ac.g0_1 (by assumption))) | exact st.rdp 4 rfl (by exact rfl) TF.t9 (by exact (Ac.g0_1 (by assumption))) | exact st.rdp 5 rfl (by exact rfl) TF.t9 (by exact (Ac.g0_1 (by assumption))) | exact st.rdp 6 rfl (by exact rfl) TF.t9 (by exact (Ac.g0_1 (by assumption))) | exact st.rdp 7 rfl (by exact rfl) TF.t9 (by exact (Ac.g0_1 (by assumption))))) rfl ?_
      refine wl_on rfl rfl ?_
      refine wl_val (v_to (v' := .int .i64 x.key.length) (v_len_str Tryz.underlying9 rfl) (by rw [size_strB])) rfl ?_
      refine wl_on rfl rfl ?_
      refine wl_val (wl_valD (v_gtr rfl rfl) (q := false) (decide_eq_false (by omega))) rfl ?_
      refine wl_val (v_pick rfl) rfl ?_
      refine wl_val (v_move' (by conv => (lhs; whnf))) rfl ?_
      refine wl_on rfl rfl ?_
      refine wl_val (v_fa TF.f57_1 rfl) rfl ?_
      refine wl_on rfl rfl ?_
      refine wl_val (v_load rfl (by first | exact st.rdp 0 rfl (by exact rfl) TF.t4 (by exact (Ac.g1_1 (by assumption))) | exact st.rdp 1 rfl (by exact rfl) TF.t4 (by exact (Ac.g1_1 (by assumption))) | exact st.rdp 2 rfl (by exact rfl) TF.t4 (by exact (Ac.g1_1 (by assumption))) | exact st.rdp 3 rfl (by exact rfl) TF.t4 (by exact (Ac.g1_1 (by assumption))) | exact st.rdp 4 rfl (by exact rfl) TF.t4 (by exact (Ac.g1_1 (by assumption))) | exact st.rdp 5 rfl (by exact rfl) TF.t4 (by exact (Ac.g1_1 (by assumption))) | exact st.rdp 6 rfl (by exact rfl) TF.t4 (by exact (Ac.g1_1 (by assumption))) | exact st.rdp 7 rfl (by exact rfl) TF.t4 (by exact (Ac.g1_1 (by assumption))))) rfl ?_
      refine wl_on rfl rfl ?_
      refine wl_val (wl_valD (v_not rfl) (q := false) (by rw [h3]; rfl)) rfl ?_
      refine wl_on rfl rfl ?_
      refine wl_val (v_move' (by conv => (lhs; whnf))) rfl ?_
      refine wl_off rfl rfl rfl rfl ?_
      refine wl_off rfl rfl rfl rfl ?_
      refine wl_off rfl rfl rfl rfl ?_
      refine wl_off rfl rfl rfl rfl ?_
      refine wl_on rfl rfl ?_
      refine wl_val (v_pick rfl) rfl ?_
      refine wl_val (v_pick rfl) rfl ?_
      refine wl_val (v_move' (by conv => (lhs; whnf))) rfl ?_
      refine wl_on rfl rfl ?_
      refine wl_val (v_fa TF.f57_2 rfl) rfl ?_
      refine wl_on rfl rfl ?_
      refine wl_val (v_load rfl (st.reads (v := .slice da x.data.length dc) 0 rfl TF.t23 rfl)) rfl ?_
      refine wl_on rfl rfl ?_
      refine wl_val (v_len_s Tryz.underlying23 rfl) rfl ?_
      refine wl_on rfl rfl ?_
      refine wl_val (v_gtr rfl rfl) rfl ?_
      refine wl_val (v_pick rfl) rfl ?_
      refine wl_nil ?_
      refine then_go ?_
      refine wc_cond rfl (fun h44 => ?_) (fun h44 => ?_)
      ·refine wc_seq ?_
       refine wc_region ?_
       refine wl_val (v_assign' (by conv => (lhs; whnf))) rfl ?_
       refine wl_nil ?_
       refine then_go ?_
       refine wc_ret (then_ret (block_ret (then_ret (then_ret (block_ret (then_ret ?_))))))
       exact ret1 rfl ⟨(st.keepOnly (l := []) (List.nil_sublist _)).touch, by have := of_decide_eq_true h44; unfold chkL; rw [if_neg (fun h => by have := ok_at h hiM; rw [hMi] at this; unfold actOk at this; omega)]; rfl⟩
      ·refine wc_skip ?_
       refine then_go ?_
       refine wc_seq ?_
       by_cases hi0 : 0 < i
       ·have hip : i - 1 < L.length := by omega
        obtain ⟨lb', lo', da', dc', hla', hd', _, hrK, _⟩ := hL.at hip
        cases hla'
        have hMp : M[i - 1] = L[i - 1].1 := by simp [hM]
        refine wc_draw TF.mixed ?_
        have st := st.pure (touch_drew _)
        refine fl_val 0 rfl (fun _ => (v_move' (by conv => (lhs; whnf)))) rfl (by kernel_rfl) ?_
        refine fl_val 1 rfl (fun _ => (wl_valD (v_gtr rfl rfl) (q := true) (decide_eq_true (by omega)))) rfl (by kernel_rfl) ?_
        refine fl_val 2 rfl (fun _ => (v_move' (by conv => (lhs; whnf)))) rfl (by kernel_rfl) ?_
        refine fl_on 3 rfl rfl rfl rfl (fun _ => (v_fa TF.f57_0 rfl)) rfl (by kernel_rfl) ?_
        refine fl_ond 4 rfl rfl rfl rfl (v_load rfl (by first | exact st.rdp 0 rfl (by exact rfl) TF.t9 (by exact (Ac.g0_1 (by assumption))) | exact st.rdp 1 rfl (by exact rfl) TF.t9 (by exact (Ac.g0_1 (by assumption))) | exact st.rdp 2 rfl (by exact rfl) TF.t9 (by exact (Ac.g0_1 (by assumption))) | exact st.rdp 3 rfl (by exact rfl) TF.t9 (by exact (Ac.g0_1 (by assumption))) | exact st.rdp 4 rfl (by exact rfl) TF.t9 (by exact (Ac.g0_1 (by assumption))) | exact st.rdp 5 rfl (by exact rfl) TF.t9 (by exact (Ac.g0_1 (by assumption))) | exact st.rdp 6 rfl (by exact rfl) TF.t9 (by exact (Ac.g0_1 (by assumption))) | exact st.rdp 7 rfl (by exact rfl) TF.t9 (by exact (Ac.g0_1 (by assumption))))) rfl (by kernel_rfl) ?_
        refine fl_on 5 rfl rfl rfl rfl (fun _ => (v_move' (by conv => (lhs; whnf)))) rfl (by kernel_rfl) ?_
        refine fl_on 6 rfl rfl rfl rfl (fun _ => (v_move' (by conv => (lhs; whnf)))) rfl (by kernel_rfl) ?_
        refine fl_on 7 rfl rfl rfl rfl (fun _ => (v_sub' (c := ((i - 1 : Nat) : Int)) rfl rfl (by omega) (by omega) (by omega))) rfl (by kernel_rfl) ?_
        refine fl_on 8 rfl rfl rfl rfl (fun _ => (v_ias ((i - 1)) Tryz.underlying22 TF.t57 rfl rfl (by first | rfl | omega) (by first | omega | (dsimp only at *; omega)))) rfl (by kernel_rfl) ?_
        refine fl_on 9 rfl rfl rfl rfl (fun _ => (v_fa TF.f57_0 rfl)) rfl (by kernel_rfl) ?_
        refine fl_ond 10 rfl rfl rfl rfl (v_load rfl (hrK st.im)) rfl (by kernel_rfl) ?_
        refine fl_on 11 rfl rfl rfl rfl (fun _ => (v_leStr rfl rfl)) rfl (by kernel_rfl) ?_
        refine fl_val 12 rfl (fun _ => (v_pick rfl)) rfl (by kernel_rfl) ?_
        refine fl_nil (by kernel_rfl) ⟨obl_on rfl rfl rfl rfl rfl (v_load rfl (hrK st.im)), obl_on rfl rfl rfl rfl rfl (v_load rfl (by first | exact st.rdp 0 rfl (by exact rfl) TF.t9 (by exact (Ac.g0_1 (by assumption))) | exact st.rdp 1 rfl (by exact rfl) TF.t9 (by exact (Ac.g0_1 (by assumption))) | exact st.rdp 2 rfl (by exact rfl) TF.t9 (by exact (Ac.g0_1 (by assumption))) | exact st.rdp 3 rfl (by exact rfl) TF.t9 (by exact (Ac.g0_1 (by assumption))) | exact st.rdp 4 rfl (by exact rfl) TF.t9 (by exact (Ac.g0_1 (by assumption))) | exact st.rdp 5 rfl (by exact rfl) TF.t9 (by exact (Ac.g0_1 (by assumption))) | exact st.rdp 6 rfl (by exact rfl) TF.t9 (by exact (Ac.g0_1 (by assumption))) | exact st.rdp 7 rfl (by exact rfl) TF.t9 (by exact (Ac.g0_1 (by assumption))))), trivial⟩ ?_
        refine then_go ?_
        refine wc_cond rfl (fun h57 => ?_) (fun h57 => ?_)
        ·refine wc_seq ?_
         refine wc_region ?_
         refine wl_val (v_assign' (by conv => (lhs; whnf))) rfl ?_
         refine wl_nil ?_
         refine then_go ?_
         refine wc_ret (block_ret (then_ret (then_ret (block_ret (then_ret ?_)))))
         exact ret1 rfl ⟨(st.keepOnly (l := []) (List.nil_sublist _)).touch, by unfold chkL; rw [if_neg (fun h => of_decide_eq_true h57 (by have := ok_lt h hiM hi0; rw [hMi, hMp] at this; exact this))]; rfl⟩
        ·refine wc_skip ?_
         refine block_go (then_go ?_)
         refine wc_region ?_
         refine wl_val (v_move' (by conv => (lhs; whnf))) rfl ?_
         refine wl_val (v_add' (c := ((i + 1 : Nat) : Int)) rfl rfl (by omega) (by omega) (by omega)) rfl ?_
         refine wl_val (v_assign' (by conv => (lhs; whnf))) rfl ?_
         refine wl_nil ?_
         refine then_go ?_
         exact ⟨q - 1, by simp; omega, i + 1, by omega, rfl, rfl, good_succ hg hiM (by rw [hMi]; have := of_decide_eq_false h44; unfold actOk; rw [h3]; refine ⟨by omega, by omega, .inl rfl, by omega⟩) (fun _ => by have := of_decide_eq_false h57; rw [hMi, hMp]; exact Decidable.not_not.1 this), st.drop 0⟩
       ·refine wc_draw TF.mixed ?_
        have st := st.pure (touch_drew _)
        refine fl_val 0 rfl (fun _ => (v_move' (by conv => (lhs; whnf)))) rfl (by kernel_rfl) ?_
        refine fl_val 1 rfl (fun _ => (wl_valD (v_gtr rfl rfl) (q := false) (decide_eq_false (by omega)))) rfl (by kernel_rfl) ?_
        refine fl_val 2 rfl (fun _ => (v_move' (by conv => (lhs; whnf)))) rfl (by kernel_rfl) ?_
        refine fl_off 3 rfl rfl rfl rfl rfl rfl (by kernel_rfl) ?_
        refine fl_offd 4 rfl rfl rfl rfl rfl rfl (by kernel_rfl) ?_
        refine fl_off 5 rfl rfl rfl rfl rfl rfl (by kernel_rfl) ?_
        refine fl_off 6 rfl rfl rfl rfl rfl rfl (by kernel_rfl) ?_
        refine fl_off 7 rfl rfl rfl rfl rfl rfl (by kernel_rfl) ?_
        refine fl_off 8 rfl rfl rfl rfl rfl rfl (by kernel_rfl) ?_
        refine fl_off 9 rfl rfl rfl rfl rfl rfl (by kernel_rfl) ?_
        refine fl_offd 10 rfl rfl rfl rfl rfl rfl (by kernel_rfl) ?_
        refine fl_off 11 rfl rfl rfl rfl rfl rfl (by kernel_rfl) ?_
        refine fl_val 12 rfl (fun _ => (v_pick rfl)) rfl (by kernel_rfl) ?_
        refine fl_nil (by kernel_rfl) ⟨obl_off rfl rfl rfl rfl rfl rfl, obl_off rfl rfl rfl rfl rfl rfl, trivial⟩ ?_
        refine then_go ?_
        refine wc_false rfl ?_
        refine wc_skip ?_
        refine block_go (then_go ?_)
        refine wc_region ?_
        refine wl_val (v_move' (by conv => (lhs; whnf))) rfl ?_
        refine wl_val (v_add' (c := ((i + 1 : Nat) : Int)) rfl rfl (by omega) (by omega) (by omega)) rfl ?_
        refine wl_val (v_assign' (by conv => (lhs; whnf))) rfl ?_
        refine wl_nil ?_
        refine then_go ?_
        exact ⟨q - 1, by simp; omega, i + 1, by omega, rfl, rfl, good_succ hg hiM (by rw [hMi]; have := of_decide_eq_false h44; unfold actOk; rw [h3]; refine ⟨by omega, by omega, .inl rfl, by omega⟩) (fun h => (hi0 h).elim), st.drop 0⟩
     ·by_cases h4 : 0 < x.data.length
      ·refine wc_region ?_
       refine wl_val (v_fa TF.f57_0 rfl) rfl ?_
       refine wl_val (v_load rfl (by first | exact st.rdp 0 rfl (by exact rfl) TF.t9 (by exact (Ac.g0_1 (by assumption))) | exact st.rdp 1 rfl (by exact rfl) TF.t9 (by exact (Ac.g0_1 (by assumption))) | exact st.rdp 2 rfl (by exact rfl) TF.t9 (by exact (Ac.g0_1 (by assumption))) | exact st.rdp 3 rfl (by exact rfl) TF.t9 (by exact (Ac.g0_1 (by assumption))) | exact st.rdp 4 rfl (by exact rfl) TF.t9 (by exact (Ac.g0_1 (by assumption))) | exact st.rdp 5 rfl (by exact rfl) TF.t9 (by exact (Ac.g0_1 (by assumption))) | exact st.rdp 6 rfl (by exact rfl) TF.t9 (by exact (Ac.g0_1 (by assumption))) | exact st.rdp 7 rfl (by exact rfl) TF.t9 (by exact (Ac.g0_1 (by assumption))))) rfl ?_
       refine wl_val (v_to (v' := .int .i64 x.key.length) (v_len_str Tryz.underlying9 rfl) (by rw [size_strB])) rfl ?_
       refine wl_val (wl_valD (v_lss rfl rfl) (q := false) (decide_eq_false (by omega))) rfl ?_
       refine wl_val (v_move' (by conv => (lhs; whnf))) rfl ?_
       refine wl_on rfl rfl ?_
       refine wl_val (v_fa TF.f57_0 rfl) rfl ?_
       refine wl_on rfl rfl ?_
       refine wl_val (v_load rfl (by first | exact st.rdp 0 rfl (by exact rfl) TF.t9 (by exact (Ac.g0_1 (by assumption))) | exact st.rdp 1 rfl (by exact rfl) TF.t9 (by exact (Ac.g0_1 (by assumption))) | exact st.rdp 2 rfl (by exact rfl) TF.t9 (by exact (Ac.g0_1 (by assumption))) | exact st.rdp 3 rfl (by exact rfl) TF.t9 (by exact (Ac.g0_1 (by assumption))) | exact st.rdp 4 rfl (by exact rfl) TF.t9 (by exact (Ac.g0_1 (by assumption))) | exact st.rdp 5 rfl (by exact rfl) TF.t9 (by exact (Ac.g0_1 (by assumption))) | exact st.rdp 6 rfl (by exact rfl) TF.t9 (by exact (Ac.g0_1 (by assumption))) | exact st.rdp 7 rfl (by exact rfl) TF.t9 (by exact (Ac.g0_1 (by assumption))))) rfl ?_
       refine wl_on rfl rfl ?_
       refine wl_val (v_to (v' := .int .i64 x.key.length) (v_len_str Tryz.underlying9 rfl) (by rw [size_strB])) rfl ?_
       refine wl_on rfl rfl ?_
       refine wl_val (wl_valD (v_gtr rfl rfl) (q := false) (decide_eq_false (by omega))) rfl ?_
       refine wl_val (v_pick rfl) rfl ?_
       refine wl_val (v_move' (by conv => (lhs; whnf))) rfl ?_
       refine wl_on rfl rfl ?_
       refine wl_val (v_fa TF.f57_1 rfl) rfl ?_
       refine wl_on rfl rfl ?_
       refine wl_val (v_load rfl (by first | exact st.rdp 0 rfl (by exact rfl) TF.t4 (by exact (Ac.g1_1 (by assumption))) | exact st.rdp 1 rfl (by exact rfl) TF.t4 (by exact (Ac.g1_1 (by assumption))) | exact st.rdp 2 rfl (by exact rfl) TF.t4 (by exact (Ac.g1_1 (by assumption))) | exact st.rdp 3 rfl (by exact rfl) TF.t4 (by exact (Ac.g1_1 (by assumption))) | exact st.rdp 4 rfl (by exact rfl) TF.t4 (by exact (Ac.g1_1 (by assumption))) | exact st.rdp 5 rfl (by exact rfl) TF.t4 (by exact (Ac.g1_1 (by assumption))) | exact st.rdp 6 rfl (by exact rfl) TF.t4 (by exact (Ac.g1_1 (by assumption))) | exact st.rdp 7 rfl (by exact rfl) TF.t4 (by exact (Ac.g1_1 (by assumption))))) rfl ?_
       refine wl_on rfl rfl ?_
       refine wl_val (wl_valD (v_not rfl) (q := true) (by rw [h3]; rfl)) rfl ?_
       refine wl_on rfl rfl ?_
       refine wl_val (v_move' (by conv => (lhs; whnf))) rfl ?_
       refine wl_on rfl rfl ?_
       refine wl_val (v_fa TF.f57_2 rfl) rfl ?_
       refine wl_on rfl rfl ?_
       refine wl_val (v_load rfl (st.reads (v := .slice da x.data.length dc) 0 rfl TF.t23 rfl)) rfl ?_
       refine wl_on rfl rfl ?_
       refine wl_val (v_len_s Tryz.underlying23 rfl) rfl ?_
       refine wl_on rfl rfl ?_
       refine wl_val (wl_valD (v_gtr rfl rfl) (q := true) (decide_eq_true (by omega))) rfl ?_
       refine wl_on rfl rfl ?_
       refine wl_val (v_pick rfl) rfl ?_
       refine wl_val (v_pick rfl) rfl ?_
       refine wl_val (v_move' (by conv => (lhs; whnf))) rfl ?_
       refine wl_off rfl rfl rfl rfl ?_
       refine wl_off rfl rfl rfl rfl ?_
       refine wl_off rfl rfl rfl rfl ?_
       refine wl_off rfl rfl rfl rfl ?_
       refine wl_val (v_pick rfl) rfl ?_
       refine wl_nil ?_
       refine then_go ?_
       refine wc_true rfl ?_
       refine wc_seq ?_
       refine wc_region ?_
       refine wl_val (v_assign' (by conv => (lhs; whnf))) rfl ?_
       refine wl_nil ?_
       refine then_go ?_
       refine wc_ret (then_ret (block_ret (then_ret (then_ret (block_ret (then_ret ?_))))))
       exact ret1 rfl ⟨(st.keepOnly (l := []) (List.nil_sublist _)).touch, by unfold chkL; rw [if_neg (fun h => by have := ok_at h hiM; rw [hMi] at this; have h5 := this.2.2.1; rw [h3] at h5; rcases h5 with h5 | h5 <;> first | cases h5 | omega)]; rfl⟩
      ·refine wc_region ?_
       refine wl_val (v_fa TF.f57_0 rfl) rfl ?_
       refine wl_val (v_load rfl (by first | exact st.rdp 0 rfl (by exact rfl) TF.t9 (by exact (Ac.g0_1 (by assumption))) | exact st.rdp 1 rfl (by exact rfl) TF.t9 (by exact (Ac.g0_1 (by assumption))) | exact st.rdp 2 rfl (by exact rfl) TF.t9 (by exact (Ac.g0_1 (by assumption))) | exact st.rdp 3 rfl (by exact rfl) TF.t9 (by exact (Ac.g0_1 (by assumption))) | exact st.rdp 4 rfl (by exact rfl) TF.t9 (by exact (Ac.g0_1 (by assumption))) | exact st.rdp 5 rfl (by exact rfl) TF.t9 (by exact (Ac.g0_1 (by assumption))) | exact st.rdp 6 rfl (by exact rfl) TF.t9 (by exact (Ac.g0_1 (by assumption))) | exact st.rdp 7 rfl (by exact rfl) TF.t9 (by exact (Ac.g0_1 (by assumption))))) rfl ?_
       refine wl_val (v_to (v' := .int .i64 x.key.length) (v_len_str Tryz.underlying9 rfl) (by rw [size_strB])) rfl ?_
       refine wl_val (wl_valD (v_lss rfl rfl) (q := false) (decide_eq_false (by omega))) rfl ?_
       refine wl_val (v_move' (by conv => (lhs; whnf))) rfl ?_
       refine wl_on rfl rfl ?_
       refine wl_val (v_fa TF.f57_0 rfl) rfl ?_
       refine wl_on rfl rfl ?_
       refine wl_val (v_load rfl (by first | exact st.rdp 0 rfl (by exact rfl) TF.t9 (by exact (Ac.g0_1 (by assumption))) | exact st.rdp 1 rfl (by exact rfl) TF.t9 (by exact (Ac.g0_1 (by assumption))) | exact st.rdp 2 rfl (by exact rfl) TF.t9 (by exact (Ac.g0_1 (by assumption))) | exact st.rdp 3 rfl (by exact rfl) TF.t9 (by exact (Ac.g0_1 (by assumption))) | exact st.rdp 4 rfl (by exact rfl) TF.t9 (by exact (Ac.g0_1 (by assumption))) | exact st.rdp 5 rfl (by exact rfl) TF.t9 (by exact (Ac.g0_1 (by assumption))) | exact st.rdp 6 rfl (by exact rfl) TF.t9 (by exact (Ac.g0_1 (by assumption))) | exact st.rdp 7 rfl (by exact rfl) TF.t9 (by exact (Ac.g0_1 (by assumption))))) rfl ?_
       refine wl_on rfl rfl ?_
       refine wl_val (v_to (v' := .int .i64 x.key.length) (v_len_str Tryz.underlying9 rfl) (by rw [size_strB])) rfl ?_
       refine wl_on rfl rfl ?_
       refine wl_val (wl_valD (v_gtr rfl rfl) (q := false) (decide_eq_false (by omega))) rfl ?_
       refine wl_val (v_pick rfl) rfl ?_
       refine wl_val (v_move' (by conv => (lhs; whnf))) rfl ?_
       refine wl_on rfl rfl ?_
       refine wl_val (v_fa TF.f57_1 rfl) rfl ?_
       refine wl_on rfl rfl ?_
       refine wl_val (v_load rfl (by first | exact st.rdp 0 rfl (by exact rfl) TF.t4 (by exact (Ac.g1_1 (by assumption))) | exact st.rdp 1 rfl (by exact rfl) TF.t4 (by exact (Ac.g1_1 (by assumption))) | exact st.rdp 2 rfl (by exact rfl) TF.t4 (by exact (Ac.g1_1 (by assumption))) | exact st.rdp 3 rfl (by exact rfl) TF.t4 (by exact (Ac.g1_1 (by assumption))) | exact st.rdp 4 rfl (by exact rfl) TF.t4 (by exact (Ac.g1_1 (by assumption))) | exact st.rdp 5 rfl (by exact rfl) TF.t4 (by exact (Ac.g1_1 (by assumption))) | exact st.rdp 6 rfl (by exact rfl) TF.t4 (by exact (Ac.g1_1 (by assumption))) | exact st.rdp 7 rfl (by exact rfl) TF.t4 (by exact (Ac.g1_1 (by assumption))))) rfl ?_
       refine wl_on rfl rfl ?_
       refine wl_val (wl_valD (v_not rfl) (q := true) (by rw [h3]; rfl)) rfl ?_
       refine wl_on rfl rfl ?_
       refine wl_val (v_move' (by conv => (lhs; whnf))) rfl ?_
       refine wl_on rfl rfl ?_
       refine wl_val (v_fa TF.f57_2 rfl) rfl ?_
       refine wl_on rfl rfl ?_
       refine wl_val (v_load rfl (st.reads (v := .slice da x.data.length dc) 0 rfl TF.t23 rfl)) rfl ?_
       refine wl_on rfl rfl ?_
       refine wl_val (v_len_s Tryz.underlying23 rfl) rfl ?_
       refine wl_on rfl rfl ?_
       refine wl_val (wl_valD (v_gtr rfl rfl) (q := false) (decide_eq_false (by omega))) rfl ?_
       refine wl_on rfl rfl ?_
       refine wl_val (v_pick rfl) rfl ?_
       refine wl_val (v_pick rfl) rfl ?_
       refine wl_val (v_move' (by conv => (lhs; whnf))) rfl ?_
       refine wl_on rfl rfl ?_
       refine wl_val (v_fa TF.f57_2 rfl) rfl ?_
       refine wl_on rfl rfl ?_
       refine wl_val (v_load rfl (st.reads (v := .slice da x.data.length dc) 0 rfl TF.t23 rfl)) rfl ?_
       refine wl_on rfl rfl ?_
       refine wl_val (v_len_s Tryz.underlying23 rfl) rfl ?_
       refine wl_on rfl rfl ?_
       refine wl_val (v_gtr rfl rfl) rfl ?_
       refine wl_val (v_pick rfl) rfl ?_
       refine wl_nil ?_
       refine then_go ?_
       refine wc_cond rfl (fun h44 => ?_) (fun h44 => ?_)
       ·refine wc_seq ?_
        refine wc_region ?_
        refine wl_val (v_assign' (by conv => (lhs; whnf))) rfl ?_
        refine wl_nil ?_
        refine then_go ?_
        refine wc_ret (then_ret (block_ret (then_ret (then_ret (block_ret (then_ret ?_))))))
        exact ret1 rfl ⟨(st.keepOnly (l := []) (List.nil_sublist _)).touch, by have := of_decide_eq_true h44; unfold chkL; rw [if_neg (fun h => by have := ok_at h hiM; rw [hMi] at this; unfold actOk at this; omega)]; rfl⟩
       ·refine wc_skip ?_
        refine then_go ?_
        refine wc_seq ?_
        by_cases hi0 : 0 < i
        ·have hip : i - 1 < L.length := by omega
         obtain ⟨lb', lo', da', dc', hla', hd', _, hrK, _⟩ := hL.at hip
         cases hla'
         have hMp : M[i - 1] = L[i - 1].1 := by simp [hM]
         refine wc_draw TF.mixed ?_
         have st := st.pure (touch_drew _)
         refine fl_val 0 rfl (fun _ => (v_move' (by conv => (lhs; whnf)))) rfl (by kernel_rfl) ?_
         refine fl_val 1 rfl (fun _ => (wl_valD (v_gtr rfl rfl) (q := true) (decide_eq_true (by omega)))) rfl (by kernel_rfl) ?_
         refine fl_val 2 rfl (fun _ => (v_move' (by conv => (lhs; whnf)))) rfl (by kernel_rfl) ?_
         refine fl_on 3 rfl rfl rfl rfl (fun _ => (v_fa TF.f57_0 rfl)) rfl (by kernel_rfl) ?_
         refine fl_ond 4 rfl rfl rfl rfl (v_load rfl (by first | exact st.rdp 0 rfl (by exact rfl) TF.t9 (by exact (Ac.g0_1 (by assumption))) | exact st.rdp 1 rfl (by exact rfl) TF.t9 (by exact (Ac.g0_1 (by assumption))) | exact st.rdp 2 rfl (by exact rfl) TF.t9 (by exact (Ac.g0_1 (by assumption))) | exact st.rdp 3 rfl (by exact rfl) TF.t9 (by exact (Ac.g0_1 (by assumption))) | exact st.rdp 4 rfl (by exact rfl) TF.t9 (by exact (Ac.g0_1 (by assumption))) | exact st.rdp 5 rfl (by exact rfl) TF.t9 (by exact (Ac.g0_1 (by assumption))) | exact st.rdp 6 rfl (by exact rfl) TF.t9 (by exact (Ac.g0_1 (by assumption))) | exact st.rdp 7 rfl (by exact rfl) TF.t9 (by exact (Ac.g0_1 (by assumption))))) rfl (by kernel_rfl) ?_
         refine fl_on 5 rfl rfl rfl rfl (fun _ => (v_move' (by conv => (lhs; whnf)))) rfl (by kernel_rfl) ?_
         refine fl_on 6 rfl rfl rfl rfl (fun _ => (v_move' (by conv => (lhs; whnf)))) rfl (by kernel_rfl) ?_
         refine fl_on 7 rfl rfl rfl rfl (fun _ => (v_sub' (c := ((i - 1 : Nat) : Int)) rfl rfl (by omega) (by omega) (by omega))) rfl (by kernel_rfl) ?_
         refine fl_on 8 rfl rfl rfl rfl (fun _ => (v_ias ((i - 1)) Tryz.underlying22 TF.t57 rfl rfl (by first | rfl | omega) (by first | omega | (dsimp only at *; omega)))) rfl (by kernel_rfl) ?_
         refine fl_on 9 rfl rfl rfl rfl (fun _ => (v_fa TF.f57_0 rfl)) rfl (by kernel_rfl) ?_
         refine fl_ond 10 rfl rfl rfl rfl (v_load rfl (hrK st.im)) rfl (by kernel_rfl) ?_
         refine fl_on 11 rfl rfl rfl rfl (fun _ => (v_leStr rfl rfl)) rfl (by kernel_rfl) ?_
         refine fl_val 12 rfl (fun _ => (v_pick rfl)) rfl (by kernel_rfl) ?_
         refine fl_nil (by kernel_rfl) ⟨obl_on rfl rfl rfl rfl rfl (v_load rfl (hrK st.im)), obl_on rfl rfl rfl rfl rfl (v_load rfl (by first | exact st.rdp 0 rfl (by exact rfl) TF.t9 (by exact (Ac.g0_1 (by assumption))) | exact st.rdp 1 rfl (by exact rfl) TF.t9 (by exact (Ac.g0_1 (by assumption))) | exact st.rdp 2 rfl (by exact rfl) TF.t9 (by exact (Ac.g0_1 (by assumption))) | exact st.rdp 3 rfl (by exact rfl) TF.t9 (by exact (Ac.g0_1 (by assumption))) | exact st.rdp 4 rfl (by exact rfl) TF.t9 (by exact (Ac.g0_1 (by assumption))) | exact st.rdp 5 rfl (by exact rfl) TF.t9 (by exact (Ac.g0_1 (by assumption))) | exact st.rdp 6 rfl (by exact rfl) TF.t9 (by exact (Ac.g0_1 (by assumption))) | exact st.rdp 7 rfl (by exact rfl) TF.t9 (by exact (Ac.g0_1 (by assumption))))), trivial⟩ ?_
         refine then_go ?_
         refine wc_cond rfl (fun h57 => ?_) (fun h57 => ?_)
         ·refine wc_seq ?_
          refine wc_region ?_
          refine wl_val (v_assign' (by conv => (lhs; whnf))) rfl ?_
          refine wl_nil ?_
          refine then_go ?_
          refine wc_ret (block_ret (then_ret (then_ret (block_ret (then_ret ?_)))))
          exact ret1 rfl ⟨(st.keepOnly (l := []) (List.nil_sublist _)).touch, by unfold chkL; rw [if_neg (fun h => of_decide_eq_true h57 (by have := ok_lt h hiM hi0; rw [hMi, hMp] at this; exact this))]; rfl⟩
         ·refine wc_skip ?_
          refine block_go (then_go ?_)
          refine wc_region ?_
          refine wl_val (v_move' (by conv => (lhs; whnf))) rfl ?_
          refine wl_val (v_add' (c := ((i + 1 : Nat) : Int)) rfl rfl (by omega) (by omega) (by omega)) rfl ?_
          refine wl_val (v_assign' (by conv => (lhs; whnf))) rfl ?_
          refine wl_nil ?_
          refine then_go ?_
          exact ⟨q - 1, by simp; omega, i + 1, by omega, rfl, rfl, good_succ hg hiM (by rw [hMi]; have := of_decide_eq_false h44; unfold actOk; refine ⟨by omega, by omega, .inr (by omega), by omega⟩) (fun _ => by have := of_decide_eq_false h57; rw [hMi, hMp]; exact Decidable.not_not.1 this), st.drop 0⟩
        ·refine wc_draw TF.mixed ?_
         have st := st.pure (touch_drew _)
         refine fl_val 0 rfl (fun _ => (v_move' (by conv => (lhs; whnf)))) rfl (by kernel_rfl) ?_
         refine fl_val 1 rfl (fun _ => (wl_valD (v_gtr rfl rfl) (q := false) (decide_eq_false (by omega)))) rfl (by kernel_rfl) ?_
         refine fl_val 2 rfl (fun _ => (v_move' (by conv => (lhs; whnf)))) rfl (by kernel_rfl) ?_
         refine fl_off 3 rfl rfl rfl rfl rfl rfl (by kernel_rfl) ?_
         refine fl_offd 4 rfl rfl rfl rfl rfl rfl (by kernel_rfl) ?_
         refine fl_off 5 rfl rfl rfl rfl rfl rfl (by kernel_rfl) ?_
         refine fl_off 6 rfl rfl rfl rfl rfl rfl (by kernel_rfl) ?_
         refine fl_off 7 rfl rfl rfl rfl rfl rfl (by kernel_rfl) ?_
         refine fl_off 8 rfl rfl rfl rfl rfl rfl (by kernel_rfl) ?_
         refine fl_off 9 rfl rfl rfl rfl rfl rfl (by kernel_rfl) ?_
         refine fl_offd 10 rfl rfl rfl rfl rfl rfl (by kernel_rfl) ?_
         refine fl_off 11 rfl rfl rfl rfl rfl rfl (by kernel_rfl) ?_
         refine fl_val 12 rfl (fun _ => (v_pick rfl)) rfl (by kernel_rfl) ?_
         refine fl_nil (by kernel_rfl) ⟨obl_off rfl rfl rfl rfl rfl rfl, obl_off rfl rfl rfl rfl rfl rfl, trivial⟩ ?_
         refine then_go ?_
         refine wc_false rfl ?_
         refine wc_skip ?_
         refine block_go (then_go ?_)
         refine wc_region ?_
         refine wl_val (v_move' (by conv => (lhs; whnf))) rfl ?_
         refine wl_val (v_add' (c := ((i + 1 : Nat) : Int)) rfl rfl (by omega) (by omega) (by omega)) rfl ?_
         refine wl_val (v_assign' (by conv => (lhs; whnf))) rfl ?_
         refine wl_nil ?_
         refine then_go ?_
         exact ⟨q - 1, by simp; omega, i + 1, by omega, rfl, rfl, good_succ hg hiM (by rw [hMi]; have := of_decide_eq_false h44; unfold actOk; refine ⟨by omega, by omega, .inr (by omega), by omega⟩) (fun h => (hi0 h).elim), st.drop 0⟩
  ·refine wc_exit (then_exit (then_exit (block_hit ?_)))
   refine then_go ?_
   refine wc_seq ?_
   refine wc_region ?_
   refine wl_val (v_assign' (by conv => (lhs; whnf))) rfl ?_
   refine wl_nil ?_
   refine then_go ?_
   refine wc_ret ?_
   have hi : i = M.length := by omega
   subst hi
   have hall := good_all hg
   exact ret1 rfl ⟨st.touch, by have := of_decide_eq_false h7; unfold chkL; rw [if_pos (hall.2 (by omega))]; rfl⟩
end
end Go.Proofs.YtladpaehbolghaaGreat

namespace Go.Proofs.YtladpaehbolghaaGreat
open Go Go.RowKit K SH DK JR
theorem halfB0 {b : By} {n : Nat} : halfB b n 0 = (b.drop 0).take (n - 0) := by simp [halfB]
theorem halfB1 {b : By} {n : Nat} : halfB b n 1 = (b.drop n).take (2 * n - n) := by unfold halfB; rw [Nat.one_mul]; congr 1; omega
section
variable {m : Mem} {w : World}
theorem c_pick {v : Value} {b : By} {n : Nat} (him : Im m w) (hb : SlM m v 1 b.length (bs b)) (hl : b.length ≤ 500000000) (hn : 64 ≤ n) (hn2 : 2 * n ≤ b.length) : Ret Tryz.prog 83 #[v, .int .i64 n] w fun v' w' => Tch w w' [] [] ∧ v' = .tuple #[.int .i64 ((pickF b n).1 : Nat), u64 (pickF b n).2] := by
 have st := St.start him
 obtain ⟨ba, bc, rfl, hbc⟩ := hb.opn
 have h0 := hb.partB 0 n (by omega) (by omega)
 have h1 := hb.partB n (2 * n) (by omega) (by omega)
 have hl0 : ((b.drop 0).take (n - 0)).length = n := by rw [List.length_take, List.length_drop]; omega
 have hl1 : ((b.drop n).take (2 * n - n)).length = n := by rw [List.length_take, List.length_drop]; omega
 refine ret_of Tryz.call83 Tryz.func83 rfl Tryz.ntmps83 Tryz.results83 rfl ?_
 refine wc_seq ?_
 refine wc_region ?_
 refine wl_val (v_assign' (by conv => (lhs; whnf))) rfl ?_
 refine wl_val (v_assign' (by conv => (lhs; whnf))) rfl ?_
 refine wl_nil ?_
 refine then_go ?_
 refine wc_seq ?_
 refine wc_draw TF.mixed ?_
 have st := st.pure (touch_drew _)
 refine fl_val 0 rfl (fun _ => (v_move' (by conv => (lhs; whnf)))) rfl (by kernel_rfl) ?_
 refine fl_val 1 rfl (fun _ => (v_move' (by conv => (lhs; whnf)))) rfl (by kernel_rfl) ?_
 refine fl_val 2 rfl (fun _ => (v_sls 0 n Tryz.underlying23 TF.t5 rfl rfl ⟨_, _, rfl, rfl⟩ (by omega) (by omega))) rfl (by kernel_rfl) ?_
 refine fl_val 4 rfl (fun _ => (v_move' (by conv => (lhs; whnf)))) rfl (by kernel_rfl) ?_
 refine fl_val 5 rfl (fun _ => (v_move' (by conv => (lhs; whnf)))) rfl (by kernel_rfl) ?_
 refine fl_val 6 rfl (fun _ => (v_move' (by conv => (lhs; whnf)))) rfl (by kernel_rfl) ?_
 refine fl_val 7 rfl (fun _ => (v_mul' (c := ((2 * n : Nat) : Int)) rfl rfl (by omega) (by omega) (by omega))) rfl (by kernel_rfl) ?_
 refine fl_val 8 rfl (fun _ => (v_sls n (2 * n) Tryz.underlying23 TF.t5 rfl ⟨_, _, rfl, rfl⟩ ⟨_, _, rfl, rfl⟩ (by omega) (by omega))) rfl (by kernel_rfl) ?_
 refine fl_eff1 3 [8, 7, 6, 5, 4, 1, 0] [] (by kernel_rfl) trivial rfl ?_
 refine wl_call rfl (c_begun st.im h0 (by omega) (by omega)) rfl ?_
 rintro v11 w ⟨t11, rfl⟩
 have st := st.pure t11
 refine wl_nil ⟨rfl, ?_⟩
 refine fl_eff1 9 [7, 6, 5, 4, 1, 0] [] (by kernel_rfl) trivial rfl ?_
 refine wl_call rfl (c_begun st.im h1 (by omega) (by omega)) rfl ?_
 rintro v17 w ⟨t17, rfl⟩
 have st := st.pure t17
 refine wl_nil ⟨rfl, ?_⟩
 refine fl_eff1 10 [7, 6, 5, 4] [] (by kernel_rfl) trivial rfl ?_
 refine wl_val (v_assign' (by conv => (lhs; whnf))) rfl ?_
 refine wl_nil ⟨rfl, ?_⟩
 refine fl_eff1 11 [] [] (by kernel_rfl) trivial rfl ?_
 refine wl_val (v_assign' (by conv => (lhs; whnf))) rfl ?_
 refine wl_nil ⟨rfl, ?_⟩
 refine fl_nil (by kernel_rfl) trivial ?_
 refine then_go ?_
 refine wc_seq ?_
 refine wc_seq ?_
 refine wc_region ?_
 refine wl_val (v_move' (by conv => (lhs; whnf))) rfl ?_
 refine wl_val (v_move' (by conv => (lhs; whnf))) rfl ?_
 refine wl_val (v_gtr64 rfl rfl) rfl ?_
 refine wl_nil ?_
 refine then_go ?_
 refine wc_if rfl (fun h20 => ?_) (fun h20 => ?_)
 ·refine wc_seq ?_
  refine wc_region ?_
  refine wl_val (v_move' (by conv => (lhs; whnf))) rfl ?_
  refine wl_val (v_assign' (by conv => (lhs; whnf))) rfl ?_
  refine wl_val (v_assign' (by conv => (lhs; whnf))) rfl ?_
  refine wl_nil ?_
  refine then_go ?_
  refine wc_ret (then_ret ?_)
  refine ret2 rfl rfl ⟨st.touch, ?_⟩
  unfold pickF
  rw [halfB0, halfB1, if_pos (UInt64.lt_iff_toNat_lt.2 h20)]
  rfl
 ·refine wc_skip ?_
  refine then_go ?_
  refine wc_seq ?_
  refine wc_region ?_
  refine wl_val (v_move' (by conv => (lhs; whnf))) rfl ?_
  refine wl_val (v_assign' (by conv => (lhs; whnf))) rfl ?_
  refine wl_val (v_assign' (by conv => (lhs; whnf))) rfl ?_
  refine wl_nil ?_
  refine then_go ?_
  refine wc_ret ?_
  refine ret2 rfl rfl ⟨st.touch, ?_⟩
  unfold pickF
  rw [halfB0, halfB1, if_neg (fun h => h20 (UInt64.lt_iff_toNat_lt.1 h))]
  rfl
theorem c_jcheck {v : Value} {b : By} (him : Im m w) (hb : SlM m v 1 b.length (bs b)) : Ret Tryz.prog 73 #[v] w fun v' w' => Tch w w' [] [] ∧ v' = .int .i64 (if 1 ≤ b.length ∧ b.length ≤ 1048576 then 0 else 1) := by
 have st := St.start him
 obtain ⟨ba, bc, rfl, hbc⟩ := hb.opn
 refine ret_of Tryz.call73 Tryz.func73 rfl Tryz.ntmps73 Tryz.results73 rfl ?_
 refine wc_seq ?_
 refine wc_region ?_
 refine wl_val (v_assign' (by conv => (lhs; whnf))) rfl ?_
 refine wl_nil ?_
 refine then_go ?_
 refine wc_seq ?_
 refine wc_seq ?_
 refine wc_region ?_
 refine wl_val (v_move' (by conv => (lhs; whnf))) rfl ?_
 refine wl_val (v_len_s Tryz.underlying23 rfl) rfl ?_
 refine wl_val (v_eql rfl rfl) rfl ?_
 refine wl_val (v_move' (by conv => (lhs; whnf))) rfl ?_
 refine wl_valg rfl rfl (fun e => (v_move' (by conv => (lhs; whnf)))) rfl ?_
 refine wl_valg rfl rfl (fun e => (v_len_s Tryz.underlying23 (by first | rfl | exact gx e rfl))) rfl ?_
 refine wl_valg rfl rfl (fun e => (v_gtr (by first | rfl | exact gx e rfl) (by first | rfl | exact gx e rfl))) rfl ?_
 refine wl_val (v_pickO rfl rfl rfl) rfl ?_
 refine wl_nil ?_
 refine then_go ?_
 refine wc_cond rfl (fun h10 => ?_) (fun h10 => ?_)
 ·refine wc_seq ?_
  refine wc_region ?_
  refine wl_val (v_assign' (by conv => (lhs; whnf))) rfl ?_
  refine wl_nil ?_
  refine then_go ?_
  refine wc_ret (then_ret ?_)
  exact ret1 rfl ⟨st.touch, by rw [if_neg (fun h => by rw [Bool.or_eq_true, decide_eq_true_eq, decide_eq_true_eq] at h10; omega)]; rfl⟩
 ·refine wc_skip ?_
  refine then_go ?_
  refine wc_seq ?_
  refine wc_region ?_
  refine wl_val (v_assign' (by conv => (lhs; whnf))) rfl ?_
  refine wl_nil ?_
  refine then_go ?_
  refine wc_ret ?_
  exact ret1 rfl ⟨st.touch, by rw [if_pos (by rw [Bool.or_eq_false_iff, decide_eq_false_iff_not, decide_eq_false_iff_not] at h10; omega)]; rfl⟩
end
section
variable {m0 m : Mem} {F : List Nat} {w0 w : World} {Es : List Ent}
theorem c_jread {g : UInt64} {v : Value} {half : By} (st : St m0 m F w0 w Es) (hb : SlM m v 1 half.length (bs half)) (h64 : 64 ≤ half.length) (hl : half.length ≤ 500000000) :
  Ret Tryz.prog 85 #[u64 g, v] w fun v' w' => ∃ m' lv N, St m0 m' F w0 w' (lrE lv N :: Es) ∧ (∀ k o, m k = some o → m' k = some o) ∧ Pcs m' N ∧ N.map (·.1) = recs g half ∧ v' = .tuple #[lv, .int .i64 ((64 + sizeL (recs g half) : Nat) : Int)] := by
 obtain ⟨ba, bc, rfl, hbc⟩ := hb.opn
 refine ret_of Tryz.call85 Tryz.func85 rfl Tryz.ntmps85 Tryz.results85 rfl ?_
 refine wc_seq ?_
 refine wc_region ?_
 refine wl_val (v_assign' (by conv => (lhs; whnf))) rfl ?_
 refine wl_val (v_assign' (by conv => (lhs; whnf))) rfl ?_
 refine wl_nil ?_
 refine then_go ?_
 refine wc_seq ?_
 refine wc_region ?_
 refine wl_val (v_assign' (by conv => (lhs; whnf))) rfl ?_
 refine wl_nil ?_
 refine then_go ?_
 refine wc_seq ?_
 refine wc_region ?_
 refine wl_val (v_assign' (by conv => (lhs; whnf))) rfl ?_
 refine wl_nil ?_
 refine then_go ?_
 refine wc_block ?_
 have st := nilRow st 23 1
 refine wc_loop (S := Nat) (fun q r w' => ∃ (m' : Mem) (lv : Value) (N : List (By × Value)), (half.drop (64 + sizeL (N.map (·.1)))).length ≤ q ∧ 64 + sizeL (N.map (·.1)) ≤ half.length ∧ N.length * 64 + 64 ≤ half.length ∧ recs g half = N.map (·.1) ++ recsF g q N.length (half.drop (64 + sizeL (N.map (·.1)))) ∧ r 0 = u64 g ∧ r 1 = .slice ba half.length bc ∧ r 6 = lv ∧ r 7 = .int .i64 ((64 + sizeL (N.map (·.1)) : Nat) : Int) ∧ St m0 m' F w0 w' (lrE lv N :: Es) ∧ (∀ k o, m k = some o → m' k = some o) ∧ Pcs m' N) id half.length ⟨m, _, [], by simp, by simpa [sizeL] using h64, by simpa using h64, rfl, rfl, rfl, rfl, rfl, st, fun _ _ h => h, by intro x hx; cases hx⟩ ?_
 clear st
 rintro q r w2 ⟨m', lv, N, hq, hat, hN64, hrec, g0, g1, g6, g7, st, hmm, hN⟩
 refine wc_o 0 g0 (wc_o 1 g1 (wc_o 6 g6 (wc_o 7 g7 ?_)))
 obtain ⟨la, lc, hlv⟩ := row_sl (st.at (i := 0) rfl)
 subst hlv
 obtain ⟨at', hate⟩ : ∃ a, a = 64 + sizeL (N.map (·.1)) := ⟨_, rfl⟩
 rw [← hate] at hq hat hrec ⊢
 have htl := (hb.mono hmm).tailB at' hat
 refine wc_block ?_
 refine wc_seq ?_
 rcases hnx : nextF g (UInt64.ofNat N.length) (half.drop at') with _ | x
 ·refine wc_region ?_
  refine wl_val (v_move' (by conv => (lhs; whnf))) rfl ?_
  refine wl_val (v_move' (by conv => (lhs; whnf))) rfl ?_
  refine wl_val (v_len_s Tryz.underlying41 rfl) rfl ?_
  refine wl_val (v_convi_64 Tryz.underlying3 Tryz.underlying47 rfl) rfl ?_
  refine wl_val (v_move' (by conv => (lhs; whnf))) rfl ?_
  refine wl_val (v_move' (by conv => (lhs; whnf))) rfl ?_
  refine wl_val (v_sls at' half.length Tryz.underlying23 TF.t5 rfl ⟨_, _, rfl, rfl⟩ rfl hat hbc) rfl ?_
  refine wl_call rfl (c_next st.im htl (by rw [List.length_drop]; omega)) rfl ?_
  rintro v18 w ⟨t18, m2, hg2, hi2, hno⟩
  have st := st.grown hg2 t18 hi2
  have hN := hN.mono hg2.le
  rw [hnx] at hno
  have hmm : ∀ k o, m k = some o → m2 k = some o := fun k o h => hg2.le k o (hmm k o h)
  have hno : v18 = .tuple #[.slice none 0 0, .int .i64 0] := hno
  subst hno
  refine wl_val (v_move' (by conv => (lhs; whnf))) rfl ?_
  refine wl_val (v_extract rfl rfl) rfl ?_
  refine wl_val (v_extract rfl rfl) rfl ?_
  refine wl_val (v_assign' (by conv => (lhs; whnf))) rfl ?_
  refine wl_val (v_assign' (by conv => (lhs; whnf))) rfl ?_
  refine wl_nil ?_
  refine then_go ?_
  refine wc_seq ?_
  refine wc_seq ?_
  refine wc_region ?_
  refine wl_val (v_move' (by conv => (lhs; whnf))) rfl ?_
  refine wl_val (v_eql rfl rfl) rfl ?_
  refine wl_nil ?_
  refine then_go ?_
  refine wc_true rfl ?_
  refine wc_seq ?_
  refine wc_region ?_
  refine wl_val (v_move' (by conv => (lhs; whnf))) rfl ?_
  refine wl_val (v_move' (by conv => (lhs; whnf))) rfl ?_
  refine wl_val (v_assign' (by conv => (lhs; whnf))) rfl ?_
  refine wl_val (v_assign' (by conv => (lhs; whnf))) rfl ?_
  refine wl_nil ?_
  refine then_go ?_
  refine wc_ret (then_ret (block_ret (then_ret (block_ret ?_))))
  rw [recsF_none hnx, List.append_nil] at hrec
  exact ret2 rfl rfl ⟨m2, _, N, st, hmm, hN, hrec.symm, by rw [hrec, ← hate]; rfl⟩
 ·refine wc_region ?_
  refine wl_val (v_move' (by conv => (lhs; whnf))) rfl ?_
  refine wl_val (v_move' (by conv => (lhs; whnf))) rfl ?_
  refine wl_val (v_len_s Tryz.underlying41 rfl) rfl ?_
  refine wl_val (v_convi_64 Tryz.underlying3 Tryz.underlying47 rfl) rfl ?_
  refine wl_val (v_move' (by conv => (lhs; whnf))) rfl ?_
  refine wl_val (v_move' (by conv => (lhs; whnf))) rfl ?_
  refine wl_val (v_sls at' half.length Tryz.underlying23 TF.t5 rfl ⟨_, _, rfl, rfl⟩ rfl hat hbc) rfl ?_
  refine wl_call rfl (c_next st.im htl (by rw [List.length_drop]; omega)) rfl ?_
  rintro v18 w ⟨t18, m2, hg2, hi2, hno⟩
  have st := st.grown hg2 t18 hi2
  have hN := hN.mono hg2.le
  rw [hnx] at hno
  have hmm : ∀ k o, m k = some o → m2 k = some o := fun k o h => hg2.le k o (hmm k o h)
  obtain ⟨xv, rfl, hxv⟩ := hno
  obtain ⟨k1, k2, k3, k4, k5⟩ := nextF_len hnx
  rw [List.length_drop] at k2 k5
  refine wl_val (v_move' (by conv => (lhs; whnf))) rfl ?_
  refine wl_val (v_extract rfl rfl) rfl ?_
  refine wl_val (v_extract rfl rfl) rfl ?_
  refine wl_val (v_assign' (by conv => (lhs; whnf))) rfl ?_
  refine wl_val (v_assign' (by conv => (lhs; whnf))) rfl ?_
  refine wl_nil ?_
  refine then_go ?_
  refine wc_seq ?_
  refine wc_seq ?_
  refine wc_region ?_
  refine wl_val (v_move' (by conv => (lhs; whnf))) rfl ?_
  refine wl_val (v_eql rfl rfl) rfl ?_
  refine wl_nil ?_
  refine then_go ?_
  refine wc_false (congrArg Value.bool (decide_eq_false (by omega))) ?_
  refine wc_skip ?_
  refine then_go ?_
  refine wc_region ?_
  refine wl_val (v_move' (by conv => (lhs; whnf))) rfl ?_
  refine wl_val (v_move' (by conv => (lhs; whnf))) rfl ?_
  refine wl_svOne (v := xv) Tryz.underlying41 TF.t23 TF.z23 (SlM.one1 hxv) rfl st rfl ?_
  intro b27 w st
  refine wl_lrApp (x := x) 0 st rfl (SlM.one1 hxv) rfl rfl (by omega) rfl ?_
  intro v28 w st
  refine wl_val (v_move' (by conv => (lhs; whnf))) rfl ?_
  refine wl_val (v_move' (by conv => (lhs; whnf))) rfl ?_
  refine wl_val (v_add' (c := ((at' + recL x.length : Nat) : Int)) rfl rfl (by omega) (by omega) (by omega)) rfl ?_
  refine wl_val (v_assign' (by conv => (lhs; whnf))) rfl ?_
  refine wl_val (v_assign' (by conv => (lhs; whnf))) rfl ?_
  refine wl_nil ?_
  refine block_go (then_go ?_)
  obtain ⟨q, rfl⟩ : ∃ q', q = q' + 1 := ⟨q - 1, by rw [List.length_drop] at hq; omega⟩
  rw [recsF_some hnx, List.drop_drop] at hrec
  have e2 : 64 + sizeL ((N ++ [(x, xv)]).map (·.1)) = at' + recL x.length := by rw [List.map_append, List.map_singleton, sizeL_snoc]; show 64 + (sizeL (N.map (·.1)) + recL x.length) = _; omega
  refine ⟨q, by simp, m2, v28, N ++ [(x, xv)], by rw [e2, List.length_drop]; rw [List.length_drop] at hq; omega, by rw [e2]; omega, ?_, ?_, rfl, rfl, rfl, by rw [e2]; rfl, st, hmm, hN.snoc hxv⟩
  ·rw [List.length_append]
   have := sizeL_ge (l := N.map (·.1))
   rw [List.length_map] at this
   show (N.length + 1) * 64 + 64 ≤ _
   omega
  ·rw [e2, hrec, List.map_append, List.length_append, List.append_assoc]
   rfl
end
end Go.Proofs.YtladpaehbolghaaGreat

namespace Go.Proofs.YtladpaehbolghaaGreat
open Go Go.RowKit K SH DK JR
section
variable {P : Program} {n : Nat} {ops : Array Oper} {Q : Po} {rest : List Oper} {r : Fr} {w : World} {d : Nat} {ty : TypeId} {pos : String} {after : Array Edge} {m0 m : Mem} {w0 : World} {Es : List Ent}
theorem wl_byteF {x : Operand} (c : UInt8) (hx : ev r x = u8 c) (st : St m0 m [] w0 w Es) (hd : Nat.blt d n = true)
  (k : ∀ m' v' w', (∀ k o, m k = some o → m' k = some o) → St m0 m' [] w0 w' Es → SlM m' v' 1 [c].length (bs [c]) → WL Tryz.prog n ops Q rest (upd d v' r) w') :
  WL Tryz.prog n ops Q (⟨some d, .buildSlice 23 1 #[(0, x)], ty, pos, after, none⟩ :: rest) r w := by
 refine wl_byteR c Tryz.underlying23 TF.t5 TF.z5 hx st hd fun b w' st' => ?_
 obtain ⟨m1, hg1, hm1, st1⟩ := st'.freezeR (i := 0) rfl (by simp)
 exact k m1 _ w' hg1.le st1 (row_SlM (m := m1) (st'.at (i := 0) rfl) hm1)
end
section
variable {m : Mem} {wI : World}
theorem c_padded {v : Value} {l : By} (him : Im m wI) (hb : SlM m v 1 l.length (bs l)) (hl : l.length ≤ 1099511627776) : Ret Tryz.prog 102 #[v] wI fun v' w' => Out m wI w' fun m' => SlM m' v' 1 (pad64 l).length (bs (pad64 l)) := by
 have st := St.start him
 obtain ⟨ba, bc, rfl, hbc⟩ := hb.opn
 have hpl := length_pad64 l
 refine ret_of Tryz.call102 Tryz.func102 rfl Tryz.ntmps102 Tryz.results102 rfl ?_
 refine wc_seq ?_
 refine wc_region ?_
 refine wl_val (v_assign' (by conv => (lhs; whnf))) rfl ?_
 refine wl_nil ?_
 refine then_go ?_
 refine wc_seq ?_
 refine wc_region ?_
 refine wl_val (v_move' (by conv => (lhs; whnf))) rfl ?_
 refine wl_val (v_len_s Tryz.underlying23 rfl) rfl ?_
 refine wl_val (v_add' (c := ((l.length + 63 : Nat) : Int)) rfl rfl (by omega) (by omega) (by omega)) rfl ?_
 refine wl_val (v_to (v' := .int .i64 (((l.length + 63) / 64 : Nat) : Int)) (v_quo' rfl rfl (by omega) (by omega) rfl (by omega)) (by rw [Int.natCast_ediv]; rfl)) rfl ?_
 refine wl_val (v_mul' (c := (((l.length + 63) / 64 * 64 : Nat) : Int)) rfl rfl (by omega) (by omega) (by omega)) rfl ?_
 refine wl_val (v_assign' (by conv => (lhs; whnf))) rfl ?_
 refine wl_nil ?_
 refine then_go ?_
 refine wc_seq ?_
 refine wc_region ?_
 refine wl_val (v_move' (by conv => (lhs; whnf))) rfl ?_
 refine wl_make (l := (l.length + 63) / 64 * 64) (c := (l.length + 63) / 64 * 64) Tryz.underlying23 TF.t5 TF.z5 rfl rfl rfl rfl (by omega) (by omega) (by omega) (by omega) st rfl ?_
 intro b11 w st
 have st : St m m [] wI w [K.blk b11 (bs (List.replicate ((l.length + 63) / 64 * 64) 0)).toArray 5] := by
  have e : madeCells (Value.int .u8 0).cells ((l.length + 63) / 64 * 64 * 1) = (bs (List.replicate ((l.length + 63) / 64 * 64) 0)).toArray := by
   rw [show (Value.int .u8 0).cells = Array.replicate (0 + 1) (Value.int .u8 0) from rfl, madeCells_rep, Nat.mul_one]
   simp [bs, u8]
  rw [e] at st
  exact st
 refine wl_val (v_assign' (by conv => (lhs; whnf))) rfl ?_
 refine wl_nil ?_
 refine then_go ?_
 refine wc_seq ?_
 refine wc_region ?_
 refine wl_val (v_move' (by conv => (lhs; whnf))) rfl ?_
 refine wl_val (v_move' (by conv => (lhs; whnf))) rfl ?_
 refine wl_copy (news := bs l) (j := l.length) 0 st rfl Tryz.underlying23 TF.t5 rfl rfl (hb.src st.im (one_bs _)) (by simp [length_bs]; omega) rfl ?_
 intro w st
 have e : setSeg (bs (List.replicate ((l.length + 63) / 64 * 64) 0)).toArray 0 ((bs l).take (min l.length ((l.length + 63) / 64 * 64) * 1)) = (bs (pad64 l)).toArray := by
  rw [List.take_of_length_le (by rw [length_bs]; omega)]
  unfold setSeg
  apply congrArg List.toArray
  simp only [List.take_zero, List.nil_append, Nat.zero_add, length_bs, pad64]
  rw [bs, bs, bs, List.map_append, ← List.map_drop, List.drop_replicate]
  congr 3
  omega
 have st : St m m [] wI w [K.blk b11 (bs (pad64 l)).toArray 5] := by rw [← e]; exact st
 obtain ⟨m1, hg1, hm1, st⟩ := st.freeze (i := 0) rfl (by simp)
 have hs : SlM m1 (.slice (some ⟨b11, 0, none⟩) ((l.length + 63) / 64 * 64) ((l.length + 63) / 64 * 64)) 1 (pad64 l).length (bs (pad64 l)) := by
  have := SlM.ofBlock (o := 0) (cap := (pad64 l).length) (l := pad64 l) (pre := []) (post := []) hm1 (by simp) rfl (Nat.le_refl _)
  rw [hpl] at this ⊢
  exact this
 refine wl_nil ?_
 refine then_go ?_
 refine wc_seq ?_
 refine wc_region ?_
 refine wl_val (v_move' (by conv => (lhs; whnf))) rfl ?_
 refine wl_val (v_assign' (by conv => (lhs; whnf))) rfl ?_
 refine wl_nil ?_
 refine then_go ?_
 refine wc_ret ?_
 exact ret1 rfl (st.out hs)
theorem dig_slM {m1 : Mem} {b : Nat} {t : TypeId} {fr : Nat × Nat} {l : By} (h : m1 b = some (.cells (bs l).toArray t fr)) (hl : l.length = 32) : SlM m1 (.slice (some ⟨b, 0 + 0 * 1, none⟩) (32 - 0) (32 - 0)) 1 l.length (bs l) := by
 have := SlM.ofBlock (o := 0) (cap := 32) (l := l) (pre := []) (post := []) h (by simp) rfl (by omega)
 rw [hl] at this ⊢
 exact this
theorem c_rtext {g s : UInt64} {v : Value} {b : By} (him : Im m wI) (hb : SlM m v 1 b.length (bs b)) (hl : b.length ≤ 1000000000) : Ret Tryz.prog 101 #[u64 g, u64 s, v] wI fun v' w' => Out m wI w' fun m' => SlM m' v' 1 (textB g s b).length (bs (textB g s b)) := by
 have st := St.start him
 have h8 := length_num8 g
 have h9 := length_num8 s
 refine ret_of Tryz.call101 Tryz.func101 rfl Tryz.ntmps101 Tryz.results101 rfl ?_
 refine wc_seq ?_
 refine wc_region ?_
 refine wl_val (v_assign' (by conv => (lhs; whnf))) rfl ?_
 refine wl_nil ?_
 refine then_go ?_
 refine wc_seq ?_
 refine wc_region ?_
 refine wl_byteF 74 rfl st rfl ?_
 intro m1 v7 w hg1 st hp1
 have hb := hb.mono hg1
 refine wl_val (v_move' (by conv => (lhs; whnf))) rfl ?_
 refine wl_call rfl (c_rnumber st.im) rfl ?_
 rintro v9 w ⟨t9, mm9, gr9, im9, hp2⟩
 have st := st.grown gr9 t9 im9
 have hb := hb.mono gr9.le
 have hp1 := hp1.mono gr9.le
 refine wl_val (v_move' (by conv => (lhs; whnf))) rfl ?_
 refine wl_call rfl (c_rnumber st.im) rfl ?_
 rintro v11 w ⟨t11, mm11, gr11, im11, hp3⟩
 have st := st.grown gr11 t11 im11
 have hb := hb.mono gr11.le
 have hp1 := hp1.mono gr11.le
 have hp2 := hp2.mono gr11.le
 refine wl_val (v_move' (by conv => (lhs; whnf))) rfl ?_
 refine wl_pcsN [([74], v7), (num8 g, v9), (num8 s, v11), (b, v)] st rfl (by decide) (by decide) rfl (by simp only [List.mem_cons, List.not_mem_nil, or_false]; rintro z (rfl | rfl | rfl | rfl) <;> first | exact hp1 | exact hp2 | exact hp3 | exact hb) rfl ?_
 intro m3 v13 w hle3 st hpc
 have hj : joinB [([74], v7), (num8 g, v9), (num8 s, v11), (b, v)] = textB g s b := by simp [joinB, textB]
 refine wl_call rfl (c_join st.im hpc (by rw [hj, length_textB]; omega) (by simp)) rfl ?_
 rintro v14 w ⟨t14, m4, hg4, hi4, hs4⟩
 have st := st.grown hg4 t14 hi4
 rw [hj] at hs4
 refine wl_val (v_assign' (by conv => (lhs; whnf))) rfl ?_
 refine wl_nil ?_
 refine then_go ?_
 refine wc_ret ?_
 exact ret1 rfl (st.out hs4)
theorem c_rhead {g : UInt64} (him : Im m wI) : Ret Tryz.prog 99 #[u64 g] wI fun v' w' => Out m wI w' fun m' => SlM m' v' 1 (headB g).length (bs (headB g)) := by
 have st := St.start him
 have h8 := length_num8 g
 refine ret_of Tryz.call99 Tryz.func99 rfl Tryz.ntmps99 Tryz.results99 rfl ?_
 refine wc_seq ?_
 refine wc_region ?_
 refine wl_val (v_assign' (by conv => (lhs; whnf))) rfl ?_
 refine wl_nil ?_
 refine then_go ?_
 refine wc_seq ?_
 refine wc_region ?_
 refine wl_byteF 72 rfl st rfl ?_
 intro m1 v5 w hg1 st hp1
 refine wl_val (v_move' (by conv => (lhs; whnf))) rfl ?_
 refine wl_call rfl (c_rnumber st.im) rfl ?_
 rintro v7 w ⟨t7, mm7, gr7, im7, hp2⟩
 have st := st.grown gr7 t7 im7
 have hp1 := hp1.mono gr7.le
 refine wl_pcsN [([72], v5), (num8 g, v7)] st rfl (by decide) (by decide) rfl (by simp only [List.mem_cons, List.not_mem_nil, or_false]; rintro z (rfl | rfl) <;> first | exact hp1 | exact hp2) rfl ?_
 intro m3 v8 w hle3 st hpc
 have hj : joinB [([72], v5), (num8 g, v7)] = 72 :: num8 g := by simp [joinB]
 refine wl_call rfl (c_join st.im hpc (by rw [hj]; simp; omega) (by simp)) rfl ?_
 rintro v9 w ⟨t9, m4, hg4, hi4, hs4⟩
 have st := st.grown hg4 t9 hi4
 rw [hj] at hs4
 refine wl_val (v_assign' (by conv => (lhs; whnf))) rfl ?_
 refine wl_nil ?_
 refine then_go ?_
 refine wc_seq ?_
 refine wc_region ?_
 refine wl_val (v_move' (by conv => (lhs; whnf))) rfl ?_
 refine wl_call rfl (c_ref3of st.im hs4 (by simp; omega)) rfl ?_
 rintro v11 w ⟨t11, rfl⟩
 have st := st.pure t11
 refine wl_alloc TF.z141 st rfl ?_
 intro b4 w st
 refine wl_storeW (cs := (bs (sum (72 :: num8 g))).toArray) 0 st rfl TF.t141 rfl rfl (by rw [List.size_toArray, length_bs, length_sum]) rfl (one_bs _) ?_
 intro w st
 obtain ⟨m5, hg5, hm5, st⟩ := st.freeze (i := 0) rfl (by simp)
 have hs4 := hs4.mono hg5.le
 have hd5 := dig_slM hm5 (length_sum _)
 refine wl_nil ?_
 refine then_go ?_
 refine wc_seq ?_
 refine wc_region ?_
 refine wl_val (v_move' (by conv => (lhs; whnf))) rfl ?_
 refine wl_val (v_sla 0 32 Tryz.underlying141 TF.t5 rfl rfl rfl (by omega) (by omega) (by omega)) rfl ?_
 refine wl_pcsN [(72 :: num8 g, v9), (sum (72 :: num8 g), _)] st rfl (by decide) (by decide) rfl (by simp only [List.mem_cons, List.not_mem_nil, or_false]; rintro z (rfl | rfl) <;> first | exact hs4 | exact hd5) rfl ?_
 intro m6 v14 w hle6 st hpc2
 have hj2 : ∀ a b, joinB [(72 :: num8 g, a), (sum (72 :: num8 g), b)] = 72 :: (num8 g ++ sum (72 :: num8 g)) := by simp [joinB]
 refine wl_call rfl (c_join st.im hpc2 (by rw [hj2]; simp [length_sum]; omega) (by simp)) rfl ?_
 rintro v15 w ⟨t15, m7, hg7, hi7, hs7⟩
 have st := st.grown hg7 t15 hi7
 rw [hj2] at hs7
 refine wl_call rfl (c_padded st.im hs7 (by simp [length_sum]; omega)) rfl ?_
 rintro v16 w ⟨t16, mm16, gr16, im16, hs8⟩
 have st := st.grown gr16 t16 im16
 refine wl_val (v_assign' (by conv => (lhs; whnf))) rfl ?_
 refine wl_nil ?_
 refine then_go ?_
 refine wc_ret ?_
 exact ret1 rfl (st.out hs8)
theorem c_rrecord {g s : UInt64} {v : Value} {b : By} (him : Im m wI) (hb : SlM m v 1 b.length (bs b)) (hl : b.length ≤ 1000000000) : Ret Tryz.prog 81 #[u64 g, u64 s, v] wI fun v' w' => Out m wI w' fun m' => SlM m' v' 1 (recB g s b).length (bs (recB g s b)) := by
 have st := St.start him
 have h8 := length_num8 g
 have h9 := length_num8 s
 obtain ⟨ba, bc, rfl, hbc⟩ := hb.opn
 refine ret_of Tryz.call81 Tryz.func81 rfl Tryz.ntmps81 Tryz.results81 rfl ?_
 refine wc_seq ?_
 refine wc_region ?_
 refine wl_val (v_assign' (by conv => (lhs; whnf))) rfl ?_
 refine wl_nil ?_
 refine then_go ?_
 refine wc_seq ?_
 refine wc_region ?_
 refine wl_val (v_move' (by conv => (lhs; whnf))) rfl ?_
 refine wl_val (v_move' (by conv => (lhs; whnf))) rfl ?_
 refine wl_val (v_move' (by conv => (lhs; whnf))) rfl ?_
 refine wl_call rfl (c_rtext st.im hb hl) rfl ?_
 rintro v11 w ⟨t11, mm11, gr11, im11, hp0⟩
 have st := st.grown gr11 t11 im11
 have hb := hb.mono gr11.le
 refine wl_call rfl (c_ref3of st.im hp0 (by rw [length_textB]; omega)) rfl ?_
 rintro v12 w ⟨t12, rfl⟩
 have st := st.pure t12
 refine wl_alloc TF.z141 st rfl ?_
 intro b7 w st
 refine wl_storeW (cs := (bs (sum (textB g s b))).toArray) 0 st rfl TF.t141 rfl rfl (by rw [List.size_toArray, length_bs, length_sum]) rfl (one_bs _) ?_
 intro w st
 obtain ⟨m5, hg5, hm5, st⟩ := st.freeze (i := 0) rfl (by simp)
 have hb := hb.mono hg5.le
 have hd5 := dig_slM hm5 (length_sum _)
 refine wl_nil ?_
 refine then_go ?_
 refine wc_seq ?_
 refine wc_draw TF.mixed ?_
 have st := st.pure (touch_drew _)
 refine fl_val 1 rfl (fun _ => (v_move' (by conv => (lhs; whnf)))) rfl (by kernel_rfl) ?_
 refine fl_val 3 rfl (fun _ => (v_move' (by conv => (lhs; whnf)))) rfl (by kernel_rfl) ?_
 refine fl_val 5 rfl (fun _ => (v_sla 0 32 Tryz.underlying141 TF.t5 rfl rfl rfl (by omega) (by omega) (by omega))) rfl (by kernel_rfl) ?_
 refine fl_val 6 rfl (fun _ => (v_move' (by conv => (lhs; whnf)))) rfl (by kernel_rfl) ?_
 refine fl_val 7 rfl (fun _ => (v_len_s Tryz.underlying23 rfl)) rfl (by kernel_rfl) ?_
 refine fl_val 8 rfl (fun _ => (v_convi_64 Tryz.underlying3 Tryz.underlying47 rfl)) rfl (by kernel_rfl) ?_
 refine fl_val 10 rfl (fun _ => (v_move' (by conv => (lhs; whnf)))) rfl (by kernel_rfl) ?_
 refine fl_effs [0, 2] (by kernel_rfl) trivial (all2 ?_ ?_)
 ·refine stepE 0 (pure' := [10, 8, 7, 6, 5, 3, 1]) (lds' := []) rfl (by kernel_rfl) (by kernel_rfl) ?_
  refine wl_byteF 74 rfl st rfl ?_
  intro m1 v13 w hg1 st hp1
  have hb := hb.mono hg1
  have hd5 := hd5.mono hg1
  refine wl_nil ⟨rfl, ?_⟩
  refine fl_eff1 2 [10, 8, 7, 6, 5, 3] [] (by kernel_rfl) trivial rfl ?_
  refine wl_call rfl (c_rnumber st.im) rfl ?_
  rintro v15 w ⟨t15, mm15, gr15, im15, hp2⟩
  have st := st.grown gr15 t15 im15
  have hb := hb.mono gr15.le
  have hd5 := hd5.mono gr15.le
  have hp1 := hp1.mono gr15.le
  refine wl_nil ⟨rfl, ?_⟩
  refine fl_eff1 4 [10, 8, 7, 6, 5] [] (by kernel_rfl) trivial rfl ?_
  refine wl_call rfl (c_rnumber st.im) rfl ?_
  rintro v17 w ⟨t17, mm17, gr17, im17, hp3⟩
  have st := st.grown gr17 t17 im17
  have hb := hb.mono gr17.le
  have hd5 := hd5.mono gr17.le
  have hp1 := hp1.mono gr17.le
  have hp2 := hp2.mono gr17.le
  refine wl_nil ⟨rfl, ?_⟩
  refine fl_eff1 9 [10, 7, 6, 5] [] (by kernel_rfl) trivial rfl ?_
  refine wl_call rfl (c_rnumber st.im) rfl ?_
  rintro v22 w ⟨t22, mm22, gr22, im22, hp4⟩
  have st := st.grown gr22 t22 im22
  have hb := hb.mono gr22.le
  have hd5 := hd5.mono gr22.le
  have hp1 := hp1.mono gr22.le
  have hp2 := hp2.mono gr22.le
  have hp3 := hp3.mono gr22.le
  refine wl_nil ⟨rfl, ?_⟩
  refine fl_eff1 11 [7, 6] [] (by kernel_rfl) trivial rfl ?_
  refine wl_pcsN [([74], v13), (num8 g, v15), (num8 s, v17), (sum (textB g s b), _), (num8 (UInt64.ofNat b.length), v22), (b, _)] st rfl (by decide) (by decide) rfl (by simp only [List.mem_cons, List.not_mem_nil, or_false]; rintro z (rfl | rfl | rfl | rfl | rfl | rfl) <;> first | exact hp1 | exact hp2 | exact hp3 | exact hd5 | exact hp4 | exact hb) rfl ?_
  intro m3 v24 w hle3 st hpc
  refine wl_nil ⟨rfl, ?_⟩
  refine fl_eff1 12 [7, 6] [] (by kernel_rfl) trivial rfl ?_
  have h10 := length_num8 (UInt64.ofNat b.length)
  have hsl := length_sum (textB g s b)
  have hj : ∀ a c, joinB [([74], v13), (num8 g, v15), (num8 s, v17), (sum (textB g s b), a), (num8 (UInt64.ofNat b.length), v22), (b, c)] = 74 :: (num8 g ++ (num8 s ++ (sum (textB g s b) ++ (num8 (UInt64.ofNat b.length) ++ b)))) := by simp [joinB]
  refine wl_call rfl (c_join st.im hpc (by rw [hj]; simp; omega) (by simp)) rfl ?_
  rintro v25 w ⟨t25, m4, hg4, hi4, hs4⟩
  have st := st.grown hg4 t25 hi4
  rw [hj] at hs4
  refine wl_nil ⟨rfl, ?_⟩
  refine fl_eff1 13 [7, 6] [] (by kernel_rfl) trivial rfl ?_
  refine wl_call rfl (c_padded st.im hs4 (by simp; omega)) rfl ?_
  rintro v26 w ⟨t26, mm26, gr26, im26, hs8⟩
  have st := st.grown gr26 t26 im26
  refine wl_nil ⟨rfl, ?_⟩
  refine fl_eff1 14 [] [] (by kernel_rfl) trivial rfl ?_
  refine wl_val (v_assign' (by conv => (lhs; whnf))) rfl ?_
  refine wl_nil ⟨rfl, ?_⟩
  refine fl_nil (by kernel_rfl) trivial ?_
  refine then_go ?_
  refine wc_ret ?_
  exact ret1 rfl (st.out hs8)
 ·refine stepE 2 (pure' := [10, 8, 7, 6, 5, 3]) (lds' := []) rfl (by kernel_rfl) (by kernel_rfl) ?_
  refine wl_call rfl (c_rnumber st.im) rfl ?_
  rintro v15 w ⟨t15, mm15, gr15, im15, hp2⟩
  have st := st.grown gr15 t15 im15
  have hb := hb.mono gr15.le
  have hd5 := hd5.mono gr15.le
  refine wl_nil ⟨rfl, ?_⟩
  refine fl_effs [0, 4] (by kernel_rfl) trivial (all2 ?_ ?_)
  ·refine stepE 0 (pure' := [10, 8, 7, 6, 5, 3]) (lds' := []) rfl (by kernel_rfl) (by kernel_rfl) ?_
   refine wl_byteF 74 rfl st rfl ?_
   intro m1 v13 w hg1 st hp1
   have hb := hb.mono hg1
   have hd5 := hd5.mono hg1
   have hp2 := hp2.mono hg1
   refine wl_nil ⟨rfl, ?_⟩
   refine fl_eff1 4 [10, 8, 7, 6, 5] [] (by kernel_rfl) trivial rfl ?_
   refine wl_call rfl (c_rnumber st.im) rfl ?_
   rintro v17 w ⟨t17, mm17, gr17, im17, hp3⟩
   have st := st.grown gr17 t17 im17
   have hb := hb.mono gr17.le
   have hd5 := hd5.mono gr17.le
   have hp2 := hp2.mono gr17.le
   have hp1 := hp1.mono gr17.le
   refine wl_nil ⟨rfl, ?_⟩
   refine fl_eff1 9 [10, 7, 6, 5] [] (by kernel_rfl) trivial rfl ?_
   refine wl_call rfl (c_rnumber st.im) rfl ?_
   rintro v22 w ⟨t22, mm22, gr22, im22, hp4⟩
   have st := st.grown gr22 t22 im22
   have hb := hb.mono gr22.le
   have hd5 := hd5.mono gr22.le
   have hp2 := hp2.mono gr22.le
   have hp1 := hp1.mono gr22.le
   have hp3 := hp3.mono gr22.le
   refine wl_nil ⟨rfl, ?_⟩
   refine fl_eff1 11 [7, 6] [] (by kernel_rfl) trivial rfl ?_
   refine wl_pcsN [([74], v13), (num8 g, v15), (num8 s, v17), (sum (textB g s b), _), (num8 (UInt64.ofNat b.length), v22), (b, _)] st rfl (by decide) (by decide) rfl (by simp only [List.mem_cons, List.not_mem_nil, or_false]; rintro z (rfl | rfl | rfl | rfl | rfl | rfl) <;> first | exact hp1 | exact hp2 | exact hp3 | exact hd5 | exact hp4 | exact hb) rfl ?_
   intro m3 v24 w hle3 st hpc
   refine wl_nil ⟨rfl, ?_⟩
   refine fl_eff1 12 [7, 6] [] (by kernel_rfl) trivial rfl ?_
   have h10 := length_num8 (UInt64.ofNat b.length)
   have hsl := length_sum (textB g s b)
   have hj : ∀ a c, joinB [([74], v13), (num8 g, v15), (num8 s, v17), (sum (textB g s b), a), (num8 (UInt64.ofNat b.length), v22), (b, c)] = 74 :: (num8 g ++ (num8 s ++ (sum (textB g s b) ++ (num8 (UInt64.ofNat b.length) ++ b)))) := by simp [joinB]
   refine wl_call rfl (c_join st.im hpc (by rw [hj]; simp; omega) (by simp)) rfl ?_
   rintro v25 w ⟨t25, m4, hg4, hi4, hs4⟩
   have st := st.grown hg4 t25 hi4
   rw [hj] at hs4
   refine wl_nil ⟨rfl, ?_⟩
   refine fl_eff1 13 [7, 6] [] (by kernel_rfl) trivial rfl ?_
   refine wl_call rfl (c_padded st.im hs4 (by simp; omega)) rfl ?_
   rintro v26 w ⟨t26, mm26, gr26, im26, hs8⟩
   have st := st.grown gr26 t26 im26
   refine wl_nil ⟨rfl, ?_⟩
   refine fl_eff1 14 [] [] (by kernel_rfl) trivial rfl ?_
   refine wl_val (v_assign' (by conv => (lhs; whnf))) rfl ?_
   refine wl_nil ⟨rfl, ?_⟩
   refine fl_nil (by kernel_rfl) trivial ?_
   refine then_go ?_
   refine wc_ret ?_
   exact ret1 rfl (st.out hs8)
  ·refine stepE 4 (pure' := [10, 8, 7, 6, 5]) (lds' := []) rfl (by kernel_rfl) (by kernel_rfl) ?_
   refine wl_call rfl (c_rnumber st.im) rfl ?_
   rintro v17 w ⟨t17, mm17, gr17, im17, hp3⟩
   have st := st.grown gr17 t17 im17
   have hb := hb.mono gr17.le
   have hd5 := hd5.mono gr17.le
   have hp2 := hp2.mono gr17.le
   refine wl_nil ⟨rfl, ?_⟩
   refine fl_effs [0, 9] (by kernel_rfl) trivial (all2 ?_ ?_)
   ·refine stepE 0 (pure' := [10, 8, 7, 6, 5]) (lds' := []) rfl (by kernel_rfl) (by kernel_rfl) ?_
    refine wl_byteF 74 rfl st rfl ?_
    intro m1 v13 w hg1 st hp1
    have hb := hb.mono hg1
    have hd5 := hd5.mono hg1
    have hp2 := hp2.mono hg1
    have hp3 := hp3.mono hg1
    refine wl_nil ⟨rfl, ?_⟩
    refine fl_eff1 9 [10, 7, 6, 5] [] (by kernel_rfl) trivial rfl ?_
    refine wl_call rfl (c_rnumber st.im) rfl ?_
    rintro v22 w ⟨t22, mm22, gr22, im22, hp4⟩
    have st := st.grown gr22 t22 im22
    have hb := hb.mono gr22.le
    have hd5 := hd5.mono gr22.le
    have hp2 := hp2.mono gr22.le
    have hp3 := hp3.mono gr22.le
    have hp1 := hp1.mono gr22.le
    refine wl_nil ⟨rfl, ?_⟩
    refine fl_eff1 11 [7, 6] [] (by kernel_rfl) trivial rfl ?_
    refine wl_pcsN [([74], v13), (num8 g, v15), (num8 s, v17), (sum (textB g s b), _), (num8 (UInt64.ofNat b.length), v22), (b, _)] st rfl (by decide) (by decide) rfl (by simp only [List.mem_cons, List.not_mem_nil, or_false]; rintro z (rfl | rfl | rfl | rfl | rfl | rfl) <;> first | exact hp1 | exact hp2 | exact hp3 | exact hd5 | exact hp4 | exact hb) rfl ?_
    intro m3 v24 w hle3 st hpc
    refine wl_nil ⟨rfl, ?_⟩
    refine fl_eff1 12 [7, 6] [] (by kernel_rfl) trivial rfl ?_
    have h10 := length_num8 (UInt64.ofNat b.length)
    have hsl := length_sum (textB g s b)
    have hj : ∀ a c, joinB [([74], v13), (num8 g, v15), (num8 s, v17), (sum (textB g s b), a), (num8 (UInt64.ofNat b.length), v22), (b, c)] = 74 :: (num8 g ++ (num8 s ++ (sum (textB g s b) ++ (num8 (UInt64.ofNat b.length) ++ b)))) := by simp [joinB]
    refine wl_call rfl (c_join st.im hpc (by rw [hj]; simp; omega) (by simp)) rfl ?_
    rintro v25 w ⟨t25, m4, hg4, hi4, hs4⟩
    have st := st.grown hg4 t25 hi4
    rw [hj] at hs4
    refine wl_nil ⟨rfl, ?_⟩
    refine fl_eff1 13 [7, 6] [] (by kernel_rfl) trivial rfl ?_
    refine wl_call rfl (c_padded st.im hs4 (by simp; omega)) rfl ?_
    rintro v26 w ⟨t26, mm26, gr26, im26, hs8⟩
    have st := st.grown gr26 t26 im26
    refine wl_nil ⟨rfl, ?_⟩
    refine fl_eff1 14 [] [] (by kernel_rfl) trivial rfl ?_
    refine wl_val (v_assign' (by conv => (lhs; whnf))) rfl ?_
    refine wl_nil ⟨rfl, ?_⟩
    refine fl_nil (by kernel_rfl) trivial ?_
    refine then_go ?_
    refine wc_ret ?_
    exact ret1 rfl (st.out hs8)
   ·refine stepE 9 (pure' := [10, 7, 6, 5]) (lds' := []) rfl (by kernel_rfl) (by kernel_rfl) ?_
    refine wl_call rfl (c_rnumber st.im) rfl ?_
    rintro v22 w ⟨t22, mm22, gr22, im22, hp4⟩
    have st := st.grown gr22 t22 im22
    have hb := hb.mono gr22.le
    have hd5 := hd5.mono gr22.le
    have hp2 := hp2.mono gr22.le
    have hp3 := hp3.mono gr22.le
    refine wl_nil ⟨rfl, ?_⟩
    refine fl_eff1 0 [10, 7, 6, 5] [] (by kernel_rfl) trivial rfl ?_
    refine wl_byteF 74 rfl st rfl ?_
    intro m1 v13 w hg1 st hp1
    have hb := hb.mono hg1
    have hd5 := hd5.mono hg1
    have hp2 := hp2.mono hg1
    have hp3 := hp3.mono hg1
    have hp4 := hp4.mono hg1
    refine wl_nil ⟨rfl, ?_⟩
    refine fl_eff1 11 [7, 6] [] (by kernel_rfl) trivial rfl ?_
    refine wl_pcsN [([74], v13), (num8 g, v15), (num8 s, v17), (sum (textB g s b), _), (num8 (UInt64.ofNat b.length), v22), (b, _)] st rfl (by decide) (by decide) rfl (by simp only [List.mem_cons, List.not_mem_nil, or_false]; rintro z (rfl | rfl | rfl | rfl | rfl | rfl) <;> first | exact hp1 | exact hp2 | exact hp3 | exact hd5 | exact hp4 | exact hb) rfl ?_
    intro m3 v24 w hle3 st hpc
    refine wl_nil ⟨rfl, ?_⟩
    refine fl_eff1 12 [7, 6] [] (by kernel_rfl) trivial rfl ?_
    have h10 := length_num8 (UInt64.ofNat b.length)
    have hsl := length_sum (textB g s b)
    have hj : ∀ a c, joinB [([74], v13), (num8 g, v15), (num8 s, v17), (sum (textB g s b), a), (num8 (UInt64.ofNat b.length), v22), (b, c)] = 74 :: (num8 g ++ (num8 s ++ (sum (textB g s b) ++ (num8 (UInt64.ofNat b.length) ++ b)))) := by simp [joinB]
    refine wl_call rfl (c_join st.im hpc (by rw [hj]; simp; omega) (by simp)) rfl ?_
    rintro v25 w ⟨t25, m4, hg4, hi4, hs4⟩
    have st := st.grown hg4 t25 hi4
    rw [hj] at hs4
    refine wl_nil ⟨rfl, ?_⟩
    refine fl_eff1 13 [7, 6] [] (by kernel_rfl) trivial rfl ?_
    refine wl_call rfl (c_padded st.im hs4 (by simp; omega)) rfl ?_
    rintro v26 w ⟨t26, mm26, gr26, im26, hs8⟩
    have st := st.grown gr26 t26 im26
    refine wl_nil ⟨rfl, ?_⟩
    refine fl_eff1 14 [] [] (by kernel_rfl) trivial rfl ?_
    refine wl_val (v_assign' (by conv => (lhs; whnf))) rfl ?_
    refine wl_nil ⟨rfl, ?_⟩
    refine fl_nil (by kernel_rfl) trivial ?_
    refine then_go ?_
    refine wc_ret ?_
    exact ret1 rfl (st.out hs8)
theorem c_r14number {v : Value} {b : By} (him : Im m wI) (hb : SlM m v 1 b.length (bs b)) (hl : 8 ≤ b.length) : Ret Tryz.prog 80 #[v] wI fun v' w' => Tch wI w' [] [] ∧ v' = u64 (rd8 b) := by
 have st := St.start him
 obtain ⟨b0, o0, cap, rfl, hcap⟩ := hb.ptr1 (by omega) (by decide)
 refine ret_of Tryz.call80 Tryz.func80 rfl Tryz.ntmps80 Tryz.results80 rfl ?_
 refine wc_seq ?_
 refine wc_region ?_
 refine wl_val (v_assign' (by conv => (lhs; whnf))) rfl ?_
 refine wl_nil ?_
 refine then_go ?_
 refine wc_seq ?_
 refine wc_region ?_
 refine wl_val (v_assign' (by conv => (lhs; whnf))) rfl ?_
 refine wl_nil ?_
 refine then_go ?_
 refine wc_seq ?_
 refine wc_seq ?_
 refine wc_region ?_
 refine wl_val (v_assign' (by conv => (lhs; whnf))) rfl ?_
 refine wl_nil ?_
 refine then_go ?_
 refine wc_block ?_
 refine wc_loop (S := Nat) (fun q r w' => ∃ i, q + i = 8 ∧ r 0 = .slice (some ⟨b0, o0, none⟩) b.length cap ∧ r 3 = u64 ((b.take i).foldl (fun n c => n * 256 + UInt64.ofNat c.toNat) 0) ∧ r 4 = .int .i64 i ∧ St m m [] wI w' []) id 8 ⟨0, rfl, rfl, rfl, rfl, st⟩ ?_
 clear st
 rintro q r w2 ⟨i, hqi, h0, h3, h4, st⟩
 refine wc_o 0 h0 (wc_o 3 h3 (wc_o 4 h4 ?_))
 refine wc_seq ?_
 refine wc_seq ?_
 refine wc_region ?_
 refine wl_val (v_move' (by conv => (lhs; whnf))) rfl ?_
 refine wl_val (v_lss rfl rfl) rfl ?_
 refine wl_nil ?_
 refine then_go ?_
 refine wc_if rfl (fun h6 => ?_) (fun h6 => ?_)
 ·refine wc_skip ?_
  refine then_go ?_
  refine wc_seq ?_
  refine wc_block ?_
  have hi : i < b.length := by omega
  refine wc_region ?_
  refine wl_val (v_move' (by conv => (lhs; whnf))) rfl ?_
  refine wl_val (v_mul64 (p := (b.take i).foldl (fun n c => n * 256 + UInt64.ofNat c.toNat) 0) (q := 256) rfl rfl) rfl ?_
  refine wl_val (v_move' (by conv => (lhs; whnf))) rfl ?_
  refine wl_val (v_move' (by conv => (lhs; whnf))) rfl ?_
  refine wl_val (v_ias i Tryz.underlying23 TF.t5 rfl rfl (by first | rfl | omega) (by first | omega | (dsimp only at *; omega))) rfl ?_
  refine wl_val (v_load rfl (SlM.rdB TF.t5 i hb hi st.im)) rfl ?_
  refine wl_val (v_convi_64 (n := b[i].toNat) Tryz.underlying5 Tryz.underlying47 rfl) rfl ?_
  refine wl_val (v_add64 rfl rfl) rfl ?_
  refine wl_val (v_assign' (by conv => (lhs; whnf))) rfl ?_
  refine wl_nil ?_
  refine block_go (then_go ?_)
  refine wc_region ?_
  refine wl_val (v_move' (by conv => (lhs; whnf))) rfl ?_
  refine wl_val (v_add' rfl rfl rfl (by first | omega | (dsimp only at *; omega)) (by first | omega | (dsimp only at *; omega))) rfl ?_
  refine wl_val (v_assign' (by conv => (lhs; whnf))) rfl ?_
  refine wl_nil ?_
  refine then_go ?_
  refine ⟨q - 1, by simp; omega, i + 1, by omega, rfl, ?_, rfl, st⟩
  rw [List.take_succ_eq_append_getElem hi, List.foldl_append, List.foldl_cons, List.foldl_nil]
  rfl
 ·refine wc_exit (then_exit (then_exit (block_hit ?_)))
  refine then_go ?_
  refine wc_seq ?_
  refine wc_region ?_
  refine wl_val (v_move' (by conv => (lhs; whnf))) rfl ?_
  refine wl_val (v_assign' (by conv => (lhs; whnf))) rfl ?_
  refine wl_nil ?_
  refine then_go ?_
  refine wc_ret ?_
  have hi8 : i = 8 := by omega
  subst hi8
  exact ret1 rfl ⟨st.touch, rfl⟩
end
end Go.Proofs.YtladpaehbolghaaGreat

namespace Go.Proofs.YtladpaehbolghaaGreat
open Go Go.RowKit K SH DK JR
theorem v_nesJ {P : Program} {r : Fr} {w : World} {ty T U : TypeId} {x y : Operand} {a b : By} (hx : ev r x = .string (strB a)) (hy : ev r y = .string (strB b)) : Val P (.binOp .neq T x y U) ty r w (.bool (decide (¬ a = b))) w := by
 intro _ _ _ _
 simp only [execOp, eqGuard, hx, hy, binOp, Op.stringOp, strB_toList, Sem.run_bind, Sem.run_pure, Result.andThen_ok]
 by_cases h : a = b
 ·subst h; simp
 ·simp [h]
def hlf (n : Nat) : Nat := n / 64 / 2 * 64
section
variable {m : Mem} {wI : World}
theorem c_r14gen {v : Value} {b : By} (him : Im m wI) (hb : SlM m v 1 b.length (bs b)) (hl : 64 ≤ b.length) (hl2 : b.length ≤ 500000000) : Ret Tryz.prog 79 #[v] wI fun v' w' => Tch wI w' [] [] ∧ v' = u64 (begF b) := by
 have st := St.start him
 obtain ⟨ba, bc, rfl, hbc⟩ := hb.opn
 refine ret_of Tryz.call79 Tryz.func79 rfl Tryz.ntmps79 Tryz.results79 rfl ?_
 refine wc_seq ?_
 refine wc_region ?_
 refine wl_val (v_assign' (by conv => (lhs; whnf))) rfl ?_
 refine wl_nil ?_
 refine then_go ?_
 refine wc_seq ?_
 refine wc_region ?_
 refine wl_val (v_move' (by conv => (lhs; whnf))) rfl ?_
 refine wl_val (v_sls 1 9 Tryz.underlying23 TF.t5 rfl ⟨_, _, rfl, rfl⟩ ⟨_, _, rfl, rfl⟩ (by omega) (by omega)) rfl ?_
 have h1 := hb.partB 1 9 (by omega) (by omega)
 have e1 : rd8 ((b.drop 1).take (9 - 1)) = rd8 (b.drop 1) := by unfold rd8; rw [List.take_take]; rfl
 refine wl_call rfl (c_r14number st.im h1 (by rw [List.length_take, List.length_drop]; omega)) rfl ?_
 rintro v6 w ⟨t6, rfl⟩
 have st := st.pure t6
 rw [e1]
 obtain ⟨q, hq⟩ : ∃ q, q = rd8 (b.drop 1) := ⟨_, rfl⟩
 rw [← hq]
 refine wl_val (v_assign' (by conv => (lhs; whnf))) rfl ?_
 refine wl_nil ?_
 refine then_go ?_
 refine wc_seq ?_
 refine wc_seq ?_
 by_cases hq0 : q = 0
 ·refine wc_draw TF.mixed ?_
  have st := st.pure (touch_drew _)
  refine fl_val 0 rfl (fun _ => (v_move' (by conv => (lhs; whnf)))) rfl (by kernel_rfl) ?_
  refine fl_val 1 rfl (fun _ => (wl_valD (v_eql64 (q := 0) rfl rfl) (q := true) (decide_eq_true hq0))) rfl (by kernel_rfl) ?_
  refine fl_val 2 rfl (fun _ => (v_move' (by conv => (lhs; whnf)))) rfl (by kernel_rfl) ?_
  refine fl_off 3 rfl rfl rfl rfl rfl rfl (by kernel_rfl) ?_
  refine fl_off 4 rfl rfl rfl rfl rfl rfl (by kernel_rfl) ?_
  refine fl_offd 5 rfl rfl rfl rfl rfl rfl (by kernel_rfl) ?_
  refine fl_off 6 rfl rfl rfl rfl rfl rfl (by kernel_rfl) ?_
  refine fl_eff1 7 [4, 3, 1, 0] [5] (by kernel_rfl) ⟨obl_off rfl rfl rfl rfl rfl rfl, trivial⟩ rfl ?_
  refine wl_off rfl rfl rfl rfl ?_
  refine wl_nil ⟨rfl, ?_⟩
  refine fl_offd 8 rfl rfl rfl rfl rfl rfl (by kernel_rfl) ?_
  refine fl_off 9 rfl rfl rfl rfl rfl rfl (by kernel_rfl) ?_
  refine fl_val 10 rfl (fun _ => (v_pick rfl)) rfl (by kernel_rfl) ?_
  refine fl_nil (by kernel_rfl) ⟨obl_off rfl rfl rfl rfl rfl rfl, obl_off rfl rfl rfl rfl rfl rfl, trivial⟩ ?_
  refine then_go ?_
  refine wc_true rfl ?_
  refine wc_seq ?_
  refine wc_region ?_
  refine wl_val (v_assign' (by conv => (lhs; whnf))) rfl ?_
  refine wl_nil ?_
  refine then_go ?_
  refine wc_ret (then_ret ?_)
  refine ret1 (v := u64 0) rfl ⟨(st.keepOnly (l := []) (List.nil_sublist _)).touch, ?_⟩
  unfold begF
  rw [← hq, if_neg (fun h => by rw [hq0] at h; exact absurd h.1 (by decide))]
 ·refine wc_draw TF.mixed ?_
  have st := st.pure (touch_drew _)
  refine fl_val 0 rfl (fun _ => (v_move' (by conv => (lhs; whnf)))) rfl (by kernel_rfl) ?_
  refine fl_val 1 rfl (fun _ => (wl_valD (v_eql64 (q := 0) rfl rfl) (q := false) (decide_eq_false hq0))) rfl (by kernel_rfl) ?_
  refine fl_val 2 rfl (fun _ => (v_move' (by conv => (lhs; whnf)))) rfl (by kernel_rfl) ?_
  refine fl_on 3 rfl rfl rfl rfl (fun _ => (v_move' (by conv => (lhs; whnf)))) rfl (by kernel_rfl) ?_
  refine fl_on 4 rfl rfl rfl rfl (fun _ => (v_sls 0 64 Tryz.underlying23 TF.t5 rfl rfl ⟨_, _, rfl, rfl⟩ (by omega) (by omega))) rfl (by kernel_rfl) ?_
  refine fl_ond 5 rfl rfl rfl rfl (v_b2s Tryz.underlying23 Tryz.underlying5 Tryz.underlying9 st.im (hb.partB 0 64 (by omega) hl) rfl) rfl (by kernel_rfl) ?_
  refine fl_on 6 rfl rfl rfl rfl (fun _ => (v_move' (by conv => (lhs; whnf)))) rfl (by kernel_rfl) ?_
  refine fl_eff1 7 [4, 3, 1, 0] [5] (by kernel_rfl) ⟨obl_on rfl rfl rfl rfl rfl (v_b2s Tryz.underlying23 Tryz.underlying5 Tryz.underlying9 st.im (hb.partB 0 64 (by omega) hl) rfl), trivial⟩ rfl ?_
  refine wl_on rfl rfl ?_
  refine wl_call rfl (c_rhead st.im) rfl ?_
  rintro v14 w ⟨t14, m1, hg1, hi1, hh⟩
  have st := st.grown hg1 t14 hi1
  have hb := hb.mono hg1.le
  refine wl_nil ⟨rfl, ?_⟩
  refine fl_ond 8 rfl rfl rfl rfl (v_b2s Tryz.underlying23 Tryz.underlying5 Tryz.underlying9 st.im hh rfl) rfl (by kernel_rfl) ?_
  refine fl_on 9 rfl rfl rfl rfl (fun _ => (v_nesJ rfl rfl)) rfl (by kernel_rfl) ?_
  refine fl_val 10 rfl (fun _ => (v_pick rfl)) rfl (by kernel_rfl) ?_
  refine fl_nil (by kernel_rfl) ⟨obl_on rfl rfl rfl rfl rfl (v_b2s Tryz.underlying23 Tryz.underlying5 Tryz.underlying9 st.im hh rfl), obl_on rfl rfl rfl rfl rfl (v_b2s Tryz.underlying23 Tryz.underlying5 Tryz.underlying9 st.im (hb.partB 0 64 (by omega) hl) rfl), trivial⟩ ?_
  refine then_go ?_
  refine wc_cond rfl (fun h17 => ?_) (fun h17 => ?_)
  ·refine wc_seq ?_
   refine wc_region ?_
   refine wl_val (v_assign' (by conv => (lhs; whnf))) rfl ?_
   refine wl_nil ?_
   refine then_go ?_
   refine wc_ret (then_ret ?_)
   refine ret1 (v := u64 0) rfl ⟨(st.keepOnly (l := []) (List.nil_sublist _)).touch, ?_⟩
   unfold begF
   rw [← hq, if_neg (fun h => of_decide_eq_true h17 h.2)]
  ·refine wc_skip ?_
   refine then_go ?_
   refine wc_seq ?_
   refine wc_region ?_
   refine wl_val (v_move' (by conv => (lhs; whnf))) rfl ?_
   refine wl_val (v_assign' (by conv => (lhs; whnf))) rfl ?_
   refine wl_nil ?_
   refine then_go ?_
   refine wc_ret ?_
   have hq1 : 0 < q.toNat := by
    rcases Nat.eq_zero_or_pos q.toNat with h | h
    ·exact (hq0 (UInt64.toNat_inj.1 h)).elim
    ·exact h
   refine ret1 (v := u64 q) rfl ⟨(st.keepOnly (l := []) (List.nil_sublist _)).touch, ?_⟩
   unfold begF
   rw [← hq, if_pos ⟨hq1, by simpa using h17⟩]
theorem c_rhalf {a : Option Addr} {c k : Nat} {l : Nat} (him : Im m wI) (hk : k ≤ 1) (hc : l ≤ c) (hl : l ≤ 500000000) : Ret Tryz.prog 56 #[.slice a l c, .int .i64 k] wI fun v' w' => Tch wI w' [] [] ∧ v' = .slice (sliceOff a c (k * hlf l) 1) (k * hlf l + hlf l - k * hlf l) (c - k * hlf l) := by
  have st := St.start him
  have hkl : k * hlf l ≤ hlf l := by rcases Nat.le_one_iff_eq_zero_or_eq_one.1 hk with rfl | rfl <;> omega
  have hll : k * hlf l + hlf l ≤ l := by have : 2 * hlf l ≤ l := by unfold hlf; omega
                                         omega
  refine ret_of Tryz.call56 Tryz.func56 rfl Tryz.ntmps56 Tryz.results56 rfl ?_
  refine wc_seq ?_
  refine wc_region ?_
  refine wl_val (v_assign' (by conv => (lhs; whnf))) rfl ?_
  refine wl_nil ?_
  refine then_go ?_
  refine wc_seq ?_
  refine wc_region ?_
  refine wl_val (v_move' (by conv => (lhs; whnf))) rfl ?_
  refine wl_val (v_len_s Tryz.underlying23 rfl) rfl ?_
  refine wl_val (v_to (v' := .int .i64 ((l / 64 : Nat) : Int)) (v_quo' rfl rfl (by omega) (by omega) rfl (by omega)) (by rw [Int.natCast_ediv]; rfl)) rfl ?_
  refine wl_val (v_to (v' := .int .i64 ((l / 64 / 2 : Nat) : Int)) (v_quo' rfl rfl (by omega) (by omega) rfl (by omega)) (by rw [Int.natCast_ediv (l / 64)]; rfl)) rfl ?_
  refine wl_val (v_mul' (c := ((hlf l : Nat) : Int)) rfl rfl (by unfold hlf; omega) (by omega) (by omega)) rfl ?_
  refine wl_val (v_assign' (by conv => (lhs; whnf))) rfl ?_
  refine wl_nil ?_
  refine then_go ?_
  refine wc_seq ?_
  refine wc_region ?_
  refine wl_val (v_move' (by conv => (lhs; whnf))) rfl ?_
  refine wl_val (v_move' (by conv => (lhs; whnf))) rfl ?_
  refine wl_val (v_move' (by conv => (lhs; whnf))) rfl ?_
  refine wl_val (v_mul' (c := ((k * hlf l : Nat) : Int)) rfl rfl (by rw [Int.natCast_mul]) (by omega) (by omega)) rfl ?_
  refine wl_val (v_move' (by conv => (lhs; whnf))) rfl ?_
  refine wl_val (v_move' (by conv => (lhs; whnf))) rfl ?_
  refine wl_val (v_mul' (c := ((k * hlf l : Nat) : Int)) rfl rfl (by rw [Int.natCast_mul]) (by omega) (by omega)) rfl ?_
  refine wl_val (v_move' (by conv => (lhs; whnf))) rfl ?_
  refine wl_val (v_add' (c := ((k * hlf l + hlf l : Nat) : Int)) rfl rfl (by omega) (by omega) (by omega)) rfl ?_
  refine wl_val (v_sls (k * hlf l) (k * hlf l + hlf l) Tryz.underlying23 TF.t5 rfl ⟨_, _, rfl, rfl⟩ ⟨_, _, rfl, rfl⟩ (by omega) (by omega)) rfl ?_
  refine wl_val (v_assign' (by conv => (lhs; whnf))) rfl ?_
  refine wl_nil ?_
  refine then_go ?_
  refine wc_ret ?_
  exact ret1 rfl ⟨st.touch, rfl⟩
theorem half_slM {a : Option Addr} {c k : Nat} {b : By} (hb : SlM m (.slice a b.length c) 1 b.length (bs b)) (hk : k ≤ 1) : SlM m (.slice (sliceOff a c (k * hlf b.length) 1) (k * hlf b.length + hlf b.length - k * hlf b.length) (c - k * hlf b.length)) 1 (halfB b (hlf b.length) k).length (bs (halfB b (hlf b.length) k)) := by
  have hkl : k * hlf b.length ≤ hlf b.length := by rcases Nat.le_one_iff_eq_zero_or_eq_one.1 hk with rfl | rfl <;> omega
  have hll : k * hlf b.length + hlf b.length ≤ b.length := by have : 2 * hlf b.length ≤ b.length := by unfold hlf; omega
                                                              omega
  have h := hb.partB (k * hlf b.length) (k * hlf b.length + hlf b.length) (by omega) hll
  rw [Nat.add_sub_cancel_left] at h ⊢
  exact h
theorem length_halfB {b : By} {k : Nat} (hk : k ≤ 1) : (halfB b (hlf b.length) k).length = hlf b.length := by
 have hkl : k * hlf b.length ≤ hlf b.length := by rcases Nat.le_one_iff_eq_zero_or_eq_one.1 hk with rfl | rfl <;> omega
 have : 2 * hlf b.length ≤ b.length := by unfold hlf; omega
 unfold halfB
 rw [List.length_take, List.length_drop]
 omega
theorem c_rpick {v : Value} {b : By} (him : Im m wI) (hb : SlM m v 1 b.length (bs b)) (hl : b.length ≤ 500000000) (hn : 128 ≤ b.length) : Ret Tryz.prog 54 #[v] wI fun v' w' => Tch wI w' [] [] ∧ v' = .tuple #[.int .i64 ((pickF b (hlf b.length)).1 : Nat), u64 (pickF b (hlf b.length)).2] := by
 have st := St.start him
 obtain ⟨ba, bc, rfl, hbc⟩ := hb.opn
 have h64 : 64 ≤ hlf b.length := by unfold hlf; omega
 have hle : hlf b.length ≤ b.length := by unfold hlf; omega
 have hl0 := length_halfB (b := b) (k := 0) (by omega)
 have hl1 := length_halfB (b := b) (k := 1) (by omega)
 refine ret_of Tryz.call54 Tryz.func54 rfl Tryz.ntmps54 Tryz.results54 rfl ?_
 refine wc_seq ?_
 refine wc_region ?_
 refine wl_val (v_assign' (by conv => (lhs; whnf))) rfl ?_
 refine wl_val (v_assign' (by conv => (lhs; whnf))) rfl ?_
 refine wl_nil ?_
 refine then_go ?_
 refine wc_seq ?_
 refine wc_region ?_
 refine wl_val (v_move' (by conv => (lhs; whnf))) rfl ?_
 refine wl_call rfl (c_rhalf (k := 0) st.im (by omega) hbc hl) rfl ?_
 rintro v7 w ⟨t7, rfl⟩
 have st := st.pure t7
 refine wl_call rfl (c_r14gen st.im (half_slM (k := 0) hb (by omega)) (by omega) (by omega)) rfl ?_
 rintro v8 w ⟨t8, rfl⟩
 have st := st.pure t8
 refine wl_val (v_assign' (by conv => (lhs; whnf))) rfl ?_
 refine wl_nil ?_
 refine then_go ?_
 refine wc_seq ?_
 refine wc_region ?_
 refine wl_val (v_move' (by conv => (lhs; whnf))) rfl ?_
 refine wl_call rfl (c_rhalf (k := 1) st.im (by omega) hbc hl) rfl ?_
 rintro v10 w ⟨t10, rfl⟩
 have st := st.pure t10
 refine wl_call rfl (c_r14gen st.im (half_slM (k := 1) hb (by omega)) (by omega) (by omega)) rfl ?_
 rintro v11 w ⟨t11, rfl⟩
 have st := st.pure t11
 refine wl_val (v_assign' (by conv => (lhs; whnf))) rfl ?_
 refine wl_nil ?_
 refine then_go ?_
 refine wc_seq ?_
 refine wc_seq ?_
 refine wc_region ?_
 refine wl_val (v_move' (by conv => (lhs; whnf))) rfl ?_
 refine wl_val (v_move' (by conv => (lhs; whnf))) rfl ?_
 refine wl_val (v_gtr64 rfl rfl) rfl ?_
 refine wl_nil ?_
 refine then_go ?_
 refine wc_if rfl (fun h14 => ?_) (fun h14 => ?_)
 ·refine wc_seq ?_
  refine wc_region ?_
  refine wl_val (v_move' (by conv => (lhs; whnf))) rfl ?_
  refine wl_val (v_assign' (by conv => (lhs; whnf))) rfl ?_
  refine wl_val (v_assign' (by conv => (lhs; whnf))) rfl ?_
  refine wl_nil ?_
  refine then_go ?_
  refine wc_ret (then_ret ?_)
  refine ret2 rfl rfl ⟨st.touch, ?_⟩
  unfold pickF
  rw [if_pos (UInt64.lt_iff_toNat_lt.2 h14)]
  rfl
 ·refine wc_skip ?_
  refine then_go ?_
  refine wc_seq ?_
  refine wc_region ?_
  refine wl_val (v_move' (by conv => (lhs; whnf))) rfl ?_
  refine wl_val (v_assign' (by conv => (lhs; whnf))) rfl ?_
  refine wl_val (v_assign' (by conv => (lhs; whnf))) rfl ?_
  refine wl_nil ?_
  refine then_go ?_
  refine wc_ret ?_
  refine ret2 rfl rfl ⟨st.touch, ?_⟩
  unfold pickF
  rw [if_neg (fun h => h14 (UInt64.lt_iff_toNat_lt.1 h))]
  rfl
theorem pickF_le {b : By} {n : Nat} : (pickF b n).1 ≤ 1 := by unfold pickF; split; exact Nat.le_refl _; exact Nat.zero_le _
theorem nextF_at {g s : UInt64} {half : By} {at' : Nat} (hat : at' + 64 ≤ half.length) :
  nextF g s (half.drop at') = if (rd8 ((half.drop (at' + 49)).take 8)).toNat < 1 ∨ half.length - at' - 57 < (rd8 ((half.drop (at' + 49)).take 8)).toNat then none else
   if at' + (recB g s ((half.drop (at' + 57)).take (rd8 ((half.drop (at' + 49)).take 8)).toNat)).length ≤ half.length ∧ recB g s ((half.drop (at' + 57)).take (rd8 ((half.drop (at' + 49)).take 8)).toNat) = (half.drop at').take (recB g s ((half.drop (at' + 57)).take (rd8 ((half.drop (at' + 49)).take 8)).toNat)).length then some ((half.drop (at' + 57)).take (rd8 ((half.drop (at' + 49)).take 8)).toNat) else none := by
 have e : rd8 ((half.drop (at' + 49)).take 8) = rd8 ((half.drop at').drop 49) := by unfold rd8; rw [List.take_take, List.drop_drop]; rfl
 unfold nextF
 rw [e, List.length_drop, if_neg (by omega), List.drop_drop, List.drop_drop]
 split
 ·rfl
 ·congr 1
  refine propext ⟨fun h => ⟨by omega, h.2⟩, fun h => ⟨by omega, h.2⟩⟩
theorem c_records {g : UInt64} {v : Value} {half : By} (him : Im m wI) (hb : SlM m v 1 half.length (bs half)) (h64 : 64 ≤ half.length) (hl : half.length ≤ 500000000) :
  Ret Tryz.prog 55 #[u64 g, v] wI fun v' w' => Out m wI w' fun m' => ∃ lv N, PcsM m' lv N ∧ N.map (·.1) = recs g half ∧ v' = .tuple #[lv, .int .i64 ((64 + sizeL (recs g half) : Nat) : Int)] := by
 have st := St.start him
 obtain ⟨ba, bc, rfl, hbc⟩ := hb.opn
 have hb0 := hb
 refine ret_of Tryz.call55 Tryz.func55 rfl Tryz.ntmps55 Tryz.results55 rfl ?_
 refine wc_seq ?_
 refine wc_region ?_
 refine wl_val (v_assign' (by conv => (lhs; whnf))) rfl ?_
 refine wl_val (v_assign' (by conv => (lhs; whnf))) rfl ?_
 refine wl_nil ?_
 refine then_go ?_
 refine wc_seq ?_
 refine wc_region ?_
 refine wl_val (v_assign' (by conv => (lhs; whnf))) rfl ?_
 refine wl_nil ?_
 refine then_go ?_
 refine wc_seq ?_
 refine wc_region ?_
 refine wl_val (v_assign' (by conv => (lhs; whnf))) rfl ?_
 refine wl_nil ?_
 refine then_go ?_
 refine wc_seq ?_
 refine wc_block ?_
 have st := nilRow st 23 1
 refine wc_loop (S := Nat) (fun q r w' => ∃ (m' : Mem) (lv : Value) (N : List (By × Value)), (half.drop (64 + sizeL (N.map (·.1)))).length ≤ q ∧ 64 + sizeL (N.map (·.1)) ≤ half.length ∧ recs g half = N.map (·.1) ++ recsF g q N.length (half.drop (64 + sizeL (N.map (·.1)))) ∧ r 0 = u64 g ∧ r 1 = .slice ba half.length bc ∧ r 6 = lv ∧ r 7 = .int .i64 ((64 + sizeL (N.map (·.1)) : Nat) : Int) ∧ St m m' [] wI w' [lrE lv N] ∧ (∀ k o, m k = some o → m' k = some o) ∧ Pcs m' N) id half.length ⟨m, _, [], by simp, by simpa [sizeL] using h64, rfl, rfl, rfl, rfl, rfl, st, fun _ _ h => h, by intro x hx; cases hx⟩ ?_
 clear st
 rintro q r w2 ⟨m', lv, N, hq, hat, hrec, g0, g1, g6, g7, st, hmm, hN⟩
 refine wc_o 0 g0 (wc_o 1 g1 (wc_o 6 g6 (wc_o 7 g7 ?_)))
 obtain ⟨la, lc, hlv⟩ := row_sl (st.at (i := 0) rfl)
 subst hlv
 have hNl : N.length * 64 ≤ sizeL (N.map (·.1)) := by have := sizeL_ge (l := N.map (·.1)); rwa [List.length_map] at this
 obtain ⟨at', hate⟩ : ∃ a, a = 64 + sizeL (N.map (·.1)) := ⟨_, rfl⟩
 rw [← hate] at hq hat hrec ⊢
 have hb := hb.mono hmm
 refine wc_seq ?_
 refine wc_seq ?_
 refine wc_region ?_
 refine wl_val (v_move' (by conv => (lhs; whnf))) rfl ?_
 refine wl_val (v_add' rfl rfl rfl (by first | omega | (dsimp only at *; omega)) (by first | omega | (dsimp only at *; omega))) rfl ?_
 refine wl_val (v_move' (by conv => (lhs; whnf))) rfl ?_
 refine wl_val (v_len_s Tryz.underlying23 rfl) rfl ?_
 refine wl_val (v_leq rfl rfl) rfl ?_
 refine wl_nil ?_
 refine then_go ?_
 refine wc_if rfl (fun h16 => ?_) (fun h16 => ?_)
 ·refine wc_skip ?_
  refine then_go ?_
  refine wc_block ?_
  refine wc_seq ?_
  refine wc_region ?_
  refine wl_val (v_move' (by conv => (lhs; whnf))) rfl ?_
  refine wl_val (v_move' (by conv => (lhs; whnf))) rfl ?_
  refine wl_val (v_add' (c := ((at' + 49 : Nat) : Int)) rfl rfl (by omega) (by omega) (by omega)) rfl ?_
  refine wl_val (v_move' (by conv => (lhs; whnf))) rfl ?_
  refine wl_val (v_add' (c := ((at' + 57 : Nat) : Int)) rfl rfl (by omega) (by omega) (by omega)) rfl ?_
  refine wl_val (v_sls (at' + 49) (at' + 57) Tryz.underlying23 TF.t5 rfl ⟨_, _, rfl, rfl⟩ ⟨_, _, rfl, rfl⟩ (by omega) (by omega)) rfl ?_
  have hnx := nextF_at (g := g) (s := UInt64.ofNat N.length) (half := half) (at' := at') (by omega)
  have hp := hb.partB (at' + 49) (at' + 57) (by omega) (by omega)
  rw [show at' + 57 - (at' + 49) = 8 by omega] at hp ⊢
  refine wl_call rfl (c_r14number st.im hp (by rw [List.length_take, List.length_drop]; omega)) rfl ?_
  rintro v23 w ⟨t23, rfl⟩
  have st := st.pure t23
  obtain ⟨n, hn⟩ : ∃ n, n = rd8 ((half.drop (at' + 49)).take 8) := ⟨_, rfl⟩
  rw [← hn] at hnx ⊢
  refine wl_val (v_assign' (by conv => (lhs; whnf))) rfl ?_
  refine wl_nil ?_
  refine then_go ?_
  refine wc_seq ?_
  refine wc_seq ?_
  refine wc_region ?_
  refine wl_val (v_move' (by conv => (lhs; whnf))) rfl ?_
  refine wl_val (v_eql64 (q := 0) rfl rfl) rfl ?_
  refine wl_val (v_move' (by conv => (lhs; whnf))) rfl ?_
  refine wl_valg rfl rfl (fun e => (v_move' (by conv => (lhs; whnf)))) rfl ?_
  refine wl_valg rfl rfl (fun e => (v_move' (by conv => (lhs; whnf)))) rfl ?_
  refine wl_valg rfl rfl (fun e => (v_len_s Tryz.underlying23 (by first | rfl | exact gx e rfl))) rfl ?_
  refine wl_valg rfl rfl (fun e => (v_move' (by conv => (lhs; whnf)))) rfl ?_
  refine wl_valg rfl rfl (fun e => (v_sub' (c := ((half.length - at' : Nat) : Int)) (by first | rfl | exact gx e rfl) (by first | rfl | exact gx e rfl) (by omega) (by omega) (by omega))) rfl ?_
  refine wl_valg rfl rfl (fun e => (v_sub' (c := ((half.length - at' - 57 : Nat) : Int)) (by first | rfl | exact gx e rfl) (by first | rfl | exact gx e rfl) (by omega) (by omega) (by omega))) rfl ?_
  refine wl_valg rfl rfl (fun e => (v_convi_64 (n := half.length - at' - 57) Tryz.underlying3 Tryz.underlying47 (by first | rfl | exact gx e rfl))) rfl ?_
  refine wl_valg rfl rfl (fun e => (v_gtr64 (q := UInt64.ofNat (half.length - at' - 57)) (by first | rfl | exact gx e rfl) (by first | rfl | exact gx e rfl))) rfl ?_
  refine wl_val (v_pickO rfl rfl rfl) rfl ?_
  refine wl_nil ?_
  refine then_go ?_
  refine wc_cond rfl (fun h35 => ?_) (fun h35 => ?_)
  ·refine wc_exit (then_exit (block_miss rfl (then_exit (block_hit ?_))))
   refine then_go ?_
   refine wc_seq ?_
   have hend : recsF g q N.length (half.drop at') = [] := by
    refine recsF_none ?_
    first
     | exact nextF_short (by rw [List.length_drop]; omega)
     | (rw [hnx, if_pos (by
       simp only [Bool.or_eq_true, decide_eq_true_eq, UInt64.toNat_ofNat'] at h35
       rw [Nat.mod_eq_of_lt (by omega)] at h35
       exact h35.imp (fun h => by rw [h]; decide) id)])
     | (rw [hnx, if_neg hnn, if_neg (fun h => by have := of_decide_eq_true hg7; omega)])
     | (rw [hnx, if_neg hnn, if_neg (fun h => by simp at h70; exact h70 h.2.symm)])
   rw [hend, List.append_nil] at hrec
   refine wc_region ?_
   refine wl_val (v_move' (by conv => (lhs; whnf))) rfl ?_
   refine wl_val (v_move' (by conv => (lhs; whnf))) rfl ?_
   refine wl_val (v_assign' (by conv => (lhs; whnf))) rfl ?_
   refine wl_val (v_assign' (by conv => (lhs; whnf))) rfl ?_
   refine wl_nil ?_
   refine then_go ?_
   refine wc_ret ?_
   obtain ⟨m3, hg3, hm3, st3⟩ := st.freezeR (i := 0) rfl (by simp)
   have st3 : St m m3 [] wI _ [] := st3
   exact ret2 rfl rfl (st3.out ⟨_, N, ⟨row_SlM (m := m3) (st.at (i := 0) rfl) hm3, hN.mono hg3.le⟩, hrec.symm, by rw [hrec, ← hate]; rfl⟩)
  ·refine wc_skip ?_
   refine then_go ?_
   refine wc_seq ?_
   have hnn : ¬ (n.toNat < 1 ∨ half.length - at' - 57 < n.toNat) := by
    simp only [Bool.or_eq_false_iff, decide_eq_false_iff_not, UInt64.toNat_ofNat'] at h35
    rw [Nat.mod_eq_of_lt (by omega)] at h35
    intro h
    rcases h with h | h
    ·exact h35.1 (UInt64.toNat_inj.1 (show n.toNat = 0 by omega))
    ·exact h35.2 h
   refine wc_region ?_
   refine wl_val (v_move' (by conv => (lhs; whnf))) rfl ?_
   refine wl_val (v_move' (by conv => (lhs; whnf))) rfl ?_
   refine wl_val (v_add' (c := ((at' + 57 : Nat) : Int)) rfl rfl (by omega) (by omega) (by omega)) rfl ?_
   refine wl_val (v_move' (by conv => (lhs; whnf))) rfl ?_
   refine wl_val (v_add' (c := ((at' + 57 : Nat) : Int)) rfl rfl (by omega) (by omega) (by omega)) rfl ?_
   refine wl_val (v_move' (by conv => (lhs; whnf))) rfl ?_
   refine wl_val (v_conv64i Tryz.underlying47 Tryz.underlying3 rfl (by omega)) rfl ?_
   refine wl_val (v_add' (c := ((at' + 57 + n.toNat : Nat) : Int)) rfl rfl (by omega) (by omega) (by omega)) rfl ?_
   refine wl_val (v_sls (at' + 57) (at' + 57 + n.toNat) Tryz.underlying23 TF.t5 rfl ⟨_, _, rfl, rfl⟩ ⟨_, _, rfl, rfl⟩ (by omega) (by omega)) rfl ?_
   refine wl_val (v_assign' (by conv => (lhs; whnf))) rfl ?_
   refine wl_nil ?_
   refine then_go ?_
   refine wc_seq ?_
   refine wc_region ?_
   refine wl_val (v_move' (by conv => (lhs; whnf))) rfl ?_
   refine wl_val (v_move' (by conv => (lhs; whnf))) rfl ?_
   refine wl_val (v_len_s Tryz.underlying41 rfl) rfl ?_
   refine wl_val (v_convi_64 Tryz.underlying3 Tryz.underlying47 rfl) rfl ?_
   refine wl_val (v_move' (by conv => (lhs; whnf))) rfl ?_
   have hx := hb.partB (at' + 57) (at' + 57 + n.toNat) (by omega) (by omega)
   have hxe : (half.drop (at' + 57)).take (at' + 57 + n.toNat - (at' + 57)) = (half.drop (at' + 57)).take n.toNat := by congr 1; omega
   rw [← hxe] at hnx
   have hxl : ((half.drop (at' + 57)).take (at' + 57 + n.toNat - (at' + 57))).length = n.toNat := by rw [List.length_take, List.length_drop]; omega
   obtain ⟨x, hxx⟩ : ∃ x, x = (half.drop (at' + 57)).take (at' + 57 + n.toNat - (at' + 57)) := ⟨_, rfl⟩
   rw [← hxx] at hx hnx hxl
   refine wl_call rfl (c_rrecord st.im hx (by omega)) rfl ?_
   rintro v50 w ⟨t50, m1, hg1, hi1, hr⟩
   have st := st.grown hg1 t50 hi1
   have hrl := length_recB g (UInt64.ofNat N.length) x
   obtain ⟨ra, rc, hv50, hrc⟩ := hr.opn
   subst hv50
   have hb := hb.mono hg1.le
   have hx := hx.mono hg1.le
   have hN := hN.mono hg1.le
   have hmm : ∀ k o, m k = some o → m1 k = some o := fun k o h => hg1.le k o (hmm k o h)
   refine wl_val (v_assign' (by conv => (lhs; whnf))) rfl ?_
   refine wl_nil ?_
   refine then_go ?_
   refine wc_seq ?_
   refine wc_seq ?_
   rcases Bool.eq_false_or_eq_true (decide ((half.length : Int) < ((at' + (recB g (UInt64.ofNat N.length) x).length : Nat) : Int))) with hg7 | hg7
   ·refine wc_draw TF.mixed ?_
    have st := st.pure (touch_drew _)
    refine fl_val 0 rfl (fun _ => (v_move' (by conv => (lhs; whnf)))) rfl (by kernel_rfl) ?_
    refine fl_val 1 rfl (fun _ => (v_move' (by conv => (lhs; whnf)))) rfl (by kernel_rfl) ?_
    refine fl_val 2 rfl (fun _ => (v_len_s Tryz.underlying23 rfl)) rfl (by kernel_rfl) ?_
    refine fl_val 3 rfl (fun _ => (v_add' (c := ((at' + (recB g (UInt64.ofNat N.length) x).length : Nat) : Int)) rfl rfl (by omega) (by omega) (by rw [hrl]; unfold recL; omega))) rfl (by kernel_rfl) ?_
    refine fl_val 4 rfl (fun _ => (v_move' (by conv => (lhs; whnf)))) rfl (by kernel_rfl) ?_
    refine fl_val 5 rfl (fun _ => (v_len_s Tryz.underlying23 rfl)) rfl (by kernel_rfl) ?_
    refine fl_val 6 rfl (fun _ => (wl_valD (v_gtr rfl rfl) hg7)) rfl (by kernel_rfl) ?_
    refine fl_val 7 rfl (fun _ => (v_move' (by conv => (lhs; whnf)))) rfl (by kernel_rfl) ?_
    refine fl_off 8 rfl rfl rfl rfl rfl rfl (by kernel_rfl) ?_
    refine fl_off 9 rfl rfl rfl rfl rfl rfl (by kernel_rfl) ?_
    refine fl_off 10 rfl rfl rfl rfl rfl rfl (by kernel_rfl) ?_
    refine fl_off 11 rfl rfl rfl rfl rfl rfl (by kernel_rfl) ?_
    refine fl_off 12 rfl rfl rfl rfl rfl rfl (by kernel_rfl) ?_
    refine fl_off 13 rfl rfl rfl rfl rfl rfl (by kernel_rfl) ?_
    refine fl_off 14 rfl rfl rfl rfl rfl rfl (by kernel_rfl) ?_
    refine fl_offd 15 rfl rfl rfl rfl rfl rfl (by kernel_rfl) ?_
    refine fl_off 16 rfl rfl rfl rfl rfl rfl (by kernel_rfl) ?_
    refine fl_offd 17 rfl rfl rfl rfl rfl rfl (by kernel_rfl) ?_
    refine fl_off 18 rfl rfl rfl rfl rfl rfl (by kernel_rfl) ?_
    refine fl_val 19 rfl (fun _ => (v_pick rfl)) rfl (by kernel_rfl) ?_
    refine fl_nil (by kernel_rfl) ⟨obl_off rfl rfl rfl rfl rfl rfl, obl_off rfl rfl rfl rfl rfl rfl, trivial⟩ ?_
    refine then_go ?_
    refine wc_true rfl ?_
    refine wc_exit (then_exit (block_miss rfl (then_exit (block_hit ?_))))
    refine then_go ?_
    refine wc_seq ?_
    have hend : recsF g q N.length (half.drop at') = [] := by
     refine recsF_none ?_
     first
      | exact nextF_short (by rw [List.length_drop]; omega)
      | (rw [hnx, if_pos (by
        simp only [Bool.or_eq_true, decide_eq_true_eq, UInt64.toNat_ofNat'] at h35
        rw [Nat.mod_eq_of_lt (by omega)] at h35
        exact h35.imp (fun h => by rw [h]; decide) id)])
      | (rw [hnx, if_neg hnn, if_neg (fun h => by have := of_decide_eq_true hg7; omega)])
      | (rw [hnx, if_neg hnn, if_neg (fun h => by simp at h70; exact h70 h.2.symm)])
    rw [hend, List.append_nil] at hrec
    refine wc_region ?_
    refine wl_val (v_move' (by conv => (lhs; whnf))) rfl ?_
    refine wl_val (v_move' (by conv => (lhs; whnf))) rfl ?_
    refine wl_val (v_assign' (by conv => (lhs; whnf))) rfl ?_
    refine wl_val (v_assign' (by conv => (lhs; whnf))) rfl ?_
    refine wl_nil ?_
    refine then_go ?_
    refine wc_ret ?_
    obtain ⟨m3, hg3, hm3, st3⟩ := st.freezeR (i := 0) rfl (by simp)
    have st3 : St m m3 [] wI _ [] := st3
    exact ret2 rfl rfl (st3.out ⟨_, N, ⟨row_SlM (m := m3) (st.at (i := 0) rfl) hm3, hN.mono hg3.le⟩, hrec.symm, by rw [hrec, ← hate]; rfl⟩)
   ·refine wc_draw TF.mixed ?_
    have st := st.pure (touch_drew _)
    refine fl_val 0 rfl (fun _ => (v_move' (by conv => (lhs; whnf)))) rfl (by kernel_rfl) ?_
    refine fl_val 1 rfl (fun _ => (v_move' (by conv => (lhs; whnf)))) rfl (by kernel_rfl) ?_
    refine fl_val 2 rfl (fun _ => (v_len_s Tryz.underlying23 rfl)) rfl (by kernel_rfl) ?_
    refine fl_val 3 rfl (fun _ => (v_add' (c := ((at' + (recB g (UInt64.ofNat N.length) x).length : Nat) : Int)) rfl rfl (by omega) (by omega) (by rw [hrl]; unfold recL; omega))) rfl (by kernel_rfl) ?_
    refine fl_val 4 rfl (fun _ => (v_move' (by conv => (lhs; whnf)))) rfl (by kernel_rfl) ?_
    refine fl_val 5 rfl (fun _ => (v_len_s Tryz.underlying23 rfl)) rfl (by kernel_rfl) ?_
    refine fl_val 6 rfl (fun _ => (wl_valD (v_gtr rfl rfl) hg7)) rfl (by kernel_rfl) ?_
    refine fl_val 7 rfl (fun _ => (v_move' (by conv => (lhs; whnf)))) rfl (by kernel_rfl) ?_
    refine fl_on 8 rfl rfl rfl rfl (fun _ => (v_move' (by conv => (lhs; whnf)))) rfl (by kernel_rfl) ?_
    refine fl_on 9 rfl rfl rfl rfl (fun _ => (v_move' (by conv => (lhs; whnf)))) rfl (by kernel_rfl) ?_
    refine fl_on 10 rfl rfl rfl rfl (fun _ => (v_move' (by conv => (lhs; whnf)))) rfl (by kernel_rfl) ?_
    refine fl_on 11 rfl rfl rfl rfl (fun _ => (v_move' (by conv => (lhs; whnf)))) rfl (by kernel_rfl) ?_
    refine fl_on 12 rfl rfl rfl rfl (fun _ => (v_len_s Tryz.underlying23 rfl)) rfl (by kernel_rfl) ?_
    refine fl_on 13 rfl rfl rfl rfl (fun _ => (v_add' (c := ((at' + (recB g (UInt64.ofNat N.length) x).length : Nat) : Int)) rfl rfl (by omega) (by omega) (by rw [hrl]; unfold recL; omega))) rfl (by kernel_rfl) ?_
    refine fl_on 14 rfl rfl rfl rfl (fun _ => (v_sls at' (at' + (recB g (UInt64.ofNat N.length) x).length) Tryz.underlying23 TF.t5 rfl ⟨_, _, rfl, rfl⟩ ⟨_, _, rfl, rfl⟩ (by omega) (by have := of_decide_eq_false hg7; omega))) rfl (by kernel_rfl) ?_
    refine fl_ond 15 rfl rfl rfl rfl (v_b2s Tryz.underlying23 Tryz.underlying5 Tryz.underlying9 st.im (hb.partB at' (at' + (recB g (UInt64.ofNat N.length) x).length) (by omega) (by have := of_decide_eq_false hg7; omega)) rfl) rfl (by kernel_rfl) ?_
    refine fl_on 16 rfl rfl rfl rfl (fun _ => (v_move' (by conv => (lhs; whnf)))) rfl (by kernel_rfl) ?_
    refine fl_ond 17 rfl rfl rfl rfl (v_b2s Tryz.underlying23 Tryz.underlying5 Tryz.underlying9 st.im hr rfl) rfl (by kernel_rfl) ?_
    refine fl_on 18 rfl rfl rfl rfl (fun _ => (v_nesJ rfl rfl)) rfl (by kernel_rfl) ?_
    refine fl_val 19 rfl (fun _ => (v_pick rfl)) rfl (by kernel_rfl) ?_
    refine fl_nil (by kernel_rfl) ⟨obl_on rfl rfl rfl rfl rfl (v_b2s Tryz.underlying23 Tryz.underlying5 Tryz.underlying9 st.im hr rfl), obl_on rfl rfl rfl rfl rfl (v_b2s Tryz.underlying23 Tryz.underlying5 Tryz.underlying9 st.im (hb.partB at' (at' + (recB g (UInt64.ofNat N.length) x).length) (by omega) (by have := of_decide_eq_false hg7; omega)) rfl), trivial⟩ ?_
    refine then_go ?_
    refine wc_cond rfl (fun h70 => ?_) (fun h70 => ?_)
    ·refine wc_exit (then_exit (block_miss rfl (then_exit (block_hit ?_))))
     refine then_go ?_
     refine wc_seq ?_
     have hend : recsF g q N.length (half.drop at') = [] := by
      refine recsF_none ?_
      first
       | exact nextF_short (by rw [List.length_drop]; omega)
       | (rw [hnx, if_pos (by
         simp only [Bool.or_eq_true, decide_eq_true_eq, UInt64.toNat_ofNat'] at h35
         rw [Nat.mod_eq_of_lt (by omega)] at h35
         exact h35.imp (fun h => by rw [h]; decide) id)])
       | (rw [hnx, if_neg hnn, if_neg (fun h => by have := of_decide_eq_true hg7; omega)])
       | (rw [hnx, if_neg hnn, if_neg (fun h => by simp at h70; exact h70 h.2.symm)])
     rw [hend, List.append_nil] at hrec
     refine wc_region ?_
     refine wl_val (v_move' (by conv => (lhs; whnf))) rfl ?_
     refine wl_val (v_move' (by conv => (lhs; whnf))) rfl ?_
     refine wl_val (v_assign' (by conv => (lhs; whnf))) rfl ?_
     refine wl_val (v_assign' (by conv => (lhs; whnf))) rfl ?_
     refine wl_nil ?_
     refine then_go ?_
     refine wc_ret ?_
     obtain ⟨m3, hg3, hm3, st3⟩ := st.freezeR (i := 0) rfl (by simp)
     have st3 : St m m3 [] wI _ [] := st3
     exact ret2 rfl rfl (st3.out ⟨_, N, ⟨row_SlM (m := m3) (st.at (i := 0) rfl) hm3, hN.mono hg3.le⟩, hrec.symm, by rw [hrec, ← hate]; rfl⟩)
    ·refine wc_skip ?_
     refine then_go ?_
     refine wc_seq ?_
     have hle : at' + (recB g (UInt64.ofNat N.length) x).length ≤ half.length := by have := of_decide_eq_false hg7; omega
     have hnxs : nextF g (UInt64.ofNat N.length) (half.drop at') = some x := by
      rw [hnx, if_neg hnn, if_pos ⟨hle, by have := of_decide_eq_false h70; simp at this; exact this.symm⟩]
     refine wc_region ?_
     refine wl_val (v_assign' (by conv => (lhs; whnf))) rfl ?_
     refine wl_nil ?_
     refine then_go ?_
     refine wc_seq ?_
     have st := nilRow st 5 1
     refine wc_region ?_
     refine wl_val (v_move' (by conv => (lhs; whnf))) rfl ?_
     refine wl_val (v_move' (by conv => (lhs; whnf))) rfl ?_
     refine wl_val (v_move' (by conv => (lhs; whnf))) rfl ?_
     refine wl_appB (l := []) (l2 := x) st Tryz.underlying23 Tryz.underlying23 (.inr ⟨_, rfl⟩) TF.t5 TF.z5 rfl rfl (hx.src st.im (one_bs _)) (by simp; omega) (by simp; omega) rfl ?_
     intro v74 w st hv74
     have st0 := st
     obtain ⟨m2, hg2, hm2, st⟩ := st.freezeR (i := 0) rfl (by simp)
     have hxv : SlM m2 v74 1 x.length (bs x) := row_SlM (m := m2) (st0.at (i := 0) rfl) hm2
     have st : St m m2 [] wI w [lrE (.slice la N.length lc) N] := st
     have hN := hN.mono hg2.le
     have hmm : ∀ k o, m k = some o → m2 k = some o := fun k o h => hg2.le k o (hmm k o h)
     refine wl_svOne (v := v74) Tryz.underlying41 TF.t23 TF.z23 hv74 rfl st rfl ?_
     intro b75 w st
     refine wl_lrApp (x := x) 0 st rfl hv74 rfl rfl (by omega) rfl ?_
     intro v76 w st
     refine wl_val (v_assign' (by conv => (lhs; whnf))) rfl ?_
     refine wl_nil ?_
     refine then_go ?_
     refine wc_region ?_
     refine wl_val (v_move' (by conv => (lhs; whnf))) rfl ?_
     refine wl_val (v_move' (by conv => (lhs; whnf))) rfl ?_
     refine wl_val (v_len_s Tryz.underlying23 rfl) rfl ?_
     refine wl_val (v_add' (c := ((at' + (recB g (UInt64.ofNat N.length) x).length : Nat) : Int)) rfl rfl (by omega) (by omega) (by omega)) rfl ?_
     refine wl_val (v_assign' (by conv => (lhs; whnf))) rfl ?_
     refine wl_nil ?_
     refine block_go (then_go ?_)
     obtain ⟨k1, k2, k3, k4, k5⟩ := nextF_len hnxs
     rw [List.length_drop] at hq k2
     obtain ⟨q, rfl⟩ : ∃ q', q = q' + 1 := ⟨q - 1, by omega⟩
     rw [recsF_some hnxs, List.drop_drop] at hrec
     have e2 : 64 + sizeL ((N ++ [(x, v74)]).map (·.1)) = at' + recL x.length := by rw [List.map_append, List.map_singleton, sizeL_snoc]; show 64 + (sizeL (N.map (·.1)) + recL x.length) = _; omega
     refine ⟨q, by simp, m2, v76, N ++ [(x, v74)], by rw [e2, List.length_drop]; omega, by rw [e2]; omega, ?_, rfl, rfl, rfl, by rw [e2, ← hrl]; rfl, st, hmm, hN.snoc hxv⟩
     rw [e2, hrec, List.map_append, List.length_append, List.append_assoc]
     rfl
 ·refine wc_exit (then_exit (then_exit (block_hit ?_)))
  refine then_go ?_
  refine wc_seq ?_
  have hend : recsF g q N.length (half.drop at') = [] := by
   refine recsF_none ?_
   first
    | exact nextF_short (by rw [List.length_drop]; omega)
    | (rw [hnx, if_pos (by
      simp only [Bool.or_eq_true, decide_eq_true_eq, UInt64.toNat_ofNat'] at h35
      rw [Nat.mod_eq_of_lt (by omega)] at h35
      exact h35.imp (fun h => by rw [h]; decide) id)])
    | (rw [hnx, if_neg hnn, if_neg (fun h => by have := of_decide_eq_true hg7; omega)])
    | (rw [hnx, if_neg hnn, if_neg (fun h => by simp at h70; exact h70 h.2.symm)])
  rw [hend, List.append_nil] at hrec
  refine wc_region ?_
  refine wl_val (v_move' (by conv => (lhs; whnf))) rfl ?_
  refine wl_val (v_move' (by conv => (lhs; whnf))) rfl ?_
  refine wl_val (v_assign' (by conv => (lhs; whnf))) rfl ?_
  refine wl_val (v_assign' (by conv => (lhs; whnf))) rfl ?_
  refine wl_nil ?_
  refine then_go ?_
  refine wc_ret ?_
  obtain ⟨m3, hg3, hm3, st3⟩ := st.freezeR (i := 0) rfl (by simp)
  have st3 : St m m3 [] wI _ [] := st3
  exact ret2 rfl rfl (st3.out ⟨_, N, ⟨row_SlM (m := m3) (st.at (i := 0) rfl) hm3, hN.mono hg3.le⟩, hrec.symm, by rw [hrec, ← hate]; rfl⟩)
end
end Go.Proofs.YtladpaehbolghaaGreat
